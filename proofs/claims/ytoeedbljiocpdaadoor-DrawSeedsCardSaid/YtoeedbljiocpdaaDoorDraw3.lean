/- POLYS OUT OF SEEDS: Even, the program's and the document's. -/
import Derived.Test.YtoeedbljiocpdaaDoorDraw2
namespace Go.Proofs.YtoeedbljiocpdaaDoor
open Go Go.Ev
set_option maxRecDepth 20000
set_option linter.unusedVariables false
/-- the two numbers of three bytes -/
def cx (l : List B8) (t : Nat) : Int := (((l.getD (3 * t) 0).toNat + 256 * ((l.getD (3 * t + 1) 0).toNat % 16) : Nat) : Int)
def cy (l : List B8) (t : Nat) : Int := (((l.getD (3 * t + 1) 0).toNat / 16 + 16 * (l.getD (3 * t + 2) 0).toNat : Nat) : Int)
def psh (o : List Int) (x : Int) : List Int := if x < 3329 ∧ o.length < 256 then o ++ [x] else o
def evs (l : List B8) : Nat → List Int
  | 0 => []
  | t + 1 => psh (psh (evs l t) (cx l t)) (cy l t)
@[irreducible] def evn (l : List B8) : List Int := evs (spOut 168 31 l 4095) 1365 ++ List.replicate (256 - (evs (spOut 168 31 l 4095) 1365).length) 0
def evenC (n : Nat) : Int := if n = 32 then 0 else 3
@[irreducible] def evenL (l : List B8) (i j : B8) : List Int := if l.length = 32 then evn (l ++ [i, j]) else []
theorem psh_le {o : List Int} (h : o.length ≤ 256) (x : Int) : (psh o x).length ≤ 256 := by
  unfold psh; split
  · rw [List.length_append]; simp; omega
  · exact h
theorem evs_le (l : List B8) (t : Nat) : (evs l t).length ≤ 256 := by
  induction t with
  | zero => simp [evs]
  | succ t ih => exact psh_le (psh_le ih _) _
theorem psh_full {o : List Int} (h : o.length = 256) (x : Int) : psh o x = o := by unfold psh; rw [if_neg (by omega)]
theorem evs_full (l : List B8) (t k : Nat) (h : (evs l t).length = 256) : evs l (t + k) = evs l t := by
  induction k with
  | zero => rfl
  | succ k ih =>
    rw [← Nat.add_assoc]
    show psh (psh (evs l (t + k)) _) _ = _
    rw [ih, psh_full h, psh_full h]
theorem evs_take (l : List B8) (m t : Nat) (h : 3 * t ≤ m) (hm : m ≤ l.length) : evs (l.take m) t = evs l t := by
  have hg : ∀ i, i < m → (l.take m).getD i 0 = l.getD i 0 := fun i hi => by
    simp [List.getD_eq_getElem?_getD, hi]
  induction t with
  | zero => rfl
  | succ t ih =>
    show psh (psh _ _) _ = psh (psh _ _) _
    rw [ih (by omega)]
    have e1 : cx (l.take m) t = cx l t := by unfold cx; rw [hg _ (by omega), hg _ (by omega)]
    have e2 : cy (l.take m) t = cy l t := by unfold cy; rw [hg _ (by omega), hg _ (by omega)]
    rw [e1, e2]
theorem unpack12 (a b c : B8) : unpack 12 [a, b, c] = [((a.toNat + 256 * (b.toNat % 16) : Nat) : Int), ((b.toNat / 16 + 16 * c.toNat : Nat) : Int)] := by
  have ha := a.isLt
  have hb := b.isLt
  have hc := c.isLt
  unfold unpack
  have e : List.range (8 * [a, b, c].length / 12) = [0, 1] := by
    rw [show 8 * [a, b, c].length / 12 = 2 by simp]
    rfl
  rw [e]
  simp only [List.map_cons, List.map_nil, ptk, num]
  rw [show 2 ^ (12 * 0) = 1 from rfl, show 2 ^ (12 * 1) = 4096 from rfl]
  congr 1
  · congr 1; omega
  · congr 2; omega
/-- bytes three by three -/
theorem squeeze_three (rate : Nat) (c : List B64 × Nat) (t n : Nat) (h : 3 * t + 3 ≤ n) :
    (squeeze rate (squeeze rate c (3 * t)).2 3).1 = [(squeeze rate c n).1.getD (3 * t) 0, (squeeze rate c n).1.getD (3 * t + 1) 0, (squeeze rate c n).1.getD (3 * t + 2) 0] := by
  obtain ⟨k, rfl⟩ : ∃ k, n = 3 * t + (3 + k) := ⟨n - 3 * t - 3, by omega⟩
  have h1 : (squeeze rate c (3 * t)).1.length = 3 * t := length_squeeze _ _ _
  have h2 : (squeeze rate (squeeze rate c (3 * t)).2 3).1.length = 3 := length_squeeze _ _ _
  rw [squeeze_add, squeeze_add]
  generalize (squeeze rate (squeeze rate c (3 * t)).2 3).1 = u at h2
  generalize (squeeze rate c (3 * t)).1 = v at h1
  have hg : ∀ i, i < 3 → (v ++ (u ++ (squeeze rate (squeeze rate (squeeze rate c (3 * t)).2 3).2 k).1)).getD (3 * t + i) 0 = u.getD i 0 := fun i hi => by
    simp only [List.getD_eq_getElem?_getD]
    rw [List.getElem?_append_right (by omega), List.getElem?_append_left (by omega), h1, Nat.add_sub_cancel_left]
  have e0 := hg 0 (by omega)
  have e1 := hg 1 (by omega)
  have e2 := hg 2 (by omega)
  rw [Nat.add_zero] at e0
  rw [e0, e1, e2]
  match u, h2 with
  | [a, b, c], _ => rfl
theorem draw_Even_ok (x : SlV) (l : List B8) (hl : l.length = 32) (i j : B8) (w : World) (hx : Bytes w x l) :
    Ok Pr f_draw_Even [.slice x.a x.n x.c, .int .u8 (i.toNat : Int), .int .u8 (j.toNat : Int)] w fun v w' => Gave2 t_int 1 w w' v (i64s (evn (l ++ [i, j]))) 0 := by
  refine V_draw_Even_of ?_
  unfold V_draw_Even
  have hxl := hx.len
  refine ite_false (by simp; omega) (call_of (sponge_New_ok 168 31 rfl w) ?_)
  rintro _ w1 ⟨b, rfl, h1, hb, m1⟩
  have H := (Mine.start w).gotblk m1 h1 hb
  refine asP_p (H.nw fun p w2 H _ => H.nw fun p1 w3 H _ => ?_)
  have o1 : off [b] x := Sl.off_new hx (by omega) fun c hc => by rw [List.mem_singleton.1 hc]; exact hb
  have o2 : off [b] ⟨some ⟨p, 0, none⟩, 2, 2⟩ := fun _ a ha hc => by
    simp only [Option.some.injEq] at ha
    subst ha
    exact H.apart 1 0 _ _ (by omega) rfl rfl p (by simp [Res.blk]) hc
  refine Mine.swrite H 0 (s := (z25, 0)) rfl (by omega) (fits0 (by omega)) (parts := ⟨some ⟨p1, 0, none⟩, 2, 2⟩) (ls := [l, [i, j]]) (Parts.of2b (H.blk 2 rfl) (fun hc => H.apart 2 0 _ _ (by omega) rfl rfl p1 (by simp [Res.blk]) hc) (hx.mod0 H.mod) o1 (H.blkBytes 1 (l := [i, j]) rfl) o2) (small2b rfl (by omega) (by simp)) fun w4 m4 H => ?_
  rw [show [l, [i, j]].flatten = l ++ [i, j] by simp] at H
  refine H.mkB (l := 0) (c := 256) elt_i64 rfl rfl (by omega) (by omega) (by omega) fun o w5 H _ _ => ?_
  rw [zc_i64, zeroRow_i64] at H
  have hf : Fits 168 (absorb 168 (z25, 0) (l ++ [i, j])) := (fits0 (by omega)).absorb _
  have ez : spOut 168 31 (l ++ [i, j]) 4095 = (squeeze 168 (close 168 31 (absorb 168 (z25, 0) (l ++ [i, j]))) 4095).1 := by
    rw [show (4095 : Int) = ((4095 : Nat) : Int) from rfl, spOut_nat _ _ _ _ (by omega) (by omega), refOut_eq 168 (by omega) (by omega) rfl]
  have een : evn (l ++ [i, j]) = evs (spOut 168 31 (l ++ [i, j]) 4095) 1365 ++ List.replicate (256 - (evs (spOut 168 31 (l ++ [i, j]) 4095) 1365).length) 0 := by unfold evn; rfl
  rw [een, ez]
  generalize absorb 168 (z25, 0) (l ++ [i, j]) = s0 at *
  have h3 := fun t (ht : 3 * t + 3 ≤ 4095) => squeeze_three 168 (close 168 31 s0) t 4095 ht
  clear een ez
  generalize (squeeze 168 (close 168 31 s0) 4095).1 = z at *
  let R0 (t : Nat) : List Res := [spr b (gst 168 31 s0 (3 * t)).1 168 (gst 168 31 s0 (3 * t)).2 31 (ggv (3 * t)), .blk p [.int .u8 (i.toNat : Int), .int .u8 (j.toNat : Int)] t_uint8, .blk p1 [.slice x.a x.n x.c, .slice (some ⟨p, 0, none⟩) 2 2] t_s_uint8]
  let fl (o : List Int) : List Value := i64s (o ++ List.replicate (256 - o.length) 0)
  refine loop2_of (fun (out : SlV) (got : Int) w' => ∃ t : Nat, t ≤ 1365 ∧ got = 3 + 3 * (t : Int) ∧ out = ⟨some ⟨o, 0, none⟩, (evs z t).length, 256⟩ ∧ Mine w [] w' (R0 t ++ [.blk o (fl (evs z t)) t_int])) (fun _ got _ => (5000 - got).toNat)
    ⟨0, by omega, by omega, rfl, H⟩ ?_
  rintro again out got w6 ⟨t, ht, rfl, rfl, H⟩ hag
  have hev := evs_le z t
  refine ite_intro (fun hc => ?_) (fun hc => ?_)
  · simp only [Bool.and_eq_true, decide_eq_true_eq] at hc
    refine call_of (sponge_Read_ok (by omega) (by omega) (gives := ggv (3 * t)) (gst_ok (suf := 31) (by omega) hf (3 * t)) b 3 (by omega) (by omega) _ (H.blk 0 rfl)) ?_
    rintro _ w7 ⟨y, rfl, hy, h7, m7⟩
    rw [ready_gst] at hy h7
    have e1 : (squeeze 168 (squeeze 168 (close 168 31 s0) (3 * t)).2 3).2 = gst 168 31 s0 (3 * (t + 1)) := by
      unfold gst
      rw [if_neg (by omega), Nat.mul_add, squeeze_add]
    have e2 : true = ggv (3 * (t + 1)) := by unfold ggv; simp
    rw [h3 t (by omega)] at hy
    rw [e1, e2] at h7
    have H := H.updGot (r' := spr b (gst 168 31 s0 (3 * (t + 1))).1 168 (gst 168 31 s0 (3 * (t + 1))).2 31 (ggv (3 * (t + 1)))) (n := .row t_uint8 1 y (u8s [z.getD (3 * t) 0, z.getD (3 * t + 1) 0, z.getD (3 * t + 2) 0])) 0 rfl m7 (fun c hc => hc) h7 (fun c hc => hc) hy.lo (fun b hb => (Own.row_ge hy b hb).1)
    change Mine w [] w7 (R0 (t + 1) ++ [.blk o (fl (evs z t)) t_int, .row t_uint8 1 y (u8s [z.getD (3 * t) 0, z.getD (3 * t + 1) 0, z.getD (3 * t + 2) 0])]) at H
    refine asSl_s (call_of (bits_Unpack_ok 12 (by omega) (by omega) y _ (by simp) _ hy.bytes) ?_)
    rintro _ w8 ⟨u, rfl, hu, m8⟩
    have H := H.got m8 hu
    rw [unpack12] at H hu
    have hun := hu.nums.len
    let pq (q : Nat) : List Int := match q with | 0 => evs z t | 1 => psh (evs z t) (cx z t) | _ => evs z (t + 1)
    have hpq : ∀ q, (pq q).length ≤ 256 := fun q => match q with
      | 0 => hev
      | 1 => psh_le hev _
      | q + 2 => evs_le z (t + 1)
    have hps : ∀ q, q < 2 → pq (q + 1) = psh (pq q) ([cx z t, cy z t].getD q 0) := fun q hq => match q, hq with
      | 0, _ => rfl
      | 1, _ => rfl
    refine asSl_s ?_
    refine loop2_up 0 2 (fun q (out : SlV) w' => out = ⟨some ⟨o, 0, none⟩, (pq q).length, 256⟩ ∧ Mine w [] w' (R0 (t + 1) ++ [.blk o (fl (pq q)) t_int, .row t_uint8 1 y (u8s [z.getD (3 * t) 0, z.getD (3 * t + 1) 0, z.getD (3 * t + 2) 0]), .row t_int 1 u (i64s [cx z t, cy z t])])) rfl (by omega) ⟨rfl, H⟩ ?_ ?_
    · rintro again1 q out w9 _ hq ⟨rfl, H⟩ hag1
      have hl := hpq q
      refine ite_true (decide_eq_true (by rw [← hun]; simp; omega)) ((H.nums 5 rfl).ld (by simpa using hq) rfl ?_)
      have hp := hps q hq
      unfold psh at hp
      generalize [cx z t, cy z t].getD q 0 = v at *
      refine ite_intro (fun hc => ?_) (fun hc => ?_)
      · simp only [Bool.and_eq_true, decide_eq_true_eq] at hc
        rw [if_pos (by omega)] at hp
        refine H.nw fun p2 w10 H _ => ?_
        have hsl := (H.blk 6 rfl).sl 1 1 1 (by simp) (by omega)
        have hn1 : (pq q).length + 1 ≤ 256 := by omega
        refine H.appB (x := ⟨some ⟨p2, 0, none⟩, 1, 1⟩) (n := (pq q).length) (c := 256) 3 elt_i64 rfl (by simp only [fl, length_i64s, List.length_append, List.length_replicate]; omega) hn1 hsl (by simp [isOne]) fun w11 H => ⟨⟨by omega, by omega⟩, hag1 _ w11 ⟨?_, ?_⟩⟩
        · rw [hp, List.length_append]; rfl
        · have e : (fl (pq q)).take ((pq q).length * 1) ++ [Value.int .i64 v].take (1 * 1) ++ (fl (pq q)).drop ((pq q).length * 1 + ([Value.int .i64 v].take (1 * 1)).length) = fl (pq (q + 1)) := by
            simp only [fl, hp, Nat.mul_one, i64s_take, i64s_drop, List.take_succ_cons, List.take_zero, List.length_cons, List.length_nil]
            rw [show [Value.int .i64 v] = i64s [v] from rfl, ← i64s_append, ← i64s_append]
            congr 1
            rw [List.take_append_of_le_length (Nat.le_refl _), List.take_length, List.drop_append, List.drop_of_length_le (by omega), List.nil_append, Nat.add_sub_cancel_left, List.drop_replicate, List.length_append]
            simp only [List.length_cons, List.length_nil]
            congr 2
          rw [e] at H
          exact H.take 6
      · rw [if_neg (fun h => by simp only [Bool.and_eq_false_iff, decide_eq_false_iff_not] at hc; omega)] at hp
        refine ⟨⟨by omega, by omega⟩, hag1 _ w9 ⟨by rw [hp], ?_⟩⟩
        rw [hp]; exact H
    · rintro again1 out w9 ⟨rfl, H⟩
      refine ite_false (decide_eq_false (by rw [← hun]; simp)) ⟨⟨by omega, by omega⟩, ?_⟩
      exact hag _ _ w9 ⟨t + 1, by omega, by omega, rfl, H.take 4⟩ (by omega)
  · have hend : evs z 1365 = evs z t := by
      simp only [Bool.and_eq_false_iff, decide_eq_false_iff_not] at hc
      rcases hc with hc | hc
      · rw [show t = 1365 by omega]
      · obtain ⟨k, hk⟩ : ∃ k, 1365 = t + k := ⟨1365 - t, by omega⟩
        rw [hk]; exact evs_full z t k (by have : ¬ (((evs z t).length : Int) < 256) := hc; omega)
    rw [hend]
    generalize evs z t = e at *
    have hu : Pr.underlying t_int = some (.int .i64) := by kernel_rfl
    refine ⟨⟨by show -9223372036854775808 ≤ (256 : Int) - (e.length : Int); omega, by show (256 : Int) - (e.length : Int) ≤ 9223372036854775807; omega⟩, ?_⟩
    have hlen : (fl e).length = 256 := by simp only [fl, length_i64s, List.length_append, List.length_replicate]; omega
    refine H.appZ (n := e.length) (c := 256) (m := 256 - e.length) 3 elt_i64 hu zc_i64 rfl rfl (by show (256 : Int) - (e.length : Int) = _; omega) hlen (by omega) (by omega) (by omega) fun w7 H => ?_
    have ee : (fl e).take e.length ++ List.replicate (256 - e.length) (Value.int .i64 0) ++ (fl e).drop (e.length + (256 - e.length)) = fl e := by
      rw [List.drop_of_length_le (by omega), List.append_nil]
      simp only [fl]
      rw [i64s_take, List.take_append_of_le_length (Nat.le_refl _), List.take_length, i64s_append]
      congr 1
      simp [i64s, i64]
    rw [ee] at H
    rw [show e.length + (256 - e.length) = 256 by omega]
    have H := Mine.asRow (L := R0 t ++ [.blk o (fl e) t_int]) H 3 1 256 256 rfl (by omega) (by omega) (by simp only [maxLen]; omega)
    rw [List.take_of_length_le (by omega)] at H
    exact Gave2.yes (y := ⟨some ⟨o, 0, none⟩, 256, 256⟩) (H.fresh0 3 rfl) H.mod
theorem draw_Even_all (x : SlV) (l : List B8) (i j : B8) (w : World) (hx : Bytes w x l) :
    Ok Pr f_draw_Even [.slice x.a x.n x.c, .int .u8 (i.toNat : Int), .int .u8 (j.toNat : Int)] w fun v w' => Gave2 t_int 1 w w' v (i64s (evenL l i j)) (evenC l.length) := by
  have hxl := hx.len
  by_cases h32 : l.length = 32
  · have e1 : evenL l i j = evn (l ++ [i, j]) := by unfold evenL; rw [if_pos h32]
    have e2 : evenC l.length = 0 := by unfold evenC; rw [if_pos h32]
    rw [e1, e2]
    exact draw_Even_ok x l h32 i j w hx
  · have e1 : evenL l i j = [] := by unfold evenL; rw [if_neg h32]
    have e2 : evenC l.length = 3 := by unfold evenC; rw [if_neg h32]
    rw [e1, e2]
    refine V_draw_Even_of ?_
    unfold V_draw_Even
    refine ite_true (by simp; omega) (call_of (draw_fault_ok 3 (by decide) w) ?_)
    rintro e w1 ⟨h1, m1⟩
    exact Gave2.no h1 m1
/-! ### the document's -/
theorem ref6_even_ok (T : Nat) (x : SlV) (l : List B8) (hl : l.length = 3 * T) (hT : T ≤ 1000000) (w : World) (hx : Bytes w x l) :
    Ok Pr f_ref6_even [.slice x.a x.n x.c] w fun v w' => ∃ y : SlV, v = .slice y.a y.n y.c ∧ Own w' w.heap.size t_int 1 y (i64s (evs l T)) ∧ Mod [] w w' := by
  refine V_ref6_even_of ?_
  unfold V_ref6_even
  have hxl := hx.len
  refine loop2_of (fun (out : SlV) (k : Int) w' => ∃ t : Nat, t ≤ T ∧ k = ((3 * t : Nat) : Int) ∧ Mine w [] w' [.row t_int 1 out (i64s (evs l t))]) (fun _ k _ => 3 * T + 3 - k.toNat) ⟨0, by omega, rfl, (Mine.start w).nilrow t_int 1⟩ ?_
  rintro again out k w1 ⟨t, ht, rfl, H⟩ hag
  have hev := evs_le l t
  have hon := (H.nums 0 rfl).len
  refine ⟨⟨by omega, by omega⟩, ite_intro (fun hc => ?_) (fun hc => ?_)⟩
  · have hc := of_decide_eq_true hc
    have b0 := (l.getD (3 * t) 0).isLt
    have b1 := (l.getD (3 * t + 1) 0).isLt
    have b2 := (l.getD (3 * t + 2) 0).isLt
    have hx1 := hx.mod0 H.mod
    have H1 := H.drew
    have hx2 := hx.mod0 H1.mod
    have H2 := H1.drew
    have hx3 := hx.mod0 H2.mod
    refine hx2.ld (by omega) ⟨⟨by omega, by omega⟩, ⟨by omega, by omega⟩, ?_⟩
    rw [show ((3 * t : Nat) : Int) + 1 = ((3 * t + 1 : Nat) : Int) by omega, show ((3 * t : Nat) : Int) + 2 = ((3 * t + 2 : Nat) : Int) by omega]
    refine hx2.ld (by omega) ⟨⟨by omega, by omega⟩, by omega, ⟨by omega, by omega⟩, ⟨by omega, by omega⟩, ?_⟩
    unfold lt
    refine ⟨⟨by omega, by omega⟩, hx3.ld (by omega) ⟨⟨by omega, by omega⟩, ⟨by omega, by rw [show IntKind.max .i64 = 9223372036854775807 by decide]; omega⟩, ⟨by omega, by omega⟩, hx3.ld (by omega) ⟨⟨by omega, by omega⟩, ⟨by omega, by omega⟩, ⟨by omega, by omega⟩, ?_⟩⟩⟩
    rw [show (((l.getD (3 * t) 0).toNat : Nat) : Int) + 256 * ((((l.getD (3 * t + 1) 0).toNat : Nat) : Int) % 16) = cx l t by unfold cx; omega, show (((l.getD (3 * t + 1) 0).toNat : Nat) : Int) / 16 + 16 * (((l.getD (3 * t + 2) 0).toNat : Nat) : Int) = cy l t by unfold cy; omega]
    have hes : evs l (t + 1) = psh (psh (evs l t) (cx l t)) (cy l t) := rfl
    generalize cx l t = u at *
    generalize cy l t = v at *
    refine join1_of fun go hgo => ?_
    have rest : ∀ (out1 : SlV) (o : List Int) (w2 : World), o = psh (evs l t) u → Mine w [] w2 [.row t_int 1 out1 (i64s o)] → go out1 w2 := by
      intro out1 o w2 ho H
      refine hgo out1 w2 ?_
      have hle : o.length ≤ 256 := by rw [ho]; exact psh_le hev _
      have hn := (H.nums 0 rfl).len
      rw [← ho] at hes
      unfold psh at hes
      refine ite_intro (fun hc => ?_) (fun hc => ?_)
      · simp only [Bool.and_eq_true, decide_eq_true_eq] at hc
        rw [if_pos (by omega)] at hes
        refine H.appN1 0 elt_i64 rfl (by omega) fun out' w3 H hon' => ⟨⟨by omega, by omega⟩, hag _ _ w3 ⟨t + 1, by omega, by omega, ?_⟩ (by omega)⟩
        rw [hes]; exact H
      · rw [if_neg (fun h => by simp only [Bool.and_eq_false_iff, decide_eq_false_iff_not] at hc; omega)] at hes
        refine ⟨⟨by omega, by omega⟩, hag _ _ w2 ⟨t + 1, by omega, by omega, ?_⟩ (by omega)⟩
        rw [hes]; exact H
    refine ite_intro (fun hc => ?_) (fun hc => ?_)
    · simp only [Bool.and_eq_true, decide_eq_true_eq] at hc
      refine H2.appN1 0 elt_i64 rfl (by omega) fun out' w3 H hon' => rest out' _ w3 ?_ H
      unfold psh; rw [if_pos (by omega)]
    · refine rest out _ _ ?_ H2
      unfold psh; rw [if_neg (fun h => by simp only [Bool.and_eq_false_iff, decide_eq_false_iff_not] at hc; omega)]
  · have hc := of_decide_eq_false hc
    obtain rfl : t = T := by omega
    exact ⟨out, rfl, H.fresh0 0 rfl, H.mod⟩
theorem ref6_Even_ok (x : SlV) (l : List B8) (hl : l.length = 32) (i j : B8) (w : World) (hx : Bytes w x l) :
    Ok Pr f_ref6_Even [.slice x.a x.n x.c, .int .u8 (i.toNat : Int), .int .u8 (j.toNat : Int)] w fun v w' => GaveC t_int 1 w w' v (i64s (evn (l ++ [i, j]))) 0 := by
  refine V_ref6_Even_of ?_
  unfold V_ref6_Even
  have hxl := hx.len
  have elt := elt_u8
  refine ite_false (by simp; omega) ?_
  refine (Mine.start w).clone8 elt_u8 hx (by omega) fun y w1 H hy => H.nw fun p w2 H _ => ?_
  refine H.app8 (x := ⟨some ⟨p, 0, none⟩, 2, 2⟩) 0 elt_u8 rfl (H.blkBytes 1 (l := [i, j]) rfl) (by show y.n + 2 ≤ _; omega) fun u w3 H hu => ?_
  have een : evn (l ++ [i, j]) = evs (spOut 168 31 (l ++ [i, j]) 4095) 1365 ++ List.replicate (256 - (evs (spOut 168 31 (l ++ [i, j]) 4095) 1365).length) 0 := by unfold evn; rfl
  have e840 := spOut_take 168 31 (l ++ [i, j]) 840 4095 (by omega) (by omega)
  have hzl := spOut_len 168 31 (l ++ [i, j]) 4095 (by omega)
  rw [show ((4095 : Nat) : Int) = 4095 from rfl] at e840 hzl
  rw [show ((840 : Nat) : Int) = 840 from rfl] at e840
  rw [een]
  clear een
  refine call_of (ref2_Shake128_ok 840 u (l ++ [i, j]) _ (H.bytes 0 rfl) (by simp; omega)) ?_
  rintro _ w4 ⟨a, rfl, ha, m4⟩
  rw [← e840] at ha
  have H := H.got m4 ha
  have sh2 := fun (u : SlV) (w : World) (hu : Bytes w u (l ++ [i, j])) => ref2_Shake128_ok 4095 u (l ++ [i, j]) w hu (by simp; omega)
  generalize spOut 168 31 (l ++ [i, j]) 4095 = z at *
  obtain ⟨e, he⟩ : ∃ e, e = evs z 1365 := ⟨_, rfl⟩
  have hel : e.length ≤ 256 := by rw [he]; exact evs_le z 1365
  rw [← he]
  refine asSl_s (call_of (ref6_even_ok 280 a (z.take 840) (by rw [List.length_take]; omega) (by omega) _ ha.bytes) ?_)
  rintro _ w5 ⟨c, rfl, hc, m5⟩
  rw [evs_take z 840 280 (by omega) (by omega)] at hc
  have H := H.got m5 hc
  have hev := evs_le z 280
  have hcl := hc.nums.len
  refine asSl_s (join1_of fun go hgo => ?_)
  have rest : ∀ (out : SlV) (w6 : World), Mine w [] w6 [.row t_int 1 out (i64s e)] → go out w6 := by
    intro out w6 H
    refine hgo out w6 ?_
    have hol := (H.nums 0 rfl).len
    refine loop1_of (fun (out : SlV) w' => ∃ k, e.length + k ≤ 256 ∧ out.n = e.length + k ∧ Mine w [] w' [.row t_int 1 out (i64s (e ++ List.replicate k 0))]) (fun out _ => 256 - out.n) ⟨0, by omega, by omega, by simpa using H⟩ ?_
    rintro again out w7 ⟨k, hk, hon, H⟩ hag
    refine ite_intro (fun hc => ?_) (fun hc => ?_)
    · have hc := of_decide_eq_true hc
      refine H.appN1 0 elt_i64 rfl (by omega) fun out' w3 H hon' => hag out' w3 ⟨k + 1, by omega, by omega, ?_⟩ (by omega)
      rw [List.replicate_succ', ← List.append_assoc]
      exact H
    · have hc := of_decide_eq_false hc
      have : 256 - e.length = k := by omega
      rw [this]
      exact ⟨out, rfl, H.fresh0 0 rfl, H.mod⟩
  have one : ∀ {w' : World} {L : List Res} {r : Res} (k : Nat), Mine w [] w' L → L[k]? = some r → Mine w [] w' [r] := fun {w' L r} k H hk =>
    ⟨H.mod, fun j s hs => by
      match j with
      | 0 => simp at hs; subst hs; exact H.ok k _ hk
      | j + 1 => simp at hs, fun j s hs => by
      match j with
      | 0 => simp at hs; subst hs; exact H.own k _ hk
      | j + 1 => simp at hs, fun i j s t hij hs ht => by
      match i, j with
      | 0, 0 => exact absurd rfl hij
      | 0, j + 1 => simp at ht
      | i + 1, _ => simp at hs⟩
  refine ite_intro (fun hlt => ?_) (fun hlt => ?_)
  · refine H.clone8 elt_u8 (hx.mod0 H.mod) (by omega) fun y2 w6 H hy2 => H.nw fun p2 w7 H _ => ?_
    refine H.app8 (x := ⟨some ⟨p2, 0, none⟩, 2, 2⟩) 4 elt_u8 rfl (H.blkBytes 5 (l := [i, j]) rfl) (by show y2.n + 2 ≤ _; omega) fun u2 w8 H hu2 => ?_
    refine call_of (sh2 u2 _ (H.bytes 4 rfl)) ?_
    rintro _ w9 ⟨a2, rfl, ha2, m9⟩
    have H := H.got m9 ha2
    refine asSl_s (call_of (ref6_even_ok 1365 a2 z (by omega) (by omega) _ ha2.bytes) ?_)
    rintro _ w10 ⟨c2, rfl, hc2, m10⟩
    rw [← he] at hc2
    have H := H.got m10 hc2
    exact asSl_s (rest c2 w10 (one 7 H rfl))
  · have hlt := of_decide_eq_false hlt
    have : evs z 1365 = evs z 280 := by
      obtain ⟨k, hk⟩ : ∃ k, 1365 = 280 + k := ⟨1085, rfl⟩
      rw [hk]
      exact evs_full z 280 k (by omega)
    refine rest c w5 ?_
    rw [he, this]
    exact one 3 H rfl
theorem ref6_Even_all (x : SlV) (l : List B8) (i j : B8) (w : World) (hx : Bytes w x l) :
    Ok Pr f_ref6_Even [.slice x.a x.n x.c, .int .u8 (i.toNat : Int), .int .u8 (j.toNat : Int)] w fun v w' => GaveC t_int 1 w w' v (i64s (evenL l i j)) (evenC l.length) := by
  have hxl := hx.len
  by_cases h32 : l.length = 32
  · have e1 : evenL l i j = evn (l ++ [i, j]) := by unfold evenL; rw [if_pos h32]
    have e2 : evenC l.length = 0 := by unfold evenC; rw [if_pos h32]
    rw [e1, e2]
    exact ref6_Even_ok x l h32 i j w hx
  · have e1 : evenL l i j = [] := by unfold evenL; rw [if_neg h32]
    have e2 : evenC l.length = 3 := by unfold evenC; rw [if_neg h32]
    rw [e1, e2]
    refine V_ref6_Even_of ?_
    unfold V_ref6_Even
    exact ite_true (by simp; omega) ⟨⟨none, 0, 0⟩, rfl, Own.nil _ _ _ _, Mod.refl _ _⟩
end Go.Proofs.YtoeedbljiocpdaaDoor
