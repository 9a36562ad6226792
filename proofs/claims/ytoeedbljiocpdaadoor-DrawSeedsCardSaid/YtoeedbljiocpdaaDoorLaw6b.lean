/- THE STATEMENTS' OWN CODE answers true: DrawLean, DrawSeeds. -/
import Derived.Test.YtoeedbljiocpdaaDoorLaw6
namespace Go.Proofs.YtoeedbljiocpdaaDoor
open Go Go.Ev
set_option maxRecDepth 20000
set_option linter.unusedVariables false
theorem flip_bit (x j : Nat) (hx : x < 256) (hj : j < 8) : (255 - x) / 2 ^ j % 2 = 1 - x / 2 ^ j % 2 := by
  match j, hj with
  | 0, _ => omega
  | 1, _ => omega
  | 2, _ => omega
  | 3, _ => omega
  | 4, _ => omega
  | 5, _ => omega
  | 6, _ => omega
  | 7, _ => omega
def nots (l : List B8) : List B8 := l.map fun b => ~~~ b
theorem bit_nots (l : List B8) (k : Nat) (h : k / 8 < l.length) : bit (nots l) k = 1 - bit l k := by
  have h' : k / 8 < (nots l).length := by simpa [nots] using h
  rw [← bit_byte l k h, ← bit_byte (nots l) k h']
  have e : (nots l).getD (k / 8) 0 = ~~~ (l.getD (k / 8) 0) := by simp [nots, h]
  have hb := (l.getD (k / 8) 0).isLt
  rw [e, BitVec.toNat_not, show 2 ^ 8 - 1 - (l.getD (k / 8) 0).toNat = 255 - (l.getD (k / 8) 0).toNat from rfl]
  exact flip_bit _ _ (by omega) (Nat.mod_lt _ (by omega))
theorem dsum_nots {eta : Nat} (he : eta = 2 ∨ eta = 3) (l : List B8) (hl : l.length = 64 * eta) (i : Nat) (hi : i < 256) (k : Nat) (hk : k ≤ eta) : dsum eta (nots l) i k = - dsum eta l i k := by
  induction k with
  | zero => rfl
  | succ k ih =>
    have h1 := bit_nots l (2 * eta * i + k) (by rcases he with rfl | rfl <;> omega)
    have h2 := bit_nots l (2 * eta * i + (eta + k)) (by rcases he with rfl | rfl <;> omega)
    have h3 := bit_le l (2 * eta * i + k)
    have h4 := bit_le l (2 * eta * i + (eta + k))
    simp only [dsum, ih (by omega), h1, h2]
    omega
theorem lean_get {eta : Nat} (he : eta = 2 ∨ eta = 3) (l : List B8) (i : Nat) (hi : i < 256) : (lean eta l).getD i 0 = dsum eta l i eta % 3329 := by
  unfold lean
  rw [dsum_eq he]
  simp [hi]
/-- b[i % n] + i -/
theorem DrawLean_ok (eta0 : Int) (x : SlV) (l : List B8) (w : World) (hg : Laid w) (hx : Bytes w x l) :
    Ok Pr f_law6_DrawLean [.int .i64 eta0, .slice x.a x.n x.c] w fun v w' => v = .bool true ∧ Mod [] w w' := by
  refine V_law6_DrawLean_of ?_
  unfold V_law6_DrawLean
  have hxl := hx.len
  refine call_of (law0_Low_ok eta0 2 (by decide) (by decide) w) ?_
  rintro _ w1 ⟨rfl, hw1⟩
  subst hw1
  have hlow := low_lt (x := eta0) (n := 2) (by decide)
  obtain ⟨eta, he, hee⟩ : ∃ eta : Nat, (eta = 2 ∨ eta = 3) ∧ 2 + ((low eta0 2 : Nat) : Int) = (eta : Int) := ⟨2 + low eta0 2, by omega, by omega⟩
  have he3 : eta ≤ 3 := by omega
  refine asI_i ?_
  rw [hee]
  refine ⟨⟨by omega, by omega⟩, ite_intro (fun h => awake6_of hg (Mine.start _)) (fun h => ⟨⟨by omega, by omega⟩, ?_⟩)⟩
  have h := of_decide_eq_false h
  rw [show (64 : Int) * (eta : Int) = ((64 * eta : Nat) : Int) by omega]
  refine (Mine.start w1).mkU (n := 64 * eta) elt_u8 zc_u8 rfl rfl (by omega) fun s w2 H hs => ?_
  have H := H.nilrow t_uint8 1
  refine loop2_up 0 (64 * eta) (fun i (u : SlV) w' => ∃ m : List B8, m.length = 64 * eta ∧ Mine w1 [] w' [.row t_uint8 1 s (u8s m), .row t_uint8 1 u (u8s (nots (m.take i)))]) rfl (by omega) ⟨List.replicate (64 * eta) 0, by simp, H⟩ ?_ ?_
  · rintro again i u w3 _ hi ⟨m, hm, H⟩ hag
    refine ite_true (decide_eq_true (by rw [hs]; omega)) (join0_of fun go hgo => ?_)
    have give : ∀ (m' : List B8) (w4 : World), m'.length = 64 * eta → m'.take i = m.take i → Mine w1 [] w4 [.row t_uint8 1 s (u8s m'), .row t_uint8 1 u (u8s (nots (m.take i)))] → go w4 := by
      intro m' w4 hm' hme H
      refine hgo w4 ?_
      have hun := (H.bytes 1 rfl).len
      simp only [nots, List.length_map, List.length_take] at hun
      refine (H.bytes 0 rfl).ld (by omega) ?_
      refine H.app8one 1 (~~~ (m'.getD i 0)) elt_u8 rfl (not8 _) (by omega) fun u' w5 H hu' => ⟨⟨by omega, by omega⟩, hag u' w5 ⟨m', hm', ?_⟩⟩
      have e : nots (m.take i) ++ [~~~ (m'.getD i 0)] = nots (m'.take (i + 1)) := by
        rw [take_succ_getD _ _ (by omega) 0, hme]
        simp [nots]
      rw [e] at H
      exact H
    refine ite_intro (fun h0 => ?_) (fun h0 => ?_)
    · have h0 := of_decide_eq_true h0
      have ei : (i : Int) % ((x.n : Nat) : Int) = ((i % x.n : Nat) : Int) := (Int.natCast_emod i x.n).symm
      refine pos_of h0 ⟨by omega, ?_⟩
      rw [ei]
      refine (hx.mod0 H.mod).ld (by rw [hxl]; exact Nat.mod_lt _ (by omega)) ?_
      have hsn := (H.bytes 0 rfl).len
      refine ⟨⟨(H.bytes 0 rfl).some (by omega), by omega, by omega⟩, ?_⟩
      refine H.st8 0 (i := i) (BitVec.ofInt 8 ((((l.getD (i % x.n) 0).toNat : Nat) : Int) + IntKind.wrap .u8 (i : Int))) rfl (by rw [Int.toNat_natCast, Nat.mul_one]) (by omega) (wrap_u8_any _) fun w4 H => ?_
      refine give _ w4 (by simpa using hm) ?_ H
      rw [List.take_set_of_le (Nat.le_refl _)]
    · exact give m w3 hm rfl H
  · rintro again u w3 ⟨m, hm, H⟩
    rw [List.take_of_length_le (by omega)] at H
    refine ite_false (decide_eq_false (by rw [hs]; omega)) ?_
    refine call_of (draw_Lean_ok eta he s m hm _ (H.bytes 0 rfl)) ?_
    rintro _ w4 ⟨f, e1, rfl, hf, he1, hn1, m4⟩
    have H := H.got2 m4 hf he1 hn1
    refine ⟨_, rfl, f, rfl, rfl, ?_⟩
    refine call_of (draw_Lean_ok eta he u (nots m) (by simpa [nots] using hm) _ (H.bytes 1 rfl)) ?_
    rintro _ w5 ⟨g, e2, rfl, hg', he2, hn2, m5⟩
    have H := H.got2 m5 hg' he2 hn2
    refine ⟨_, rfl, g, rfl, rfl, ?_⟩
    have hF := fun i hi => lean_get he m i hi
    have hG := fun i hi => lean_get he (nots m) i hi
    have hFl := length_lean eta m
    have hGl := length_lean eta (nots m)
    generalize lean eta m = F at *
    generalize lean eta (nots m) = G at *
    have hfn := (H.nums 2 rfl).len
    have hgn := (H.nums 4 rfl).len
    refine join0_of fun go hgo => ?_
    have rest : go w5 := by
      refine hgo w5 ?_
      refine loop1_up 0 256 (fun i w' => Mod [] w5 w') rfl (by omega) (Mod.refl _ _) ?_ ?_
      · intro again1 i w6 _ hi m6 hag1
        have H := (H.frame m6).drew
        have hFi := hF i hi
        have hGi := hG i hi
        rw [dsum_nots he m hm i hi eta (Nat.le_refl _)] at hGi
        have hd := dsum_le eta m i eta
        generalize dsum eta m i eta = d at *
        have hf := H.nums 2 rfl
        have hg := H.nums 4 rfl
        refine ite_true (decide_eq_true (by omega)) (hf.ld (by omega) rfl (ite_false (decide_eq_false (by omega)) (hf.ld (by omega) rfl (ite_false (decide_eq_false (by omega)) ?_))))
        refine hf.ld (by omega) rfl (hf.ld (by omega) rfl ⟨⟨by omega, by omega⟩, ite_false (decide_eq_false (by omega)) ?_⟩)
        refine hf.ld (by omega) rfl (hg.ld (by omega) rfl ⟨⟨by omega, by omega⟩, by omega, ite_false ?_ ⟨⟨by omega, by omega⟩, hag1 _ (m6.trans (Mod.drew _ _))⟩⟩)
        rw [decide_eq_true (by omega)]
        rfl
      · intro again1 w6 m6
        refine ite_false (decide_eq_false (by omega)) ?_
        exact awake6_of hg (H.frame m6)
    refine (H.err 3 rfl).isNil (ite_false rfl ((H.err 5 rfl).isNil (ite_false ?_ rest)))
    rw [← hfn, ← hgn, hFl, hGl]
    rfl
theorem poly_May_1_ok (x : Int) (w : World) : Ok Pr f_poly_May_1 [.int .i64 x] w fun v w' => v = .bool (decide (x < 0) || decide (3329 ≤ x)) ∧ w' = w := by
  refine V_poly_May_1_of ?_
  unfold V_poly_May_1
  exact ⟨rfl, rfl⟩
/-- is a list a poly? -/
def isPoly (l : List Int) : Bool := decide (l.length = 256) && l.all fun x => decide (0 ≤ x) && decide (x < 3329)
theorem poly_IndexFunc (x : SlV) (l : List Int) (hl : l.length = 256) (w : World) (hx : Nums w x l) : Ok Pr f_slices_IndexFunc_int_int [.slice x.a x.n x.c, .func (.func f_poly_May_1) #[] #[]] w fun v w' => ∃ n : Int, v = .int .i64 n ∧ (0 ≤ n ↔ ¬ ∀ y ∈ l, 0 ≤ y ∧ y < 3329) ∧ w' = w := by
  refine V_slices_IndexFunc_int_int_of ?_
  unfold V_slices_IndexFunc_int_int
  have hxl := hx.len
  refine loop1_up 0 256 (fun i w' => w' = w ∧ ∀ y ∈ l.take i, 0 ≤ y ∧ y < 3329) rfl (by omega) ⟨rfl, fun y hy => by simp at hy⟩ ?_ ?_
  · rintro again i _ _ hi ⟨rfl, ha⟩ hag
    refine ite_true (decide_eq_true (by omega)) (hx.ld (by omega) rfl ?_)
    refine call_of (poly_May_1_ok _ _) ?_
    rintro _ w2 ⟨rfl, hw2⟩
    subst hw2
    have hmem : l.getD i 0 ∈ l := by simp [show i < l.length by omega]
    refine asB_b (ite_intro (fun h => ?_) (fun h => ?_))
    · simp only [Bool.or_eq_true, decide_eq_true_eq] at h
      refine ⟨_, rfl, ⟨fun _ hall => ?_, fun _ => by omega⟩, rfl⟩
      have := hall _ hmem
      omega
    · simp only [Bool.or_eq_false_iff, decide_eq_false_iff_not] at h
      refine ⟨⟨by omega, by omega⟩, hag _ ⟨rfl, fun y hy => ?_⟩⟩
      rw [take_succ_getD _ _ (by omega) 0] at hy
      rcases List.mem_append.1 hy with h1 | h1
      · exact ha y h1
      · rw [List.mem_singleton.1 h1]; omega
  · rintro again _ ⟨rfl, ha⟩
    rw [List.take_of_length_le (by omega)] at ha
    exact ite_false (decide_eq_false (by omega)) ⟨_, rfl, ⟨fun h => absurd h (by decide), fun h => absurd ha h⟩, rfl⟩
theorem poly_May_ok (x : SlV) (l : List Int) (w : World) (hx : Nums w x l) : Ok Pr f_poly_May [.slice x.a x.n x.c] w fun v w' => v = .bool (isPoly l) ∧ w' = w := by
  refine V_poly_May_of ?_
  unfold V_poly_May
  have hxl := hx.len
  refine ite_intro (fun h => ?_) (fun h => ?_)
  · have h := of_decide_eq_true h
    refine call_of (P := Pr) (f := f_slices_ContainsFunc_int_int) (R := fun v w' => v = .bool (!isPoly l) ∧ w' = w) (V_slices_ContainsFunc_int_int_of (f := .func (.func f_poly_May_1) #[] #[]) ?_) ?_
    · unfold V_slices_ContainsFunc_int_int
      refine call_of (poly_IndexFunc x l (by omega) w hx) ?_
      rintro _ w1 ⟨n, rfl, hn, hw⟩
      subst hw
      refine asI_i ⟨?_, rfl⟩
      congr 1
      unfold isPoly
      rw [decide_eq_true (show l.length = 256 by omega), Bool.true_and]
      by_cases hall : ∀ y ∈ l, 0 ≤ y ∧ y < 3329
      · rw [decide_eq_false (fun hh => hn.1 hh hall)]
        have : (l.all fun x => decide (0 ≤ x) && decide (x < 3329)) = true := by simpa using hall
        rw [this]; rfl
      · rw [decide_eq_true (hn.2 hall)]
        have : (l.all fun x => decide (0 ≤ x) && decide (x < 3329)) = false := by
          cases hb : (l.all fun x => decide (0 ≤ x) && decide (x < 3329)) with
          | false => rfl
          | true => exact absurd (by simpa using hb) hall
        rw [this]; rfl
    · rintro _ w1 ⟨rfl, hw⟩
      subst hw
      exact asB_b ⟨by rw [Bool.not_not], rfl⟩
  · have h := of_decide_eq_false h
    refine ⟨?_, rfl⟩
    unfold isPoly
    rw [decide_eq_false (show ¬ l.length = 256 by omega)]
    rfl
theorem isPoly_lean (eta : Nat) (l : List B8) : isPoly (lean eta l) = true := by
  unfold isPoly
  rw [decide_eq_true (length_lean eta l), Bool.true_and]
  unfold lean
  simp only [List.all_map, List.all_eq_true, Function.comp, Bool.and_eq_true, decide_eq_true_eq]
  intro i _
  exact ⟨Int.emod_nonneg _ (by decide), Int.emod_lt_of_pos _ (by decide)⟩
theorem evs_bound (l : List B8) (t : Nat) : ∀ y ∈ evs l t, 0 ≤ y ∧ y < 3329 := by
  have hp : ∀ (o : List Int) (x : Int), (∀ y ∈ o, 0 ≤ y ∧ y < 3329) → 0 ≤ x → ∀ y ∈ psh o x, 0 ≤ y ∧ y < 3329 := by
    intro o x ho hx y hy
    unfold psh at hy
    split at hy
    · rename_i hc
      rcases List.mem_append.1 hy with h | h
      · exact ho y h
      · rw [List.mem_singleton.1 h]; exact ⟨hx, hc.1⟩
    · exact ho y hy
  induction t with
  | zero => intro y hy; cases hy
  | succ t ih => exact hp _ _ (hp _ _ ih (by unfold cx; omega)) (by unfold cy; omega)
theorem isPoly_evn (l : List B8) : isPoly (evn l) = true := by
  unfold isPoly
  rw [decide_eq_true (evn_len l), Bool.true_and]
  unfold evn
  have := evs_bound (spOut 168 31 l 4095) 1365
  generalize evs (spOut 168 31 l 4095) 1365 = e at *
  simp only [List.all_eq_true, Bool.and_eq_true, decide_eq_true_eq]
  intro y hy
  rcases List.mem_append.1 hy with h | h
  · exact this y h
  · rw [List.eq_of_mem_replicate h]; decide
theorem fromL_eq {eta : Nat} (he : eta = 2 ∨ eta = 3) (l : List B8) (n : B8) (hl : l.length = 32) : fromL (eta : Int) l n = lean eta (spOut 136 31 (l ++ [n]) ((64 * eta : Nat) : Int)) ∧ fromC (eta : Int) l.length = 0 := by
  have ec : fromC (eta : Int) l.length = 0 := by unfold fromC; rw [if_pos (by omega), if_pos hl]
  refine ⟨?_, ec⟩
  unfold fromL
  rw [if_pos ec, Int.toNat_natCast, show (64 : Int) * (eta : Int) = ((64 * eta : Nat) : Int) by omega]
theorem DrawSeeds_ok (eta0 : Int) (x : SlV) (l : List B8) (n i : B8) (w : World) (hg : Laid w) (hx : Bytes w x l) :
    Ok Pr f_law6_DrawSeeds [.int .i64 eta0, .slice x.a x.n x.c, .int .u8 (n.toNat : Int), .int .u8 (i.toNat : Int)] w fun v w' => v = .bool true ∧ Mod [] w w' := by
  refine V_law6_DrawSeeds_of ?_
  unfold V_law6_DrawSeeds
  have hxl := hx.len
  refine ite_intro (fun h => awake6_of hg (Mine.start _)) (fun h => ?_)
  have h := of_decide_eq_false h
  refine call_of (law0_Low_ok eta0 2 (by decide) (by decide) w) ?_
  rintro _ w1 ⟨rfl, hw1⟩
  subst hw1
  have hlow := low_lt (x := eta0) (n := 2) (by decide)
  obtain ⟨eta, he, hee⟩ : ∃ eta : Nat, (eta = 2 ∨ eta = 3) ∧ 2 + ((low eta0 2 : Nat) : Int) = (eta : Int) := ⟨2 + low eta0 2, by omega, by omega⟩
  have he3 : eta ≤ 3 := by omega
  refine asI_i ?_
  rw [hee]
  refine ⟨⟨by omega, by omega⟩, (Mine.start w1).mkU (n := 32) elt_u8 zc_u8 rfl rfl (by omega) fun s w2 H hs => ?_⟩
  refine loop1_of (fun (k : Int) w' => ∃ m : List B8, ∃ j : Nat, m.length = 32 ∧ k = (j : Int) ∧ j ≤ 32 ∧ Mine w1 [] w' [.row t_uint8 1 s (u8s m)]) (fun k _ => 33 - k.toNat) ⟨List.replicate 32 0, 0, by simp, rfl, by omega, H⟩ ?_
  rintro again _ w3 ⟨m, j, hm, rfl, hj, H⟩ hag
  refine ite_intro (fun hc => ?_) (fun hc => ?_)
  · simp only [Bool.and_eq_true, decide_eq_true_eq] at hc
    have ei : (j : Int) % ((x.n : Nat) : Int) = ((j % x.n : Nat) : Int) := (Int.natCast_emod j x.n).symm
    refine pos_of hc.2 ⟨by omega, ?_⟩
    rw [ei]
    refine (hx.mod0 H.mod).ld (by rw [hxl]; exact Nat.mod_lt _ (by omega)) ?_
    have hsn := (H.bytes 0 rfl).len
    refine ⟨⟨(H.bytes 0 rfl).some (by omega), by omega, by omega⟩, ?_⟩
    refine H.st8 0 (i := j) (BitVec.ofInt 8 ((((l.getD (j % x.n) 0).toNat : Nat) : Int) + IntKind.wrap .u8 (j : Int))) rfl (by rw [Int.toNat_natCast, Nat.mul_one]) (by omega) (wrap_u8_any _) fun w4 H => ?_
    exact ⟨⟨by omega, by omega⟩, hag _ w4 ⟨_, j + 1, by simpa using hm, by omega, by omega, H⟩ (by omega)⟩
  · obtain ⟨ef, ec⟩ := fromL_eq he m n hm
    refine call_of (draw_From_all eta s m n (by omega) _ (H.bytes 0 rfl)) ?_
    rintro _ w4 ⟨f, e1, rfl, hf, he1, hn1, m4⟩
    rw [ef] at hf
    rw [ec] at he1 hn1
    have H := H.got2 m4 hf he1 hn1
    refine ⟨_, rfl, f, rfl, rfl, ⟨⟨by omega, by omega⟩, H.nw fun p w5 H _ => H.nw fun p1 w6 H _ => ?_⟩⟩
    rw [show (64 : Int) * (eta : Int) = ((64 * eta : Nat) : Int) by omega]
    refine call_of (sponge_Shake256_ok _ ⟨some ⟨p1, 0, none⟩, 2, 2⟩ [m, [n]] _ (Parts.of2b (H.blk 4 rfl) (by simp) (H.bytes 0 rfl) (off_nil _) (H.blkBytes 3 (l := [n]) rfl) (off_nil _)) (small2b rfl (by omega) (by simp))) ?_
    rintro _ w7 ⟨y, rfl, hy, m7⟩
    rw [show [m, [n]].flatten = m ++ [n] by simp] at hy
    have H := H.got m7 hy
    have hzl := spOut_len 136 31 (m ++ [n]) (64 * eta) (by omega)
    generalize spOut 136 31 (m ++ [n]) ((64 * eta : Nat) : Int) = z at *
    refine asSl_s (call_of (draw_Lean_ok eta he y z (by omega) _ hy.bytes) ?_)
    rintro _ w8 ⟨g, e2, rfl, hg', he2, hn2, m8⟩
    have H := H.got2 m8 hg' he2 hn2
    refine ⟨_, rfl, g, rfl, rfl, ?_⟩
    refine call_of (draw_Even_ok s m hm n i _ (H.bytes 0 rfl)) ?_
    rintro _ w9 ⟨u, e3, rfl, hu, he3, hn3, m9⟩
    have H := H.got2 m9 hu he3 hn3
    refine ⟨_, rfl, u, rfl, rfl, ?_⟩
    refine call_of (draw_Even_ok s m hm n i _ (H.bytes 0 rfl)) ?_
    rintro _ w10 ⟨v, e4, rfl, hv, he4, hn4, m10⟩
    have H := H.got2 m10 hv he4 hn4
    refine ⟨_, rfl, v, rfl, rfl, ?_⟩
    have p1 := isPoly_lean eta z
    have p2 := isPoly_evn (m ++ [n, i])
    have l1 := length_lean eta z
    have l2 := evn_len (m ++ [n, i])
    generalize lean eta z = F at *
    generalize evn (m ++ [n, i]) = E at *
    have hfn := (H.nums 1 rfl).len
    refine (H.err 2 rfl).isNil (ite_true rfl ((H.err 7 rfl).isNil (ite_true rfl ((H.err 9 rfl).isNil (ite_true rfl ((H.err 11 rfl).isNil (ite_true ?_ ?_)))))))
    · rw [← hfn, l1]; rfl
    refine call_of (law0_SameInts_same f g F _ (H.nums 1 rfl) (H.nums 6 rfl) (by omega)) ?_
    rintro _ w11 ⟨rfl, m11⟩
    have H := H.frame m11
    refine asB_b (ite_true rfl (call_of (poly_May_ok f F _ (H.nums 1 rfl)) ?_))
    rintro _ w12 ⟨rfl, hw12⟩
    subst hw12
    rw [p1]
    refine asB_b (ite_true rfl (call_of (poly_May_ok u E _ (H.nums 8 rfl)) ?_))
    rintro _ w13 ⟨rfl, hw13⟩
    subst hw13
    rw [p2]
    refine asB_b (ite_true rfl (call_of (law0_SameInts_same u v E _ (H.nums 8 rfl) (H.nums 10 rfl) (by omega)) ?_))
    rintro _ w14 ⟨rfl, m14⟩
    have H := H.frame m14
    refine asB_b (ite_true rfl ?_)
    exact awake6_of hg H
end Go.Proofs.YtoeedbljiocpdaaDoor
