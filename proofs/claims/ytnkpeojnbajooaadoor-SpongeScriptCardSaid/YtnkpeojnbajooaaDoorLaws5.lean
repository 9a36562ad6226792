/- THE STATEMENT's OWN CODE answers true: SpongeScript. -/
import Derived.Test.YtnkpeojnbajooaaDoorLaws4
namespace Go.Proofs.YtnkpeojnbajooaaDoor
open Go Go.Ev
set_option linter.unusedVariables false
/-- the sponge's state behind m bytes that came out -/
def gst (rate : Nat) (suf : B8) (s : List B64 × Nat) (m : Nat) : List B64 × Nat := if m = 0 then s else (squeeze rate (close rate suf s) m).2
def ggv (m : Nat) : Bool := decide (0 < m)
theorem ready_gst (rate : Nat) (suf : B8) (s : List B64 × Nat) (m : Nat) : ready rate suf (ggv m) (gst rate suf s m) = (squeeze rate (close rate suf s) m).2 := by
  unfold gst ggv ready
  rcases Nat.eq_zero_or_pos m with rfl | h
  · rfl
  · rw [if_pos (by simp; omega), if_neg (by omega)]
theorem gst_ok {rate : Nat} {suf : B8} {s : List B64 × Nat} (hr : 8 ≤ rate) (hs : Fits rate s) (m : Nat) : if ggv m = true then Gives rate (gst rate suf s m) else Fits rate (gst rate suf s m) := by
  unfold gst ggv
  rcases Nat.eq_zero_or_pos m with rfl | h
  · simpa using hs
  · rw [if_neg (show ¬ m = 0 by omega), if_pos (by simp [h])]
    exact (gives_ready (gives := false) hs).squeeze (by omega) m
theorem SpongeScript_ok (rate : Int) (suf : B8) (ps : SlV) (ls : List (List B8)) (rd : SlV) (rs : List Int) (w : World) (hg : Laid w) (hp : Parts w [] ps ls) (hn : ps.n ≤ 9223372036854775807) (hrd : Ints w rd .i64 rs) :
    Ok Pr f_law2_SpongeScript [.int .i64 rate, .int .u8 (suf.toNat : Int), .slice ps.a ps.n ps.c, .slice rd.a rd.n rd.c] w fun v w' => v = .bool true ∧ Mod [] w w' := by
  refine V_law2_SpongeScript_of ?_
  unfold V_law2_SpongeScript
  refine call_of (law2_great_ok ps ls w hp hn) ?_
  rintro _ w1 ⟨gr, rfl, hw, hgr⟩
  subst hw
  refine asB_b (ite_intro (fun h => awake_of hg (Mine.start _)) (fun h => ?_))
  simp only [Bool.or_eq_false_iff, decide_eq_false_iff_not] at h
  obtain ⟨hl12, hl300⟩ := hgr h.1
  have hpn := hp.len
  have hrl := hrd.len
  by_cases hm : mayBe rate suf = true
  · obtain ⟨k, rfl, h8, h192, hk8⟩ := mayBe_of hm
    refine call_of (sponge_New_ok k suf hm _) ?_
    rintro _ w2 ⟨b, rfl, h2, hb, m2⟩
    have H := (Mine.start w1).gotblk m2 h2 hb
    refine asP_p (call_of (ref2_May_ok _ _ _) ?_)
    rintro _ w3 ⟨rfl, hw3⟩
    subst hw3
    rw [hm]
    refine asB_b (ite_false rfl (ite_false rfl ?_))
    have hpb : Parts w1 [b] ps ls := hp.new (T := [b]) fun c hc => .inr (by rw [List.mem_singleton.1 hc]; exact hb)
    have H := H.nilrow t_uint8 1
    have hsum : ∀ j, j ≤ ls.length → (ls.take j).flatten.length ≤ j * 300 := by
      intro j
      induction j with
      | zero => intro _; simp
      | succ j ih =>
        intro hj
        rw [take_succ_getD _ _ (by omega) [], List.flatten_append, List.length_append]
        have := ih (by omega)
        have := hl300 (ls.getD j []) (by simp [show j < ls.length by omega])
        simp only [List.flatten_cons, List.flatten_nil, List.append_nil]
        omega
    refine loop2_up 0 ls.length (fun j (all : SlV) w' => Mine w1 [] w' [spr b (absorb k (z25, 0) (ls.take j).flatten).1 k (absorb k (z25, 0) (ls.take j).flatten).2 suf false, .row t_uint8 1 all (u8s (ls.take j).flatten)]) rfl (by omega) H ?_ ?_
    · intro again j all w4 _ hj H hag
      have hfl := hsum j (by omega)
      refine ite_true (by rw [hpn]; simpa using hj) ((hpb.mod H.mod.of_nil).ld hj fun x hx hxo => ?_)
      have hl := hl300 (ls.getD j []) (by simp [hj])
      have hst : Fits k (absorb k (z25, 0) (ls.take j).flatten) := (fits0 h8).absorb _
      have hall := (H.bytes 1 rfl).len
      have esucc : (ls.take (j + 1)).flatten = (ls.take j).flatten ++ ls.getD j [] := by rw [take_succ_getD _ _ hj [], List.flatten_append]; simp
      rw [esucc] at hag
      generalize el : ls.getD j [] = l at *
      generalize (ls.take j).flatten = l0 at *
      refine call_of (law0_LendBytes_ok x l _ hx (by omega)) ?_
      rintro _ w5 ⟨q, rfl, hq, hqf, m5⟩
      have H := H.gotblk m5 hq hqf
      refine asSl_s (s := ⟨some ⟨q, 0, none⟩, l.length, l.length + 3⟩) (join0_of fun go hgo => H.nw fun q1 w6 H _ => ?_)
      have hlent : ∀ {w' : World}, Blk w' q (u8s (l ++ mark3)) t_uint8 → Bytes w' ⟨some ⟨q, 0, none⟩, l.length, l.length + 3⟩ l := fun {w'} h => by
        have := h.sl 1 l.length (l.length + 3) (by simp) (by omega)
        rw [Nat.mul_one, u8s_append, List.take_append_of_le_length (by simp), List.take_of_length_le (by simp)] at this
        exact this
      have hne : ∀ {w' : World} {L : List Res} {q : Nat} {cs : List Value} {t : TypeId} {j : Nat} {i : Nat} {b : Nat} {ds : List Value} {t' : TypeId}, Mine w1 [] w' L → i ≠ j → L[i]? = some (.blk b ds t') → L[j]? = some (.blk q cs t) → q ∉ [b] := fun {w' L q cs t j i b ds t'} H hij hi hj hc => by
        rw [List.mem_singleton.1 hc] at hj
        exact H.apart i j _ _ hij hi hj b (by simp [Res.blk]) (by simp [Res.blk])
      refine Mine.swrite H 0 rfl h192 hst (parts := ⟨some ⟨q1, 0, none⟩, 2, 2⟩) (ls := [l, []]) (Parts.of2 (H.blk 3 rfl) (hne H (i := 0) (j := 3) (by omega) rfl rfl) (hlent (H.blk 2 rfl)) (fun _ a ha => ?_)) (small2 rfl (by omega)) fun w7 m7 H => ?_
      · simp only [Option.some.injEq] at ha
        subst ha
        exact hne H (i := 0) (j := 2) (by omega) rfl rfl
      rw [show [l, []].flatten = l by simp, ← absorb_append] at H
      refine ifn_nil (ite_false rfl ((hp.mod H.mod).ld hj fun y hy _ => ?_))
      rw [el] at hy
      refine call_of (law0_KeptBytes_ok q y l _ (H.blk 2 rfl) hy (by omega)) ?_
      rintro _ w8 ⟨rfl, m8⟩
      have H := H.frame m8
      refine asB_b (ite_false rfl (hgo w8 ?_))
      have hown : Own w8 0 t_uint8 1 ⟨some ⟨q, 0, none⟩, l.length, l.length + 3⟩ (u8s l) := by
        have := (H.blk 2 rfl).own 1 l.length (l.length + 3) (by simp [mark3]) (by omega) (by simp only [maxLen]; omega)
        rw [Nat.mul_one, u8s_append, List.take_append_of_le_length (by simp), List.take_of_length_le (by simp)] at this
        exact this
      refine call_of (law0_OverBytes_ok _ l _ hown (by omega)) ?_
      rintro _ w9 ⟨_, m9⟩
      have H := H.spoil 2 rfl m9 fun c hc => .inl hc
      refine (hp.mod H.mod).ld hj fun z hz _ => ?_
      rw [el] at hz
      have hzl := hz.len
      refine H.app8 1 elt_u8 rfl hz (by omega) fun all' w10 H ha => ⟨⟨by omega, by omega⟩, hag all' w10 ?_⟩
      exact H.take 2
    · intro again all w4 H
      rw [List.take_length] at H
      have hfl := hsum ls.length (Nat.le_refl _)
      rw [List.take_length] at hfl
      generalize ls.flatten = l at *
      have hf : Fits k (absorb k (z25, 0) l) := (fits0 h8).absorb l
      have hall := (H.bytes 1 rfl).len
      refine ite_false (by rw [hpn]; simp) ?_
      have ec : ∀ m, refOut k suf l m = (squeeze k (close k suf (absorb k (z25, 0) l)) m).1 := refOut_eq k h8 h192 hk8 suf l
      have hc : Gives k (close k suf (absorb k (z25, 0) l)) := gives_ready (gives := false) hf
      generalize absorb k (z25, 0) l = s at *
      have H := H.nilrow t_uint8 1
      refine loop2_up 0 rs.length (fun i (out : SlV) w' => ∃ m, m ≤ i * 200 ∧ Mine w1 [] w' [spr b (gst k suf s m).1 k (gst k suf s m).2 suf (ggv m), .row t_uint8 1 all (u8s l), .row t_uint8 1 out (u8s (squeeze k (close k suf s) m).1)]) rfl (by omega) ⟨0, by omega, H⟩ ?_ ?_
      · rintro again i out w5 _ hi ⟨m, hm200, H⟩ hag
        have hol := (H.bytes 2 rfl).len
        rw [length_squeeze] at hol
        refine ite_true (by rw [← hrl]; simpa using hi) ((hrd.mod0 H.mod).ld (by omega) (by omega) fun hi' => ?_)
        refine call_of (law0_Low_ok _ 201 (by decide) (by decide) _) ?_
        rintro _ w6 ⟨rfl, hw6⟩
        subst hw6
        have hn201 := low_lt (x := rs[(i : Int).toNat]) (n := 201) (by decide)
        generalize low rs[(i : Int).toNat] 201 = n at *
        refine asI_i ?_
        -- what came out, and the state behind it
        have fin : ∀ (x : SlV) (z : List B8) (w7 : World) (L5 : List Res), z = (squeeze k (squeeze k (close k suf s) m).2 n).1 → x.n = n → Own w7 0 t_uint8 1 x (u8s z) →
            Mine w1 [] w7 ([spr b (gst k suf s (m + n)).1 k (gst k suf s (m + n)).2 suf (ggv (m + n)), .row t_uint8 1 all (u8s l), .row t_uint8 1 out (u8s (squeeze k (close k suf s) m).1)] ++ [.row t_uint8 1 x (u8s z)]) →
            ∀ {R : Value → World → Prop}, (∀ t w8, Mine w1 [] w8 [spr b (gst k suf s (m + n)).1 k (gst k suf s (m + n)).2 suf (ggv (m + n)), .row t_uint8 1 all (u8s l), .row t_uint8 1 t (u8s (squeeze k (close k suf s) (m + n)).1)] → again t ((i : Int) + 1) w8) →
            iteP (!decide (((x.n : Nat) : Int) = (n : Int))) (R (.bool false) w7)
              (appK Pr [t_s_uint8, t_s_uint8] t_s_uint8 [.slice out.a out.n out.c, .slice x.a x.n x.c] w7 fun t92 w17 =>
                callK Pr f_law0_OverBytes [.slice x.a x.n x.c] w17 fun v_11 w18 =>
                iteP (decide ((0:Int) < ((t92.n : Nat) : Int)))
                (nw t_uint8 [.int .u8 (1:Int)] w18 fun p_1 w19 =>
                nw t_s_uint8 [.slice (some p_1) 1 1] w19 fun p_2 w20 =>
                callK Pr f_sponge_Sponge_Write [.pointer (some ⟨b, 0, none⟩), .slice (some p_2) 1 1] w20 fun v_12 w21 =>
                callK Pr f_law0_Num [v_12] w21 fun v_13 w22 =>
                asI .i64 v_13 fun t103 =>
                iteP (!decide (t103 = (5:Int)))
                (R (.bool false) w22)
                ((I64 ((i : Int) + (1:Int)) ∧
                again t92 ((i : Int) + (1:Int)) w22)))
                ((I64 ((i : Int) + (1:Int)) ∧
                again t92 ((i : Int) + (1:Int)) w18))) := by
          rintro x z w7 _ hz hxn hx H R hagain
          have hzl : z.length = n := by rw [hz]; exact length_squeeze _ _ _
          refine ite_false (by rw [hxn]; simp) ?_
          refine H.app8 2 elt_u8 rfl hx.bytes (by omega) fun t w8 H ht => ?_
          have e : (squeeze k (close k suf s) m).1 ++ z = (squeeze k (close k suf s) (m + n)).1 := by rw [squeeze_add, hz]
          rw [e] at H
          change Mine w1 [] w8 [spr b (gst k suf s (m + n)).1 k (gst k suf s (m + n)).2 suf (ggv (m + n)), .row t_uint8 1 all (u8s l), .row t_uint8 1 t (u8s (squeeze k (close k suf s) (m + n)).1), .row t_uint8 1 x (u8s z)] at H
          refine call_of (law0_OverBytes_ok x z _ (H.own' 3 rfl) (by omega)) ?_
          rintro _ w9 ⟨_, m9⟩
          have H := (H.spoil 3 rfl m9 fun c hc => .inl hc).take 3
          change Mine w1 [] w9 [spr b (gst k suf s (m + n)).1 k (gst k suf s (m + n)).2 suf (ggv (m + n)), .row t_uint8 1 all (u8s l), .row t_uint8 1 t (u8s (squeeze k (close k suf s) (m + n)).1)] at H
          refine ite_intro (fun h0 => ?_) (fun h0 => ⟨⟨by omega, by omega⟩, hagain t w9 H⟩)
          have h0 := of_decide_eq_true h0
          have hgv : ggv (m + n) = true := by unfold ggv; simp; omega
          have hgl : (gst k suf s (m + n)).1.length = 25 := by
            have := gst_ok (suf := suf) h8 hf (m + n)
            rw [hgv] at this
            exact this.1
          rw [hgv] at H
          have H' := H
          refine H.nw fun p1 w10 H _ => H.nw fun p2 w11 H _ => ?_
          refine call_of (sponge_Write_over hgl b ⟨some ⟨p2, 0, none⟩, 1, 1⟩ _ (H.blk 0 rfl)) ?_
          rintro _ w12 ⟨f, rfl, h12, hf12, m12⟩
          have H := H.gotblk m12 h12 hf12
          refine call_of (law0_Num_ok f 5 S_sponge _ (hg.mine H (by simp)) h12 (by decide)) ?_
          rintro _ w13 ⟨rfl, m13⟩
          have H := (H.frame m13).take 3
          refine asI_i (ite_false rfl ⟨⟨by omega, by omega⟩, hagain t w13 ?_⟩)
          rw [hgv]
          exact H
        rcases Nat.eq_zero_or_pos n with h0 | h0
        · subst h0
          refine call_of (sponge_Read_no _ _ (.inr (.inl (by decide))) _) ?_
          rintro _ w7 ⟨rfl, hw7⟩
          subst hw7
          refine asSl_s (s := ⟨none, 0, 0⟩) ?_
          refine fin ⟨none, 0, 0⟩ [] _ [] rfl rfl (Own.nil _ _ _ _) (H.nilrow t_uint8 1) (R := fun v w' => v = Value.bool true ∧ Mod [] w1 w') fun t w8 H => hag t w8 ⟨m, by omega, H⟩
        · refine call_of (sponge_Read_ok h8 h192 (gives := ggv m) (gst_ok (suf := suf) h8 hf m) b n h0 (by omega) _ (H.blk 0 rfl)) ?_
          rintro _ w7 ⟨x, rfl, hx, h7, m7⟩
          rw [ready_gst] at hx h7
          have e1 : (squeeze k (squeeze k (close k suf s) m).2 n).2 = gst k suf s (m + n) := by
            unfold gst
            rw [if_neg (by omega), squeeze_add]
          have e2 : true = ggv (m + n) := by unfold ggv; simp; omega
          rw [e1, e2] at h7
          have H := H.updGot (r' := spr b (gst k suf s (m + n)).1 k (gst k suf s (m + n)).2 suf (ggv (m + n))) (n := .row t_uint8 1 x (u8s (squeeze k (squeeze k (close k suf s) m).2 n).1)) 0 rfl m7 (fun c hc => hc) h7 (fun c hc => hc) hx.lo (fun b hb => (Own.row_ge hx b hb).1)
          have hxl := hx.bytes.len
          rw [length_squeeze] at hxl
          refine asSl_s ?_
          refine fin x _ w7 [] rfl hxl.symm hx.lo H (R := fun v w' => v = Value.bool true ∧ Mod [] w1 w') fun t w8 H => hag t w8 ⟨m + n, by omega, H⟩
      · rintro again out w5 ⟨m, hm200, H⟩
        have hol := (H.bytes 2 rfl).len
        rw [length_squeeze] at hol
        refine ite_false (by rw [← hrl]; simp) ?_
        rw [show ((out.n : Nat) : Int) = (m : Int) by omega]
        refine call_of (ref2_Out_ok k h8 h192 hk8 suf all l (by omega) m (by omega) _ (H.bytes 1 rfl)) ?_
        rintro _ w6 ⟨y, rfl, hy, m6⟩
        have H := H.frame m6
        rw [ec m] at hy
        have hob := H.bytes 2 rfl
        have hyb := hy.bytes
        have hql := length_squeeze k (close k suf s) m
        generalize (squeeze k (close k suf s) m).1 = z at *
        have hz12 : z.length < 1000000000000 := by omega
        refine asSl_s ?_
        refine call_of (law0_SameBytes_same out y z _ hob hyb hz12) ?_
        rintro _ w7 ⟨rfl, m7⟩
        have H := H.frame m7
        refine asB_b (ite_true rfl (call_of (sponge_Read_no _ (-1) (.inr (.inl (by decide))) _) ?_))
        rintro _ w8 ⟨rfl, hw8⟩
        subst hw8
        refine asSl_s (s := ⟨none, 0, 0⟩) ?_
        refine ite_true rfl ?_
        exact awake_of hg H
  · have hm' : mayBe rate suf = false := by simpa using hm
    refine call_of (sponge_New_no rate suf hm' _) ?_
    rintro _ _ ⟨rfl, rfl⟩
    refine asP_p (call_of (ref2_May_ok _ _ _) ?_)
    rintro _ w2 ⟨rfl, hw2⟩
    subst hw2
    rw [hm']
    exact asB_b (ite_true rfl (ite_true rfl (awake_of hg (Mine.start _))))
end Go.Proofs.YtnkpeojnbajooaaDoor
