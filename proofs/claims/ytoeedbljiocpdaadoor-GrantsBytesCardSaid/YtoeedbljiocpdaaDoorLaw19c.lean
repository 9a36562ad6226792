/- THE STATEMENTS' OWN CODE answers true: chapter 19, tokens. -/
import Derived.Test.YtoeedbljiocpdaaDoorLaw19
namespace Go.Proofs.YtoeedbljiocpdaaDoor
open Go Go.Ev
set_option maxRecDepth 20000
set_option linter.unusedVariables false
theorem okTo_iff (l : List GrV) : ∀ k, okTo l k = true ↔ ∀ i, i < k → (l.getD i gz).n0 = (i : Int) + 1 ∧ goodG (l.getD i gz) = true
  | 0 => ⟨fun _ i hi => by omega, fun _ => rfl⟩
  | k + 1 => by
    unfold okTo
    rw [Bool.and_eq_true, Bool.and_eq_true, okTo_iff l k, decide_eq_true_eq]
    constructor
    · rintro ⟨h1, h2⟩ i hi
      rcases Nat.lt_or_ge i k with h | h
      · exact h1 i h
      · have : i = k := by omega
        rw [this]; exact h2
    · intro h
      exact ⟨fun i hi => h i (by omega), h k (by omega)⟩
theorem mayG_iff (l : List GrV) : mayG l = true ↔ (∀ i, i < l.length → (l.getD i gz).n0 = (i : Int) + 1 ∧ goodG (l.getD i gz) = true) ∧ l.length ≤ 8 := by
  unfold mayG
  rw [Bool.and_eq_true, okTo_iff, decide_eq_true_eq]
theorem mayG_add {l : List GrV} {g : GrV} (h : addC l g = 0) : mayG (l ++ [addR l g]) = true := by
  unfold addC at h
  split at h
  · rename_i hm
    obtain ⟨hm, hgd⟩ := hm
    rw [mayG_iff] at hm ⊢
    split at h
    · cases h
    · refine ⟨fun i hi => ?_, by rw [List.length_append]; show l.length + 1 ≤ 8; omega⟩
      rw [List.length_append] at hi
      have hi : i < l.length + 1 := hi
      rcases Nat.lt_or_ge i l.length with h1 | h1
      · have e : (l ++ [addR l g]).getD i gz = l.getD i gz := by simp [List.getD_eq_getElem?_getD, List.getElem?_append_left h1]
        rw [e]
        exact hm.1 i h1
      · have : i = l.length := by omega
        subst this
        have e : (l ++ [addR l g]).getD l.length gz = addR l g := by simp
        rw [e]
        exact ⟨rfl, hgd⟩
  · cases h
theorem mayG_rev {l : List GrV} (i : Nat) (h : mayG l = true) : mayG (l.set i (revR (l.getD i gz))) = true := by
  rw [mayG_iff] at h ⊢
  rw [List.length_set]
  refine ⟨fun j hj => ?_, h.2⟩
  by_cases hij : i = j
  · subst hij
    have e : (l.set i (revR (l.getD i gz))).getD i gz = revR (l.getD i gz) := by simp [List.getD_eq_getElem?_getD, hj]
    rw [e]
    exact h.1 i hj
  · have e : (l.set i (revR (l.getD i gz))).getD j gz = l.getD j gz := by simp [List.getD_eq_getElem?_getD, List.getElem?_set_ne hij]
    rw [e]
    exact h.1 j hj
/-- a list that was made of grants that were added -/
structure Made (m : List GrV) : Prop where
  may : mayG m = true
  fit : ∀ h ∈ m, h.fit
  rev : ∀ h ∈ m, h.rev = false
theorem Made.nil : Made [] := ⟨rfl, by simp, by simp⟩
theorem Made.add {m : List GrV} {g : GrV} (h : Made m) (hc : addC m g = 0) (hf : g.fit) : Made (addL m g) := by
  have e : addL m g = m ++ [addR m g] := by unfold addL; rw [if_pos hc]
  rw [e]
  refine ⟨mayG_add hc, fun x hx => ?_, fun x hx => ?_⟩
  · rcases List.mem_append.1 hx with hx | hx
    · exact h.fit x hx
    · rw [List.mem_singleton.1 hx]; exact hf
  · rcases List.mem_append.1 hx with hx | hx
    · exact h.rev x hx
    · rw [List.mem_singleton.1 hx]; rfl
theorem Made.at {m : List GrV} (h : Made m) {i : Nat} (hi : i < m.length) : (m.getD i gz).n0 = (i : Int) + 1 ∧ (m.getD i gz).rev = false := by
  have hm := (mayG_iff m).1 h.may
  exact ⟨(hm.1 i hi).1, h.rev _ (by simp [hi])⟩
theorem Made.revoke {m : List GrV} (h : Made m) {i : Nat} (hi : i < m.length) : revC m ((i : Int) + 1) = 0 ∧ revL m ((i : Int) + 1) = m.set i (revR (m.getD i gz)) := by
  have hit : (((i : Int) + 1) - 1).toNat = i := by omega
  have hc : revC m ((i : Int) + 1) = 0 := by
    unfold revC
    rw [if_pos h.may, if_pos ⟨by omega, by omega⟩, hit, (h.at hi).2]; rfl
  refine ⟨hc, ?_⟩
  unfold revL
  rw [if_pos hc, hit]
theorem Made.again {m : List GrV} (h : Made m) {i : Nat} (hi : i < m.length) : revC (m.set i (revR (m.getD i gz))) ((i : Int) + 1) = 11 := by
  have hit : (((i : Int) + 1) - 1).toNat = i := by omega
  have e : (m.set i (revR (m.getD i gz))).getD i gz = revR (m.getD i gz) := by simp [List.getD_eq_getElem?_getD, hi]
  unfold revC
  rw [if_pos (mayG_rev i h.may), if_pos ⟨by omega, by rw [List.length_set]; omega⟩, hit, e]
  exact if_pos rfl
theorem allow_rev (g : GrV) (a b c d : Int) : allowC (revR g) a b c d = 10 := by
  unfold allowC
  rw [if_pos (.inl rfl)]
theorem Told.found {m : List GrV} {s t : List B8} {g : GrV} {c : Int} (h : Told m s t g c) (hm : mayG m = true) {i : Nat} (hi : i < m.length) (ht : tok s (m.getD i gz) = t) : c = 0 ∧ tok s g = t := by
  rcases h with ⟨h1, _, _⟩ | ⟨_, h2, _, _⟩ | ⟨_, ⟨j, h2, h3, h4, rfl⟩, rfl⟩
  · rw [hm] at h1; cases h1
  · exact absurd ht (h2 i hi)
  · exact ⟨rfl, h3⟩
theorem GrantsTokens_ok (x : SlV) (l : List GrV) (a : SlV) (s : List B8) (which at_ by_ : Int) (hf : ∀ h ∈ l, h.fit) (w : World) (hg : Laid w) (hx : Grs w x l) (ha : Bytes w a s) :
    Ok Pr f_law19_GrantsTokens [.slice x.a x.n x.c, .slice a.a a.n a.c, .int .i64 which, .int .i64 at_, .int .u8 by_] w fun v w' => v = .bool true ∧ Mod [] w w' := by
  refine V_law19_GrantsTokens_of ?_
  unfold V_law19_GrantsTokens
  rw [zc_gr]
  refine ite_intro (fun hc => awake19_of hg (Mine.start w)) (fun hc => ?_)
  have hxl := hx.len
  have hal := ha.len
  simp only [Bool.or_eq_false_iff, decide_eq_false_iff_not] at hc
  obtain ⟨hc1, hc2⟩ := hc
  have hs : s.length ≤ 1000 := by omega
  refine loop2_up 0 l.length (fun i y w' => ∃ m : List GrV, Made m ∧ Mine w [] w' [.row t_api_Grant 6 y (grC m)]) rfl (by omega) ⟨[], Made.nil, (Mine.start w).got (Mod.refl [] w) (Own.nil _ _ _ _)⟩ ?_ ?_
  · rintro again i y w1 _ hi ⟨m, hm, H⟩ hag
    have h8 := mayG_le hm.may
    have hfit := hf (l.getD i gz) (by simp [hi])
    refine ite_true (decide_eq_true (by omega)) ((hx.mod0 H.mod).ld hi rfl ?_)
    generalize l.getD i gz = g at *
    refine call_of (grants_Add_ok y m g (by omega) _ (H.rowSl 0 rfl)) ?_
    rintro _ w2 ⟨z, er, rfl, hz, he, hn, m2⟩
    have H := H.got2 m2 hz he hn
    refine ⟨_, rfl, z, rfl, _, rfl, rfl, (H.err 2 rfl).isNil (ite_intro (fun h => ?_) (fun h => ?_))⟩
    · exact ⟨⟨by omega, by omega⟩, hag z w2 ⟨_, hm.add (of_decide_eq_true h) hfit, H.only 1 rfl⟩⟩
    · exact ⟨⟨by omega, by omega⟩, hag y w2 ⟨_, hm, H.only 0 rfl⟩⟩
  · rintro again y w1 ⟨m, hm, H⟩
    have hyl := Grs.len (H.rowSl 0 rfl)
    have h8 := mayG_le hm.may
    refine ite_false (decide_eq_false (by omega)) (ite_intro (fun h0 => awake19_of hg H) (fun h0 => ?_))
    have h0 := of_decide_eq_false h0
    refine call_of (law0_Low_ok which y.n (by omega) (by omega) _) ?_
    rintro _ w2 ⟨rfl, hw⟩
    subst hw
    have hlt := low_lt (x := which) (n := y.n) (by omega)
    generalize low which (y.n : Int) = i at *
    have hi : i < m.length := by omega
    have hy : Grs w2 y m := H.rowSl 0 rfl
    obtain ⟨hn0, hrv⟩ := hm.at hi
    obtain ⟨hr1, hr2⟩ := hm.revoke hi
    have hr3 := hm.again hi
    have hmr := mayG_rev i hm.may
    refine asI_i (hy.ld hi rfl (H.nw fun p w3 H _ => H.sT_api_Grant 1 rfl rfl fun w4 H => ?_))
    obtain ⟨g, hgd⟩ : ∃ g, g = m.getD i gz := ⟨_, rfl⟩
    rw [← hgd] at H hn0 hrv hr2 hr3 hmr
    change Mine w [] w4 [.row t_api_Grant 6 y (grC m), .blk p g.cells t_api_Grant] at H
    refine H.ldI 1 rfl (ad1 p 0) rfl (H.ldI 1 rfl (ad1 p 0) rfl (ite_false ?_ (H.ld_api_Grant 1 rfl ?_)))
    · rw [decide_eq_false (by omega), decide_eq_false (by omega)]; rfl
    refine call_of (grants_Token_ok a s g hs _ (ha.mod0 H.mod)) ?_
    rintro _ w5 ⟨tk, rfl, htk, m5⟩
    have H := H.got m5 htk
    obtain ⟨T, hT⟩ : ∃ T, T = tok s g := ⟨_, rfl⟩
    have hTl : T.length = 33 := by rw [hT]; exact length_tok _ _
    rw [← hT] at H
    have hkl : tk.n = 33 := by have := (H.bytes 2 rfl).len; omega
    refine asSl_s (call_of (grants_Check_ok m y a tk s T hs (by omega) _ (H.rowSl 0 rfl) (ha.mod0 H.mod) (H.bytes 2 rfl)) ?_)
    rintro _ w6 ⟨h, c, er, rfl, ht, he, m6⟩
    obtain ⟨rfl, hth⟩ := ht.found hm.may hi (by rw [← hgd, hT])
    have H := H.gotE m6 he
    refine ⟨_, rfl, as_gr ⟨rfl, H.nw fun p1 w7 H _ => H.sT_api_Grant 4 rfl rfl fun w8 H => ?_⟩⟩
    change Mine w [] w8 [.row t_api_Grant 6 y (grC m), .blk p g.cells t_api_Grant, .row t_uint8 1 tk (u8s T), Res.err er 0, .blk p1 h.cells t_api_Grant] at H
    refine join0_of fun go hgo => ?_
    have rest : ∀ w', Mine w [] w' [.row t_api_Grant 6 y (grC m), .blk p g.cells t_api_Grant, .row t_uint8 1 tk (u8s T)] → go w' := by
      intro w9 H
      refine hgo w9 ?_
      refine call_of (law0_Low_ok at_ 33 (by omega) (by omega) _) ?_
      rintro _ w10 ⟨rfl, hw⟩
      subst hw
      have hlt := low_lt (x := at_) (n := 33) (by omega)
      generalize low at_ 33 = j at *
      refine asI_i ((H.bytes 2 rfl).ld (i := j) (by omega) ⟨⟨(H.bytes 2 rfl).pre (by omega), by omega, by omega⟩, ?_⟩)
      refine H.st8 2 (i := j) (BitVec.ofInt 8 ((T.getD j 0).toNat : Int) ^^^ BitVec.ofInt 8 by_) rfl (by rw [Int.toNat_natCast, Nat.mul_one]) (by omega) (wrap_u8_of _) fun w11 H => ?_
      obtain ⟨T', hT'⟩ : ∃ T', T' = T.set j (BitVec.ofInt 8 ((T.getD j 0).toNat : Int) ^^^ BitVec.ofInt 8 by_) := ⟨_, rfl⟩
      rw [← hT'] at H
      change Mine w [] w11 [.row t_api_Grant 6 y (grC m), .blk p g.cells t_api_Grant, .row t_uint8 1 tk (u8s T')] at H
      refine call_of (grants_Check_ok m y a tk s T' hs (by omega) _ (H.rowSl 0 rfl) (ha.mod0 H.mod) (H.bytes 2 rfl)) ?_
      rintro _ w12 ⟨u, c1, er1, rfl, ht1, he1, m12⟩
      have H := H.gotE m12 he1
      refine ⟨_, rfl, as_gr ⟨rfl, H.nw fun p2 w13 H _ => H.sT_api_Grant 4 rfl rfl fun w14 H => ?_⟩⟩
      refine call_of (ref19_Check_ok m y a tk s T' hm.fit hs (by omega) _ (H.rowSl 0 rfl) (ha.mod0 H.mod) (H.bytes 2 rfl)) ?_
      rintro _ w15 ⟨u', c2, rfl, ht2, m15⟩
      obtain ⟨rfl, rfl⟩ := ht1.unique ht2
      have H := H.frame m15
      refine ⟨_, rfl, as_gr ⟨_, rfl, rfl, H.nw fun p3 w16 H _ => H.sT_api_Grant 5 rfl rfl fun w17 H => ?_⟩⟩
      change Mine w [] w17 [.row t_api_Grant 6 y (grC m), .blk p g.cells t_api_Grant, .row t_uint8 1 tk (u8s T'), Res.err er1 c1, .blk p2 u.cells t_api_Grant, .blk p3 u.cells t_api_Grant] at H
      refine H.ldI 1 rfl (ad1 p 0) rfl ?_
      rw [hn0]
      refine call_of (grants_Revoke_ok y m ((i : Int) + 1) (by omega) _ (H.rowSl 0 rfl)) ?_
      rintro _ w18 ⟨z, er2, rfl, hz, he2, hn2, m18⟩
      rw [hr2] at hz
      rw [hr1] at he2 hn2
      have H := H.got2 m18 hz he2 hn2
      have hzl := Grs.len (H.rowSl 6 rfl)
      rw [List.length_set] at hzl
      refine ⟨_, rfl, z, rfl, rfl, join0_of fun go2 hgo2 => ?_⟩
      refine H.ld_api_Grant 4 rfl (H.ld_api_Grant 5 rfl (neK_gr (g := u) (ite_false rfl (call_of (law0_Num_err er1 c1 _ (hg.mine H (by simp)) (H.err 3 rfl)) ?_))))
      rintro _ w19 ⟨rfl, m19⟩
      have H := H.frame m19
      refine asI_i (ite_false (by simp) ((H.err 7 rfl).isNil (ite_false ?_ (hgo2 w19 ?_))))
      · rw [decide_eq_true (show ((z.n : Nat) : Int) = ((y.n : Nat) : Int) by omega)]; rfl
      refine H.ldI 1 rfl (ad1 p 0) rfl ?_
      rw [hn0]
      refine call_of (grants_Revoke_ok z _ ((i : Int) + 1) (by rw [List.length_set]; omega) _ (H.rowSl 6 rfl)) ?_
      rintro _ w20 ⟨z2, er3, rfl, hz2, he3, hn3, m20⟩
      rw [hr3] at he3 hn3
      have H := H.got2 m20 hz2 he3 hn3
      have H := H.drew
      have hzz : Grs _ z (m.set i (revR g)) := H.rowSl 6 rfl
      have ez : (m.set i (revR g)).getD i gz = revR g := by simp [List.getD_eq_getElem?_getD, hi]
      refine ⟨_, rfl, z2, rfl, rfl, H.ldI 1 rfl (ad1 p 0) rfl ?_⟩
      rw [hn0]
      refine ⟨⟨by omega, by omega⟩, ?_⟩
      rw [show (i : Int) + 1 - 1 = (i : Int) by omega]
      refine hzz.ld (by rw [List.length_set]; exact hi) rfl ?_
      rw [ez]
      refine H.ldI 1 rfl (ad1 p 1) rfl (H.ldI 1 rfl (ad1 p 2) rfl ?_)
      refine call_of (grants_Allows_ok (revR g) g.n1 g.n2 10 0 _) ?_
      rintro e4 w21 ⟨h4, m21⟩
      rw [allow_rev] at h4
      have H := H.gotE m21 h4
      refine call_of (law0_Num_err e4 10 _ (hg.mine H (by simp)) (H.err 10 rfl)) ?_
      rintro _ w22 ⟨rfl, m22⟩
      have H := H.frame m22
      refine asI_i (ite_true rfl (call_of (law0_Num_err er3 11 _ (hg.mine H (by simp)) (H.err 9 rfl)) ?_))
      rintro _ w23 ⟨rfl, m23⟩
      exact asI_i (ite_true rfl (awake19_of hg (H.frame m23)))
    refine ite_false (by rw [hkl]; rfl) ((H.err 3 rfl).isNil (H.ld_api_Grant 4 rfl (ite_false rfl (call_of (grants_Token_ok a s h hs _ (ha.mod0 H.mod)) ?_))))
    rintro _ w9 ⟨tk2, rfl, htk2, m9⟩
    have H := H.frame m9
    rw [hth] at htk2
    refine asSl_s (call_of (law0_SameBytes_same tk2 tk T _ htk2.bytes (H.bytes 2 rfl) (by omega)) ?_)
    rintro _ w10 ⟨rfl, m10⟩
    exact asB_b (ite_false rfl (rest w10 ((H.frame m10).take 3)))
end Go.Proofs.YtoeedbljiocpdaaDoor
