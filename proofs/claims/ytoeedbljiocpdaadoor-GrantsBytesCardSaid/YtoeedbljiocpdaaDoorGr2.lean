/- GRANTS: what becomes of lists; tokens: the program's and the document's. -/
import Derived.Test.YtoeedbljiocpdaaDoorGr1
namespace Go.Proofs.YtoeedbljiocpdaaDoor
open Go Go.Ev
set_option maxRecDepth 20000
set_option linter.unusedVariables false
def addR (l : List GrV) (g : GrV) : GrV := ⟨(l.length : Int) + 1, g.n1, g.n2, g.n3, g.n4, false⟩
def addC (l : List GrV) (g : GrV) : Int := if mayG l = true ∧ goodG g = true then (if l.length = 8 then 12 else 0) else 2
def addL (l : List GrV) (g : GrV) : List GrV := if addC l g = 0 then l ++ [addR l g] else []
def addN (l : List GrV) (g : GrV) : Int := if addC l g = 0 then (l.length : Int) + 1 else 0
/-- a list, a number and an error -/
def Gave3 (e : TypeId) (sz : Nat) (w w' : World) (v : Value) (vs : List Value) (n c : Int) : Prop :=
  ∃ (y : SlV) (er : Value), v = .tuple ⟨[.slice y.a y.n y.c, .int .i64 n, er]⟩ ∧ Own w' w.heap.size e sz y vs ∧ IsErr w w' er c ∧ (c ≠ 0 → y = ⟨none, 0, 0⟩) ∧ Mod [] w w'
def GaveC3 (e : TypeId) (sz : Nat) (w w' : World) (v : Value) (vs : List Value) (n c : Int) : Prop :=
  ∃ y : SlV, v = .tuple ⟨[.slice y.a y.n y.c, .int .i64 n, .int .i64 c]⟩ ∧ Own w' w.heap.size e sz y vs ∧ Mod [] w w'
theorem mayG_le {l : List GrV} (h : mayG l = true) : l.length ≤ 8 := by
  unfold mayG at h
  simp only [Bool.and_eq_true, decide_eq_true_eq] at h
  exact h.2
theorem grC_one (g : GrV) : grC [g] = g.cells := by simp [grC]
/-- one more -/
theorem app_gr {w0 w : World} {L : List Res} {K : SlV → World → Prop} (i j : Nat) (y : SlV) (p : Nat) (l : List GrV) (g : GrV) (H : Mine w0 [] w L) (hi : L[i]? = some (.row t_api_Grant 6 y (grC l))) (hj : L[j]? = some (.blk p g.cells t_api_Grant)) (hl : l.length ≤ 100000)
    (h : ∀ z w', Mine w0 [] w' (L.set i (.row t_api_Grant 6 z (grC (l ++ [g])))) → z.n = l.length + 1 → K z w') : appK Pr [t_s_api_Grant, t_s_api_Grant] t_s_api_Grant [.slice y.a y.n y.c, .slice (some ⟨p, 0, none⟩) 1 1] w K := by
  have hsl := (H.blk j hj).sl 6 1 1 (Nat.le_refl _) (Nat.le_refl _)
  have hyl := (H.rowSl i hi).len
  rw [length_grC] at hyl
  have hsl : Sl w ⟨some ⟨p, 0, none⟩, 1, 1⟩ 6 (grC [g]) := by rw [grC_one]; exact hsl
  refine H.app (x := ⟨some ⟨p, 0, none⟩, 1, 1⟩) i elt_gr hi hsl (ones_grC _) (by show (y.n + 1) * 48 ≤ _; omega) (by show y.n + 1 ≤ _; omega) fun z w' H' hz => h z w' ?_ (by rw [hz]; show y.n + 1 = _; omega)
  rw [grC_append]
  exact H'
theorem grants_Add_ok (x : SlV) (l : List GrV) (g : GrV) (hl : l.length ≤ 100000) (w : World) (hx : Grs w x l) : Ok Pr f_grants_Add [.slice x.a x.n x.c, .agg ⟨g.cells⟩] w fun v w' => Gave3 t_api_Grant 6 w w' v (grC (addL l g)) (addN l g) (addC l g) := by
  refine V_grants_Add_of ?_
  unfold V_grants_Add
  have hxl := hx.len
  rw [show ((x.n : Nat) : Int) = ((l.length : Nat) : Int) by omega]
  obtain ⟨C, hC⟩ : ∃ C, C = addC l g := ⟨_, rfl⟩
  obtain ⟨Ls, hL⟩ : ∃ Ls, Ls = addL l g := ⟨_, rfl⟩
  obtain ⟨N, hN⟩ : ∃ N, N = addN l g := ⟨_, rfl⟩
  rw [← hC, ← hL, ← hN]
  refine (Mine.start w).nw fun p w1 H _ => join0_of fun go hgo => join1_of fun go1 hgo1 => ?_
  have bad : ∀ w', Mod [] w1 w' → ¬ (mayG l = true ∧ goodG g = true) → go1 true w' := by
    intro w' m hno
    have ec : C = 2 := by rw [hC]; unfold addC; rw [if_neg hno]
    have el : Ls = [] := by rw [hL]; unfold addL; rw [← hC, ec]; rfl
    have en : N = 0 := by rw [hN]; unfold addN; rw [← hC, ec]; rfl
    subst ec el en
    refine hgo1 true w' (ite_true rfl (call_of (grants_fault_ok 2 (by decide) _) ?_))
    rintro e w2 ⟨h2, m2⟩
    exact ⟨⟨none, 0, 0⟩, e, rfl, Own.nil _ _ _ _, h2.from (H.frame m).mod.size, fun _ => rfl, ((H.frame m).frame m2).mod⟩
  have good : ∀ w', Mod [] w1 w' → mayG l = true → goodG g = true → go1 false w' := by
    intro w' m hm hgd
    have H := H.frame m
    have h8 := mayG_le hm
    refine hgo1 false w' (ite_false rfl (ite_intro (fun h => ?_) (fun h => ?_)))
    · have h := of_decide_eq_true h
      have ec : C = 12 := by rw [hC]; unfold addC; rw [if_pos ⟨hm, hgd⟩, if_pos (by omega)]
      have el : Ls = [] := by rw [hL]; unfold addL; rw [← hC, ec]; rfl
      have en : N = 0 := by rw [hN]; unfold addN; rw [← hC, ec]; rfl
      subst ec el en
      refine call_of (grants_fault_ok 12 (by decide) _) ?_
      rintro e w2 ⟨h2, m2⟩
      exact ⟨⟨none, 0, 0⟩, e, rfl, Own.nil _ _ _ _, h2.from H.mod.size, fun _ => rfl, (H.frame m2).mod⟩
    · have h := of_decide_eq_false h
      have ec : C = 0 := by rw [hC]; unfold addC; rw [if_pos ⟨hm, hgd⟩, if_neg (by omega)]
      have el : Ls = l ++ [addR l g] := by rw [hL]; unfold addL; rw [← hC, if_pos ec]
      have en : N = (l.length : Int) + 1 := by rw [hN]; unfold addN; rw [← hC, if_pos ec]
      subst ec el en
      refine hgo w' ⟨⟨by omega, by omega⟩, H.st 0 rfl (ad1 p 0) (by simp) rfl fun w2 H => H.st 0 rfl (ad1 p 5) (by simp) rfl fun w3 H => ?_⟩
      change Mine w [] w3 [.blk p (addR l g).cells t_api_Grant] at H
      have H := H.drew
      refine H.ld_api_Grant 0 rfl (H.ldI 0 rfl (ad1 p 0) rfl ⟨?_, ?_⟩)
      · refine call_of (slices_Clone_gr_ok x l (by omega) _ (hx.mod0 H.mod)) ?_
        rintro _ w5 ⟨y, rfl, hy, hyn, m5⟩
        have H5 := H.got m5 hy
        refine asSl_s ⟨keptB (H.blk 0 rfl) (H5.blk 0 rfl) (add_block _ _), keptB (H.blk 0 rfl) (H5.blk 0 rfl) rfl, H5.nw fun p1 w6 H6 _ => ⟨keptB (H5.blk 0 rfl) (H6.blk 0 rfl) (add_block _ _), ?_⟩⟩
        refine app_gr 1 2 y p1 l (addR l g) H6 rfl rfl (by omega) fun z w7 H7 _ => ⟨keptB (H6.blk 0 rfl) (H7.blk 0 rfl) (add_block _ _), z, .nilIface, rfl, H7.fresh0 1 rfl, IsErr.zero _ _, fun h => absurd rfl h, H7.mod⟩
      · refine H.nw fun p1 w5 H5 _ => ⟨keptB (H.blk 0 rfl) (H5.blk 0 rfl) (add_block _ _), call_of (slices_Clone_gr_ok x l (by omega) _ (hx.mod0 H5.mod)) ?_⟩
        rintro _ w6 ⟨y, rfl, hy, hyn, m6⟩
        have H6 := H5.got m6 hy
        refine asSl_s ⟨keptB (H5.blk 0 rfl) (H6.blk 0 rfl) (add_block _ _), keptB (H5.blk 0 rfl) (H6.blk 0 rfl) rfl, ?_⟩
        refine app_gr 2 1 y p1 l (addR l g) H6 rfl rfl (by omega) fun z w7 H7 _ => ⟨keptB (H6.blk 0 rfl) (H7.blk 0 rfl) (add_block _ _), z, .nilIface, rfl, H7.fresh0 2 rfl, IsErr.zero _ _, fun h => absurd rfl h, H7.mod⟩
  refine call_of (grants_May_ok x l (by omega) _ (hx.mod0 H.mod)) ?_
  rintro _ w2 ⟨rfl, m2⟩
  have H := H.frame m2
  refine asB_b ?_
  cases hm : mayG l with
  | false => exact ite_true rfl (bad w2 m2 (by rw [hm]; simp))
  | true =>
    refine ite_false rfl (H.ld_api_Grant 0 rfl (call_of (grants_good_ok g _) ?_))
    rintro _ w3 ⟨rfl, m3⟩
    refine asB_b ?_
    cases hgd : goodG g with
    | false => exact bad w3 (m2.trans m3) (by rw [hgd]; simp)
    | true => exact good w3 (m2.trans m3) hm hgd
theorem ref19_Add_ok (x : SlV) (l : List GrV) (g : GrV) (hf : ∀ h ∈ l, h.fit) (hfg : g.fit) (hl : l.length ≤ 100000) (w : World) (hx : Grs w x l) : Ok Pr f_ref19_Add [.slice x.a x.n x.c, .agg ⟨g.cells⟩] w fun v w' => GaveC3 t_api_Grant 6 w w' v (grC (addL l g)) (addN l g) (addC l g) := by
  refine V_ref19_Add_of ?_
  unfold V_ref19_Add
  have hxl := hx.len
  rw [show ((x.n : Nat) : Int) = ((l.length : Nat) : Int) by omega]
  obtain ⟨C, hC⟩ : ∃ C, C = addC l g := ⟨_, rfl⟩
  obtain ⟨Ls, hL⟩ : ∃ Ls, Ls = addL l g := ⟨_, rfl⟩
  obtain ⟨N, hN⟩ : ∃ N, N = addN l g := ⟨_, rfl⟩
  rw [← hC, ← hL, ← hN]
  refine (Mine.start w).nw fun p w1 H _ => join0_of fun go hgo => join1_of fun go1 hgo1 => ?_
  have bad : ∀ w', Mod [] w1 w' → ¬ (mayG l = true ∧ goodG g = true) → go1 true w' := by
    intro w' m hno
    have ec : C = 2 := by rw [hC]; unfold addC; rw [if_neg hno]
    have el : Ls = [] := by rw [hL]; unfold addL; rw [← hC, ec]; rfl
    have en : N = 0 := by rw [hN]; unfold addN; rw [← hC, ec]; rfl
    subst ec el en
    exact hgo1 true w' (ite_true rfl ⟨⟨none, 0, 0⟩, rfl, Own.nil _ _ _ _, (H.frame m).mod⟩)
  have good : ∀ w', Mod [] w1 w' → mayG l = true → goodG g = true → go1 false w' := by
    intro w' m hm hgd
    have H := H.frame m
    have h8 := mayG_le hm
    refine hgo1 false w' (ite_false rfl (hgo w' (ite_intro (fun h => ?_) (fun h => ?_))))
    · have h := of_decide_eq_true h
      have ec : C = 12 := by rw [hC]; unfold addC; rw [if_pos ⟨hm, hgd⟩, if_pos (by omega)]
      have el : Ls = [] := by rw [hL]; unfold addL; rw [← hC, ec]; rfl
      have en : N = 0 := by rw [hN]; unfold addN; rw [← hC, ec]; rfl
      subst ec el en
      exact ⟨⟨none, 0, 0⟩, rfl, Own.nil _ _ _ _, H.mod⟩
    · have h := of_decide_eq_false h
      have ec : C = 0 := by rw [hC]; unfold addC; rw [if_pos ⟨hm, hgd⟩, if_neg (by omega)]
      have el : Ls = l ++ [addR l g] := by rw [hL]; unfold addL; rw [← hC, if_pos ec]
      have en : N = (l.length : Int) + 1 := by rw [hN]; unfold addN; rw [← hC, if_pos ec]
      subst ec el en
      refine ⟨⟨by omega, by omega⟩, H.st 0 rfl (ad1 p 0) (by simp) rfl fun w2 H => H.st 0 rfl (ad1 p 5) (by simp) rfl fun w3 H => ?_⟩
      change Mine w [] w3 [.blk p (addR l g).cells t_api_Grant] at H
      have H := H.drew
      refine H.ld_api_Grant 0 rfl (H.ldI 0 rfl (ad1 p 0) rfl ⟨?_, ?_⟩)
      · refine H.clone elt_gr (hx.mod0 H.mod) (ones_grC l) (by omega) (by omega) fun y w5 H5 hyn => ?_
        refine ⟨keptB (H.blk 0 rfl) (H5.blk 0 rfl) (add_block _ _), keptB (H.blk 0 rfl) (H5.blk 0 rfl) rfl, H5.nw fun p1 w6 H6 _ => ⟨keptB (H5.blk 0 rfl) (H6.blk 0 rfl) (add_block _ _), ?_⟩⟩
        refine app_gr 1 2 y p1 l (addR l g) H6 rfl rfl (by omega) fun z w7 H7 _ => ⟨keptB (H6.blk 0 rfl) (H7.blk 0 rfl) (add_block _ _), z, rfl, H7.fresh0 1 rfl, H7.mod⟩
      · refine H.nw fun p1 w5 H5 _ => ⟨keptB (H.blk 0 rfl) (H5.blk 0 rfl) (add_block _ _), H5.clone elt_gr (hx.mod0 H5.mod) (ones_grC l) (by omega) (by omega) fun y w6 H6 hyn => ?_⟩
        refine ⟨keptB (H5.blk 0 rfl) (H6.blk 0 rfl) (add_block _ _), keptB (H5.blk 0 rfl) (H6.blk 0 rfl) rfl, ?_⟩
        refine app_gr 2 1 y p1 l (addR l g) H6 rfl rfl (by omega) fun z w7 H7 _ => ⟨keptB (H6.blk 0 rfl) (H7.blk 0 rfl) (add_block _ _), z, rfl, H7.fresh0 2 rfl, H7.mod⟩
  refine call_of (ref19_May_ok x l hf (by omega) _ (hx.mod0 H.mod)) ?_
  rintro _ w2 ⟨rfl, m2⟩
  have H := H.frame m2
  refine asB_b (H.ld_api_Grant 0 rfl ?_)
  cases hm : mayG l with
  | false => exact ite_true rfl (bad w2 m2 (by rw [hm]; simp))
  | true =>
    refine ite_false rfl (call_of (ref19_one_ok g hfg _) ?_)
    rintro _ w3 ⟨rfl, m3⟩
    refine asB_b ?_
    cases hgd : goodG g with
    | false => exact bad w3 (m2.trans m3) (by rw [hgd]; simp)
    | true => exact good w3 (m2.trans m3) hm hgd
/-! ### revoked -/
def revR (g : GrV) : GrV := ⟨g.n0, g.n1, g.n2, g.n3, g.n4, true⟩
def revC (l : List GrV) (id : Int) : Int := if mayG l = true then (if 1 ≤ id ∧ id ≤ (l.length : Int) then (if (l.getD (id - 1).toNat gz).rev = true then 11 else 0) else 9) else 2
def revL (l : List GrV) (id : Int) : List GrV := if revC l id = 0 then l.set (id - 1).toNat (revR (l.getD (id - 1).toNat gz)) else []
theorem grC_set : ∀ (l : List GrV) (i : Nat), i < l.length → (grC l).set (i * 6 + 5) (.bool true) = grC (l.set i (revR (l.getD i gz)))
  | [], i, h => by simp at h
  | a :: r, 0, _ => by
    show (a.cells ++ grC r).set (0 * 6 + 5) _ = (revR a).cells ++ grC r
    rw [List.set_append_left _ _ (by show 5 < 6; omega)]
    rfl
  | a :: r, i + 1, h => by
    show (a.cells ++ grC r).set ((i + 1) * 6 + 5) _ = a.cells ++ grC (r.set i (revR (r.getD i gz)))
    have hl : a.cells.length = 6 := rfl
    rw [List.set_append_right _ _ (by omega), hl, show (i + 1) * 6 + 5 - 6 = i * 6 + 5 by omega, grC_set r i (by simpa using h)]
theorem st_rev {w0 w : World} {L : List Res} {K : World → Prop} (k : Nat) (y : SlV) (l : List GrV) (i : Nat) (x : Int) (H : Mine w0 [] w L) (hk : L[k]? = some (.row t_api_Grant 6 y (grC l))) (hi : i < l.length) (hx : x = (i : Int))
    (h : ∀ w', Mine w0 [] w' (L.set k (.row t_api_Grant 6 y (grC (l.set i (revR (l.getD i gz)))))) → K w') : idxS y.a x y.n (Ev.st (Addr.add (Addr.add (base y.a) (Int.toNat x * 6)) 5) (.bool true) w K) := by
  subst hx
  have hyl : l.length = y.n := Grs.len (H.rowSl k hk)
  refine ⟨⟨Sl.pre (H.rowSl k hk) (by omega), by omega, by omega⟩, ?_⟩
  refine H.stRow k hk (i := i * 6 + 5) (by rw [Int.toNat_natCast, add_add]) (by rw [length_grC]; omega) rfl fun w' H' => h w' ?_
  rw [← grC_set l i hi]
  exact H'
theorem grants_Revoke_ok (x : SlV) (l : List GrV) (id : Int) (hl : l.length ≤ 100000) (w : World) (hx : Grs w x l) : Ok Pr f_grants_Revoke [.slice x.a x.n x.c, .int .i64 id] w fun v w' => Gave2 t_api_Grant 6 w w' v (grC (revL l id)) (revC l id) := by
  refine V_grants_Revoke_of ?_
  unfold V_grants_Revoke
  have hxl := hx.len
  rw [show ((x.n : Nat) : Int) = ((l.length : Nat) : Int) by omega]
  refine call_of (grants_May_ok x l (by omega) _ hx) ?_
  rintro _ w1 ⟨rfl, m1⟩
  have H := (Mine.start w).frame m1
  refine asB_b ?_
  have no : ∀ (c : Int) (w' : World), Mod [] w w' → c ≠ 0 → revC l id = c → callK Pr f_grants_fault [.int .i64 c] w' fun v w2 => Gave2 t_api_Grant 6 w w2 (.tuple ⟨[.slice none 0 0, v]⟩) (grC (revL l id)) (revC l id) := by
    intro c w' m hc ec
    have el : revL l id = [] := by unfold revL; rw [ec, if_neg hc]
    rw [ec, el]
    refine call_of (grants_fault_ok c hc _) ?_
    rintro e w2 ⟨h2, m2⟩
    exact Gave2.no (h2.from m.size) (m.trans m2)
  cases hm : mayG l with
  | false => exact ite_true rfl (no 2 w1 m1 (by decide) (by unfold revC; rw [hm]; rfl))
  | true =>
    refine ite_false rfl (call_of (grants_in_ok _ _ _ _) ?_)
    rintro _ w2 ⟨rfl, hw⟩
    subst hw
    refine asB_b ?_
    by_cases hid : 1 ≤ id ∧ id ≤ (l.length : Int)
    · have hw2 : within2 1 (l.length : Int) id = true := by unfold within2; rw [decide_eq_true hid.1, decide_eq_true hid.2]; rfl
      rw [hw2]
      obtain ⟨i, hi⟩ : ∃ i : Nat, id - 1 = (i : Int) := ⟨(id - 1).toNat, by omega⟩
      have hil : i < l.length := by omega
      have hcell := (hx.mod0 m1).cell (i := i) (j := 5) hil rfl
      have hit : (id - 1).toNat = i := by omega
      refine ite_false rfl ⟨⟨by omega, by omega⟩, ⟨⟨Sl.pre hx (by omega), by omega, by omega⟩, ?_⟩⟩
      rw [hi]
      refine ⟨(l.getD i gz).rev, by rw [Int.toNat_natCast]; exact hcell, ?_⟩
      cases hr : (l.getD i gz).rev with
      | true => exact ite_true rfl (no 11 _ m1 (by decide) (by unfold revC; rw [if_pos hm, if_pos hid, hit, hr]; rfl))
      | false =>
        have ec : revC l id = 0 := by unfold revC; rw [if_pos hm, if_pos hid, hit, hr]; rfl
        have el : revL l id = l.set i (revR (l.getD i gz)) := by unfold revL; rw [if_pos ec, hit]
        rw [ec, el]
        refine ite_false rfl (call_of (slices_Clone_gr_ok x l (by omega) _ (hx.mod0 m1)) ?_)
        rintro _ w3 ⟨y, rfl, hy, hyn, m3⟩
        have H := H.got m3 hy
        refine asSl_s ⟨⟨by omega, by omega⟩, st_rev 0 y l i _ H rfl hil rfl fun w4 H => ?_⟩
        exact Gave2.yes (H.fresh0 0 rfl) H.mod
    · have hw2 : within2 1 (l.length : Int) id = false := by
        unfold within2
        rw [Bool.and_eq_false_iff, decide_eq_false_iff_not, decide_eq_false_iff_not]
        omega
      rw [hw2]
      exact ite_true rfl (no 9 _ m1 (by decide) (by unfold revC; rw [if_pos hm, if_neg hid]))
theorem ref19_Revoke_ok (x : SlV) (l : List GrV) (id : Int) (hf : ∀ h ∈ l, h.fit) (hl : l.length ≤ 100000) (w : World) (hx : Grs w x l) : Ok Pr f_ref19_Revoke [.slice x.a x.n x.c, .int .i64 id] w fun v w' => GaveC t_api_Grant 6 w w' v (grC (revL l id)) (revC l id) := by
  refine V_ref19_Revoke_of ?_
  unfold V_ref19_Revoke
  have hxl := hx.len
  rw [show ((x.n : Nat) : Int) = ((l.length : Nat) : Int) by omega]
  refine call_of (ref19_May_ok x l hf (by omega) _ hx) ?_
  rintro _ w1 ⟨rfl, m1⟩
  have H := (Mine.start w).frame m1
  refine asB_b ?_
  have no : ∀ (c : Int) (w' : World), Mod [] w w' → c ≠ 0 → revC l id = c → GaveC t_api_Grant 6 w w' (.tuple ⟨[.slice none 0 0, .int .i64 c]⟩) (grC (revL l id)) (revC l id) := by
    intro c w' m hc ec
    have el : revL l id = [] := by unfold revL; rw [ec, if_neg hc]
    rw [ec, el]
    exact ⟨⟨none, 0, 0⟩, rfl, Own.nil _ _ _ _, m⟩
  cases hm : mayG l with
  | false => exact ite_true rfl (no 2 w1 m1 (by decide) (by unfold revC; rw [hm]; rfl))
  | true =>
    refine ite_false rfl ?_
    by_cases hid : 1 ≤ id ∧ id ≤ (l.length : Int)
    · obtain ⟨i, hi⟩ : ∃ i : Nat, id - 1 = (i : Int) := ⟨(id - 1).toNat, by omega⟩
      have hil : i < l.length := by omega
      have hcell := (hx.mod0 m1).cell (i := i) (j := 5) hil rfl
      have hit : (id - 1).toNat = i := by omega
      refine ite_false ?_ ⟨⟨by omega, by omega⟩, ⟨⟨Sl.pre hx (by omega), by omega, by omega⟩, ?_⟩⟩
      · rw [decide_eq_false (by omega), decide_eq_false (by omega)]; rfl
      rw [hi]
      refine ⟨(l.getD i gz).rev, by rw [Int.toNat_natCast]; exact hcell, ?_⟩
      cases hr : (l.getD i gz).rev with
      | true => exact ite_true rfl (no 11 _ m1 (by decide) (by unfold revC; rw [if_pos hm, if_pos hid, hit, hr]; rfl))
      | false =>
        have ec : revC l id = 0 := by unfold revC; rw [if_pos hm, if_pos hid, hit, hr]; rfl
        have el : revL l id = l.set i (revR (l.getD i gz)) := by unfold revL; rw [if_pos ec, hit]
        rw [ec, el]
        refine ite_false rfl (H.clone elt_gr (hx.mod0 m1) (ones_grC l) (by omega) (by omega) fun y w3 H hyn => ?_)
        refine ⟨⟨by omega, by omega⟩, st_rev 0 y l i _ H rfl hil rfl fun w4 H => ?_⟩
        exact ⟨y, rfl, H.fresh0 0 rfl, H.mod⟩
    · refine ite_true ?_ (no 9 _ m1 (by decide) (by unfold revC; rw [if_pos hm, if_neg hid]))
      rw [Bool.or_eq_true, decide_eq_true_eq, decide_eq_true_eq]
      omega
end Go.Proofs.YtoeedbljiocpdaaDoor
