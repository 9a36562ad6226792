/- Texts of this claim, packed: what the last one leans on. -/
import Derived.RangeFuncIn
import Derived.Orders
import Derived.ControlIn
import Derived.RangeFuncLeaves
import Derived.RangeFuncSeq
import Derived.TacticsIn
import Derived.KernelRfl
import Derived.Test.YtdnhoebcomffoaaGreatDoorQ4
import Derived.Test.YtdnhoebcomffoaaGreatDoorQ1
import Derived.Test.YtdnhoebcomffoaaGreatDoorQ2
import Derived.Test.YtdnhoebcomffoaaGreatDoorQ3
section
set_option linter.unusedVariables false
set_option linter.unusedSimpArgs false
/- HINTS that were laid may be read. -/
namespace Go.Proofs.YtdnhoebcomffoaaGreatDoor
open Go Go.Ev
set_option maxRecDepth 20000
set_option linter.unusedVariables false
theorem onesTo_up (f : List Int) (n : Nat) (hn : n ≤ 256) : (∀ x ∈ onesTo f n, x.toNat < n) ∧ (onesTo f n).Pairwise fun a b => a.toNat < b.toNat := by
  induction n with
  | zero => exact ⟨fun x h => by simp [onesTo] at h, by simp [onesTo]⟩
  | succ n ih =>
    obtain ⟨h1, h2⟩ := ih (by omega)
    rw [onesTo_succ]
    have hb : (BitVec.ofNat 8 n : B8).toNat = n := by rw [BitVec.toNat_ofNat]; exact Nat.mod_eq_of_lt (by omega)
    split
    · refine ⟨fun x hx => ?_, ?_⟩
      · rcases List.mem_append.1 hx with h | h
        · have := h1 x h; omega
        · rw [List.mem_singleton.1 h, hb]; omega
      · rw [List.pairwise_append]
        refine ⟨h2, List.pairwise_singleton _ _, fun a ha b hb2 => ?_⟩
        rw [List.mem_singleton.1 hb2, hb]
        exact h1 a ha
    · rw [List.append_nil]
      exact ⟨fun x h => by have := h1 x h; omega, h2⟩
theorem plc_pre (fs : List (List Int)) {i j : Nat} (h : i ≤ j) : ∃ r, plc fs j = plc fs i ++ r := by
  induction j with
  | zero => rw [Nat.le_zero.1 h]; exact ⟨[], by simp⟩
  | succ j ih =>
    rcases Nat.lt_or_ge j i with h1 | h1
    · rw [show i = j + 1 by omega]; exact ⟨[], by simp⟩
    · obtain ⟨r, hr⟩ := ih h1
      exact ⟨r ++ onesTo (fs.getD j []) 256, by rw [plc_succ, hr, List.append_assoc]⟩
theorem getD_app_l {A : Type} (l m : List A) (d : A) {i : Nat} (h : i < l.length) : (l ++ m).getD i d = l.getD i d := by
  rw [List.getD_eq_getElem?_getD, List.getElem?_append_left h, ← List.getD_eq_getElem?_getD]
theorem getD_app_r {A : Type} (l m : List A) (d : A) (i : Nat) : (l ++ m).getD (l.length + i) d = m.getD i d := by
  rw [List.getD_eq_getElem?_getD, List.getElem?_append_right (by omega), Nat.add_sub_cancel_left, ← List.getD_eq_getElem?_getD]
theorem hint_good {s : LayS} {fs : List (List Int)} (hom : s.omega ≤ 80) (h : hintC s fs = 0) : uAll (hintB s fs) s.omega fs.length := by
  have hn : (plc fs fs.length).length ≤ s.omega := by
    by_cases h1 : (plc fs fs.length).length ≤ s.omega
    · exact h1
    · unfold hintC at h; rw [if_neg h1] at h; exact absurd h (by decide)
  have hmono : ∀ r, r ≤ fs.length → (plc fs r).length ≤ (plc fs fs.length).length := fun r hr => by
    obtain ⟨q, hq⟩ := plc_pre fs hr
    rw [hq, List.length_append]; omega
  have hB : hintB s fs = plc fs fs.length ++ (List.replicate (s.omega - (plc fs fs.length).length) 0 ++ endsL fs fs.length) := rfl
  have hat : ∀ r, r ≤ fs.length → uAt (hintB s fs) s.omega r = (plc fs r).length := fun r hr => by
    unfold uAt
    rcases Nat.eq_zero_or_pos r with h0 | h0
    · rw [if_pos h0, h0]; rfl
    · rw [if_neg (by omega)]
      have e : s.omega + (r - 1) = (plc fs fs.length ++ List.replicate (s.omega - (plc fs fs.length).length) (0 : B8)).length + (r - 1) := by
        rw [List.length_append, List.length_replicate]; omega
      rw [hB, ← List.append_assoc, e, getD_app_r]
      unfold endsL
      rw [List.getD_eq_getElem?_getD, List.getElem?_map, List.getElem?_range (by omega)]
      show (BitVec.ofNat 8 (min (plc fs (r - 1 + 1)).length 255) : B8).toNat = _
      rw [show r - 1 + 1 = r by omega, BitVec.toNat_ofNat]
      have := hmono r hr
      rw [show min (plc fs r).length 255 = (plc fs r).length by omega]
      exact Nat.mod_eq_of_lt (by omega)
  refine ⟨fun r hr => ?_, ?_⟩
  · have h1 := hat r (by omega)
    have h2 := hat (r + 1) (by omega)
    have h3 := hmono (r + 1) (by omega)
    have h4 := plc_succ fs r
    have h5 : (plc fs (r + 1)).length = (plc fs r).length + (onesTo (fs.getD r []) 256).length := by rw [h4, List.length_append]
    obtain ⟨q, hq⟩ := plc_pre fs (i := r + 1) (j := fs.length) (by omega)
    unfold uGood
    rw [h1, h2]
    refine ⟨by omega, by omega, fun m ha hm => ?_⟩
    have hget : ∀ j, (plc fs r).length ≤ j → j < (plc fs (r + 1)).length → (hintB s fs).getD j 0 = (onesTo (fs.getD r []) 256).getD (j - (plc fs r).length) 0 := fun j hj1 hj2 => by
      rw [hB, hq, List.append_assoc, getD_app_l _ _ _ hj2, h4]
      have := getD_app_r (plc fs r) (onesTo (fs.getD r []) 256) 0 (j - (plc fs r).length)
      rw [show (plc fs r).length + (j - (plc fs r).length) = j by omega] at this
      exact this
    rw [hget (m - 1) (by omega) (by omega), hget m (by omega) hm]
    have hp := (onesTo_up (fs.getD r []) 256 (by omega)).2
    clear hget h4
    generalize onesTo (fs.getD r []) 256 = O at *
    rw [List.pairwise_iff_getElem] at hp
    have := hp (m - 1 - (plc fs r).length) (m - (plc fs r).length) (by omega) (by omega) (by omega)
    rw [List.getD_eq_getElem?_getD, List.getD_eq_getElem?_getD, List.getElem?_eq_getElem (show m - 1 - (plc fs r).length < _ by omega), List.getElem?_eq_getElem (show m - (plc fs r).length < _ by omega)]
    exact this
  · rw [hat fs.length (Nat.le_refl _), hB, List.drop_left]
    rw [List.take_append_of_le_length (by rw [List.length_replicate]; omega), List.take_of_length_le (by rw [List.length_replicate]; omega)]
    rw [List.any_eq_false]
    intro x hx
    rw [List.eq_of_mem_replicate hx]
    decide
end Go.Proofs.YtdnhoebcomffoaaGreatDoor
end
section
set_option linter.unusedVariables false
set_option linter.unusedSimpArgs false
/- HINTS that were laid are read as they were. -/
namespace Go.Proofs.YtdnhoebcomffoaaGreatDoor
open Go Go.Ev
set_option maxRecDepth 20000
set_option linter.unusedVariables false
def setAll (l : List B8) : List Int := l.foldl (fun acc c => acc.set c.toNat 1) (List.replicate 256 0)
theorem setAll_snoc (l : List B8) (c : B8) : setAll (l ++ [c]) = (setAll l).set c.toNat 1 := by unfold setAll; rw [List.foldl_append, List.foldl_cons, List.foldl_nil]
theorem setAll_ones (f : List Int) (n : Nat) (hn : n ≤ 256) : setAll (onesTo f n) = (List.range 256).map fun j => if j < n ∧ f.getD j 0 = 1 then 1 else 0 := by
  induction n with
  | zero =>
    have e : onesTo f 0 = [] := rfl
    rw [e]
    unfold setAll
    rw [List.foldl_nil]
    refine List.ext_getElem (by rw [List.length_replicate, List.length_map, List.length_range]) fun i h1 h2 => ?_
    rw [List.getElem_replicate, List.getElem_map, if_neg fun h => absurd h.1 (Nat.not_lt_zero _)]
  | succ n ih =>
    rw [onesTo_succ]
    have ih := ih (by omega)
    split
    · rename_i h
      rw [setAll_snoc, ih, BitVec.toNat_ofNat, Nat.mod_eq_of_lt (by omega)]
      refine List.ext_getElem (by simp) fun i h1 h2 => ?_
      rw [List.getElem_set]
      simp only [List.getElem_map, List.getElem_range]
      by_cases hi : n = i
      · subst hi
        rw [if_pos rfl, if_pos ⟨by omega, h⟩]
      · rw [if_neg hi]
        by_cases hc : i < n ∧ f.getD i 0 = 1
        · rw [if_pos hc, if_pos ⟨by omega, hc.2⟩]
        · rw [if_neg hc, if_neg fun h2 => hc ⟨by omega, h2.2⟩]
    · rename_i h
      rw [List.append_nil, ih]
      refine List.map_congr_left fun i _ => ?_
      by_cases hc : i < n ∧ f.getD i 0 = 1
      · rw [if_pos hc, if_pos ⟨by omega, hc.2⟩]
      · rw [if_neg hc, if_neg fun h2 => hc ⟨?_, h2.2⟩]
        rcases Nat.lt_succ_iff_lt_or_eq.1 h2.1 with h3 | h3
        · exact h3
        · rw [h3] at h2; exact absurd h2.2 h
theorem setAll_bits {f : List Int} (hl : f.length = 256) (hf : ∀ x ∈ f, 0 ≤ x ∧ x < 2) : setAll (onesTo f 256) = f := by
  rw [setAll_ones f 256 (by omega)]
  refine List.ext_getElem (by simp [hl]) fun i h1 h2 => ?_
  simp only [List.getElem_map, List.getElem_range]
  have hg : f.getD i 0 = f[i] := by rw [List.getD_eq_getElem?_getD, List.getElem?_eq_getElem h2]; rfl
  have hr := hf f[i] (List.getElem_mem h2)
  rw [hg]
  split
  · rename_i h; exact h.2.symm
  · rename_i h
    have : ¬ f[i] = 1 := fun h3 => h ⟨by omega, h3⟩
    omega
theorem unF_seg (b : List B8) (a e : Nat) (l : List B8) (hl : l.length = e - a) (h : ∀ m, m < e - a → b.getD (a + m) 0 = l.getD m 0) : unF b a e = setAll l := by
  have hm : l = (List.range (e - a)).map fun m => b.getD (a + m) 0 := by
    refine List.ext_getElem (by simp [hl]) fun i h1 h2 => ?_
    simp only [List.getElem_map, List.getElem_range]
    rw [h i (by omega), List.getD_eq_getElem?_getD, List.getElem?_eq_getElem h1]; rfl
  unfold unF setAll
  rw [hm, List.foldl_map]
theorem hint_parts {s : LayS} {fs : List (List Int)} (hom : s.omega ≤ 80) (h : hintC s fs = 0) : (∀ r, r ≤ fs.length → uAt (hintB s fs) s.omega r = (plc fs r).length) ∧ ∀ r, r < fs.length → ∀ j, (plc fs r).length ≤ j → j < (plc fs (r + 1)).length → (hintB s fs).getD j 0 = (onesTo (fs.getD r []) 256).getD (j - (plc fs r).length) 0 := by
  have hn : (plc fs fs.length).length ≤ s.omega := by
    by_cases h1 : (plc fs fs.length).length ≤ s.omega
    · exact h1
    · unfold hintC at h; rw [if_neg h1] at h; exact absurd h (by decide)
  have hmono : ∀ r, r ≤ fs.length → (plc fs r).length ≤ (plc fs fs.length).length := fun r hr => by
    obtain ⟨q, hq⟩ := plc_pre fs hr
    rw [hq, List.length_append]; omega
  have hB : hintB s fs = plc fs fs.length ++ (List.replicate (s.omega - (plc fs fs.length).length) 0 ++ endsL fs fs.length) := rfl
  refine ⟨fun r hr => ?_, fun r hr j hj1 hj2 => ?_⟩
  · unfold uAt
    rcases Nat.eq_zero_or_pos r with h0 | h0
    · rw [if_pos h0, h0]; rfl
    · rw [if_neg (by omega)]
      have e : s.omega + (r - 1) = (plc fs fs.length ++ List.replicate (s.omega - (plc fs fs.length).length) (0 : B8)).length + (r - 1) := by
        rw [List.length_append, List.length_replicate]; omega
      rw [hB, ← List.append_assoc, e, getD_app_r]
      unfold endsL
      rw [List.getD_eq_getElem?_getD, List.getElem?_map, List.getElem?_range (by omega)]
      show (BitVec.ofNat 8 (min (plc fs (r - 1 + 1)).length 255) : B8).toNat = _
      rw [show r - 1 + 1 = r by omega, BitVec.toNat_ofNat]
      have := hmono r hr
      rw [show min (plc fs r).length 255 = (plc fs r).length by omega]
      exact Nat.mod_eq_of_lt (by omega)
  · obtain ⟨q, hq⟩ := plc_pre fs (i := r + 1) (j := fs.length) (by omega)
    have h4 := plc_succ fs r
    rw [hB, hq, List.append_assoc, getD_app_l _ _ _ hj2, h4]
    have := getD_app_r (plc fs r) (onesTo (fs.getD r []) 256) 0 (j - (plc fs r).length)
    rw [show (plc fs r).length + (j - (plc fs r).length) = j by omega] at this
    exact this
theorem hint_back {s : LayS} {fs : List (List Int)} (hom : s.omega ≤ 80) (h : hintC s fs = 0) (hb : Below 2 fs) : unL (hintB s fs) s.omega fs.length = fs := by
  obtain ⟨h1, h2⟩ := hint_parts hom h
  refine List.ext_getElem (by simp [unL]) fun r hr1 hr => ?_
  have e : (unL (hintB s fs) s.omega fs.length)[r] = unF (hintB s fs) (uAt (hintB s fs) s.omega r) (uAt (hintB s fs) s.omega (r + 1)) := by simp [unL]
  have hg : fs.getD r [] = fs[r] := by rw [List.getD_eq_getElem?_getD, List.getElem?_eq_getElem hr]; rfl
  rw [e, h1 r (by omega), h1 (r + 1) (by omega)]
  have h5 : (plc fs (r + 1)).length = (plc fs r).length + (onesTo (fs.getD r []) 256).length := by rw [plc_succ, List.length_append]
  rw [unF_seg _ _ _ (onesTo (fs.getD r []) 256) (by omega) fun m hm => ?_]
  · rw [hg]
    exact setAll_bits (hb _ (List.getElem_mem hr)).1 (hb _ (List.getElem_mem hr)).2
  · have := h2 r hr ((plc fs r).length + m) (by omega) (by omega)
    rw [this, Nat.add_sub_cancel_left]
end Go.Proofs.YtdnhoebcomffoaaGreatDoor
end
section
set_option linter.unusedVariables false
set_option linter.unusedSimpArgs false
/- WHY WHAT WAS SIGNED IS TAKEN: number by number. -/
namespace Go.Proofs.YtdnhoebcomffoaaGreatDoor
open Go Go.Ev
set_option maxRecDepth 20000
set_option linter.unusedVariables false
theorem low1_ge (g : Int) (f : List Int) (m : Int) : m ≤ low1 g m f ∧ ∀ v ∈ f, prtL g v ≤ low1 g m f ∧ -(prtL g v) ≤ low1 g m f := by
  unfold low1
  induction f generalizing m with
  | nil => exact ⟨Int.le_refl _, fun x h => by simp at h⟩
  | cons a r ih =>
    obtain ⟨h1, h2⟩ := ih (max (max m (prtL g a)) (0 - prtL g a))
    refine ⟨by rw [List.foldl_cons]; omega, fun x hx => ?_⟩
    rw [List.foldl_cons]
    rcases List.mem_cons.1 hx with rfl | hx
    · omega
    · exact h2 x hx
theorem lowN_ge (g : Int) (X : List (List Int)) (m : Int) : m ≤ X.foldl (low1 g) m ∧ ∀ f ∈ X, ∀ v ∈ f, prtL g v ≤ X.foldl (low1 g) m ∧ -(prtL g v) ≤ X.foldl (low1 g) m := by
  induction X generalizing m with
  | nil => exact ⟨Int.le_refl _, fun x h => by simp at h⟩
  | cons a r ih =>
    obtain ⟨h1, h2⟩ := ih (low1 g m a)
    obtain ⟨h3, h4⟩ := low1_ge g a m
    refine ⟨by rw [List.foldl_cons]; omega, fun f hf v hv => ?_⟩
    rw [List.foldl_cons]
    rcases List.mem_cons.1 hf with rfl | hf
    · have := h4 v hv; omega
    · exact h2 f hf v hv
/-- a number's high part and its low one -/
theorem spl_sum (x : Int) : (splH x * 8192 + splL x % 8380417) % 8380417 = x % 8380417 ∧ 0 ≤ splH x * 8192 ∧ splH x * 8192 < 8380417 := by
  obtain ⟨h1, h2, h3, h4⟩ := splL_rng x
  unfold splH
  have : 0 ≤ x % 8380417 ∧ x % 8380417 < 8380417 := by omega
  generalize x % 8380417 = r at *
  generalize splL x = l at *
  omega
theorem use_one {g b w s t : Int} (hg : GG g) (hb : 0 ≤ b ∧ b < g) (hs : nrm s ≤ b) (ht : nrm t < g) (hl : prtL g ((w - s) % 8380417) < g - b ∧ -(prtL g ((w - s) % 8380417)) < g - b) :
    use g (hnt g (0 - t) ((w - s) % 8380417 + t)) (((w - s) % 8380417 + t) % 8380417) = prtH g w := by
  rw [use_mod g _ _ ((w - s) % 8380417 + t) (by omega), use_hnt hg ht]
  exact (high_near hg hb hs (y := w) (by omega) ⟨by omega, hl.1⟩).symm
/-- what is made out of hints, poly by poly -/
def useL (g : Int) (HH W : List (List Int)) : List (List Int) := eachL (fun r f => (List.range f.length).map fun i => use g ((HH.getD r []).getD i 0) (f.getD i 0)) W
theorem getD_map_range {f : Nat → Int} {n i : Nat} (h : i < n) : ((List.range n).map f).getD i 0 = f i := by
  rw [List.getD_eq_getElem?_getD, List.getElem?_map, List.getElem?_range h]; rfl
theorem eachL_ext {F G : Nat → List Int → List Int} {fs gs : List (List Int)} (hl : fs.length = gs.length) (h : ∀ r, r < fs.length → F r (fs.getD r []) = G r (gs.getD r [])) : eachL F fs = eachL G gs := by
  unfold eachL
  rw [← hl]
  exact List.map_congr_left fun r hr => h r (List.mem_range.1 hr)
theorem taken_rows {g beta : Int} (hg : GG g) (hbeta : 0 ≤ beta ∧ beta < g) (A : List (List (List Int))) (Y s1 s2 T1 t0 : List (List Int)) (b : List Int) (hr : ∀ r ∈ A, r.length = Y.length) (h1 : s1.length = Y.length) (h2 : s2.length = A.length) (hT : T1.length = A.length) (h0 : t0.length = A.length)
    (ht : ∀ r, r < A.length → (plusL (applyL A s1) s2).getD r [] = addP (T1.getD r []) (t0.getD r [])) (hS : ∀ r, r < A.length → ∀ x ∈ (scaledL b s2).getD r [], nrm x ≤ beta)
    (hlow : lowN g (lessL (applyL A Y) (scaledL b s2)) < g - beta) (hn : normL (scaledL b t0) < g) :
    useL g (hntsL g (lessL (applyL A Y) (scaledL b s2)) (scaledL b t0)) (lessL (applyL A (plusL Y (scaledL b s1))) (scaledL b T1)) = mappedL (prtH g) (applyL A Y) := by
  have la : ∀ fs, (applyL A fs).length = A.length := fun fs => by unfold applyL; rw [List.length_map]
  have lle : ∀ fs gs : List (List Int), (lessL fs gs).length = fs.length := fun fs gs => length_eachL _ _
  refine eachL_ext (by rw [lle, la, la]) fun r hr' => ?_
  rw [lle, la] at hr'
  have hv := verify_row A Y s1 s2 T1 t0 b hr h1 h2 hT h0 ht hr'
  rw [hv]
  have hX := getD_lessL (applyL A Y) (scaledL b s2) (i := r) (by rw [la]; exact hr')
  have hH : (hntsL g (lessL (applyL A Y) (scaledL b s2)) (scaledL b t0)).getD r [] = hntF g ((scaledL b t0).getD r []) ((lessL (applyL A Y) (scaledL b s2)).getD r []) := getD_eachL _ _ (by rw [lle, la]; exact hr')
  have hlo := (lowN_ge g (lessL (applyL A Y) (scaledL b s2)) 0).2 _ (mem_getD (i := r) (by rw [lle, la]; exact hr') [])
  change ∀ v ∈ (lessL (applyL A Y) (scaledL b s2)).getD r [], prtL g v ≤ lowN g (lessL (applyL A Y) (scaledL b s2)) ∧ -(prtL g v) ≤ lowN g (lessL (applyL A Y) (scaledL b s2)) at hlo
  have hno := (normL_ge (scaledL b t0) 0).2 _ (mem_getD (i := r) (by rw [show (scaledL b t0).length = t0.length from length_eachL _ _]; omega) [])
  change ∀ x ∈ (scaledL b t0).getD r [], nrm x ≤ normL (scaledL b t0) at hno
  have hS := hS r hr'
  have pS : Po ((scaledL b s2).getD r []) := (scaledL_pos b s2).get (by rw [show (scaledL b s2).length = s2.length from length_eachL _ _]; omega)
  have pT : Po ((scaledL b t0).getD r []) := (scaledL_pos b t0).get (by rw [show (scaledL b t0).length = t0.length from length_eachL _ _]; omega)
  have pW : Po ((applyL A Y).getD r []) := (applyL_pos A Y).get (by rw [la]; exact hr')
  rw [hH]
  generalize lowN g (lessL (applyL A Y) (scaledL b s2)) = LOW at *
  generalize normL (scaledL b t0) = NT at *
  rw [hX] at hlo ⊢
  generalize (scaledL b s2).getD r [] = S at *
  generalize (scaledL b t0).getD r [] = T at *
  generalize (applyL A Y).getD r [] = W at *
  have lx : (subP W S).length = 256 := (subP_po W S).len
  refine ext256 (by rw [List.length_map, List.length_range]; exact (addP_po _ _).len) (by rw [List.length_map]; exact pW.len) fun i hi => ?_
  have ga : (addP (subP W S) T).getD i 0 = ((subP W S).getD i 0 + T.getD i 0) % 8380417 := getD_tab _ hi
  have gs : (subP W S).getD i 0 = (W.getD i 0 - S.getD i 0) % 8380417 := getD_tab _ hi
  have gm : (W.map (prtH g)).getD i 0 = prtH g (W.getD i 0) := by
    rw [List.getD_eq_getElem?_getD, List.getElem?_map, List.getD_eq_getElem?_getD, List.getElem?_eq_getElem (show i < W.length by rw [pW.len]; exact hi)]; rfl
  have gh : (hntF g T (subP W S)).getD i 0 = hnt g (0 - T.getD i 0) ((subP W S).getD i 0 + T.getD i 0) := by
    unfold hntF; exact getD_map_range (by rw [lx]; exact hi)
  rw [getD_map_range (by rw [(addP_po _ _).len]; exact hi), gm, gh, ga]
  have m1 := hlo _ (mem_getD (l := subP W S) (i := i) (by rw [lx]; exact hi) 0)
  rw [gs] at m1 ⊢
  exact use_one hg hbeta (hS _ (mem_getD (by rw [pS.len]; exact hi) 0)) (Int.lt_of_le_of_lt (hno _ (mem_getD (by rw [pT.len]; exact hi) 0)) hn) ⟨by omega, by omega⟩
end Go.Proofs.YtdnhoebcomffoaaGreatDoor
end
section
set_option linter.unusedVariables false
set_option linter.unusedSimpArgs false
/- SIGNING: the program's. -/
namespace Go.Proofs.YtdnhoebcomffoaaGreatDoor
open Go Go.Ev
set_option maxRecDepth 20000
set_option linter.unusedVariables false
/-- all that the turns of a signature need -/
structure Tn where
  set : Int
  s : LayS
  A : List (List (List Int))
  s1 : List (List Int)
  s2 : List (List Int)
  t0 : List (List Int)
  mu : List B8
  rho3 : List B8
def Tn.Y (t : Tn) (n : Nat) : List (List Int) := yL t.set t.rho3 n t.s.l
def Tn.W (t : Tn) (n : Nat) : List (List Int) := applyL t.A (t.Y n)
@[irreducible] def Tn.CH (t : Tn) (n : Nat) : List B8 := spOut 136 31 (t.mu ++ highB t.s.g2 (mappedL (prtH t.s.g2) (t.W n))) (t.s.c : Int)
def Tn.B (t : Tn) (n : Nat) : List Int := ballL t.set (t.CH n)
def Tn.Z (t : Tn) (n : Nat) : List (List Int) := plusL (t.Y n) (scaledL (t.B n) t.s1)
def Tn.X (t : Tn) (n : Nat) : List (List Int) := lessL (t.W n) (scaledL (t.B n) t.s2)
def Tn.T (t : Tn) (n : Nat) : List (List Int) := scaledL (t.B n) t.t0
def Tn.H (t : Tn) (n : Nat) : List (List Int) := hntsL t.s.g2 (t.X n) (t.T n)
def Tn.ok (t : Tn) (n : Nat) : Bool := okT t.s (t.Z n) (t.X n) (t.T n) (t.H n)
def Tn.sig (t : Tn) (n : Nat) : List B8 := sigB t.s (t.CH n) (t.Z n) (t.H n)
theorem Tn.V (t : Tn) (n : Nat) : TurnV t.set t.s t.A t.s1 t.s2 t.t0 t.mu t.rho3 n (t.Y n) (t.W n) (t.CH n) (t.B n) (t.Z n) (t.X n) (t.T n) (t.H n) := ⟨rfl, rfl, by unfold Tn.CH; rfl, rfl, rfl, rfl, rfl, rfl⟩
def Tn.find (t : Tn) : Option Nat := (List.range 500).find? fun i => t.ok (i * t.s.l)
theorem Tn.find_some {t : Tn} {i : Nat} (hi : i < 500) (h : ∀ j, j < i → t.ok (j * t.s.l) = false) (hp : t.ok (i * t.s.l) = true) : t.find = some i := by
  unfold Tn.find
  rw [List.find?_range_eq_some]
  exact ⟨hp, List.mem_range.2 hi, fun j hj => by rw [h j hj]; rfl⟩
theorem Tn.find_none {t : Tn} (h : ∀ j, j < 500 → t.ok (j * t.s.l) = false) : t.find = none := by
  unfold Tn.find
  rw [List.find?_eq_none]
  intro j hj
  rw [h j (List.mem_range.1 hj)]; decide
@[irreducible] def rhoOf (key rnd mu : List B8) : List B8 := spOut 136 31 (key ++ (rnd ++ mu)) 64
@[irreducible] def mu3 (tr note m : List B8) : List B8 := muL tr note m
def tnOf (set : Int) (l note m rnd : List B8) : Tn := ⟨set, layS set, matL (layS set).k (layS set).l (l.take 32), s1R (layS set) l, s2R (layS set) l, t0R (layS set) l, mu3 ((l.drop 64).take 64) note m, rhoOf ((l.drop 32).take 32) rnd (mu3 ((l.drop 64).take 64) note m)⟩
def sgC (set : Int) (l note m rnd : List B8) : Int :=
  if openC set l.length = 0 then
    (if rnd.length = 32 ∧ note.length ≤ 255 then
      (if leanB (layS set) (s1R (layS set) l) (s2R (layS set) l) = true then (if (tnOf set l note m rnd).find.isSome = true then 0 else 5) else 4)
    else 3)
  else openC set l.length
def sgL (set : Int) (l note m rnd : List B8) : List B8 := if sgC set l note m rnd = 0 then (tnOf set l note m rnd).sig ((tnOf set l note m rnd).find.getD 0 * (layS set).l) else []
theorem opened_of {set : Int} {n : Nat} (h : openC set n = 0) : isSet set = true ∧ n = skS set := by
  unfold openC at h
  split at h
  · rename_i h1
    split at h
    · rename_i h2; exact ⟨h1, h2⟩
    · exact absurd h (by decide)
  · exact absurd h (by decide)
theorem sign_Sign_ok (set : Int) (x xn xm xr : SlV) (l note m rnd : List B8) (h1 : note.length ≤ 100000) (h2 : m.length ≤ 100000) (h3 : rnd.length ≤ 100000) (w : World) (hx : Bytes w x l) (hxn : Bytes w xn note) (hxm : Bytes w xm m) (hxr : Bytes w xr rnd) :
    Ok Pr f_sign_Sign [.int .i64 set, .slice x.a x.n x.c, .slice xn.a xn.n xn.c, .slice xm.a xm.n xm.c, .slice xr.a xr.n xr.c] w fun v w' => Gave2 t_uint8 1 w w' v (u8s (sgL set l note m rnd)) (sgC set l note m rnd) := by
  refine V_sign_Sign_of ?_
  unfold V_sign_Sign
  rw [zc_lSet, zc_secret]
  have hrl := hxr.len
  have hP : sgC set l note m rnd = if openC set l.length = 0 then (if rnd.length = 32 ∧ note.length ≤ 255 then (if leanB (layS set) (s1R (layS set) l) (s2R (layS set) l) = true then (if (tnOf set l note m rnd).find.isSome = true then 0 else 5) else 4) else 3) else openC set l.length := rfl
  have hR : sgL set l note m rnd = if sgC set l note m rnd = 0 then (tnOf set l note m rnd).sig ((tnOf set l note m rnd).find.getD 0 * (layS set).l) else [] := rfl
  have ht : tnOf set l note m rnd = ⟨set, layS set, matL (layS set).k (layS set).l (l.take 32), s1R (layS set) l, s2R (layS set) l, t0R (layS set) l, mu3 ((l.drop 64).take 64) note m, rhoOf ((l.drop 32).take 32) rnd (mu3 ((l.drop 64).take 64) note m)⟩ := rfl
  refine call_of (sign_opened_ok set x l w hx) ?_
  rintro _ w1 ⟨c0, c1, c2, c3, c4, c5, er, rfl, he, m1, hop⟩
  generalize sgL set l note m rnd = R at *
  generalize sgC set l note m rnd = C at *
  generalize tnOf set l note m rnd = t at *
  refine ⟨_, rfl, as_sign_secret_of ?_⟩
  by_cases h0 : openC set l.length = 0
  · have hop := hop h0
    obtain ⟨his, hln⟩ := opened_of h0
    have hG := goodS his
    have hln2 := hln.trans (skS_skN his)
    obtain ⟨s, hs⟩ : ∃ s, s = layS set := ⟨_, rfl⟩
    rw [← hs] at hop hP hR ht hG hln2
    rw [h0] at he
    rw [if_pos h0] at hP
    obtain ⟨fb, H⟩ := (Mine.start w).gotBox hop.box
    obtain rfl : er = .nilIface := by
      rcases he.1 with ⟨h, _⟩ | ⟨_, _, _, _, h⟩
      · exact h
      · exact absurd rfl h
    refine ⟨rfl, H.nw fun p w2 H _ => H.sT_sign_secret 1 rfl rfl fun w3 H => ifn_nil (ite_false rfl (call_of (lay_Of_ok set w3) ?_))⟩
    rintro _ w4 ⟨rfl, m4⟩
    have H := H.frame m4
    rw [his]
    have hrd := reads_pos hG hln2
    have hlen32 : (l.take 32).length = 32 := by rw [List.length_take, hln2]; unfold skN; omega
    have hlen64 : ((l.drop 64).take 64).length = 64 := by rw [List.length_take, List.length_drop, hln2]; unfold skN; omega
    have hlenk : ((l.drop 32).take 32).length = 32 := by rw [List.length_take, List.length_drop, hln2]; unfold skN; omega
    rw [← hs]
    refine ⟨_, rfl, as_lSet ⟨_, rfl, rfl, H.nw fun p1 w5 H _ => H.sT_lay_Set 2 rfl rfl fun w6 H => ?_⟩⟩
    have H : Mine w [] w6 [.box fb fun w => Pols w c3 (s1R s l) ∧ Pols w c4 (s2R s l) ∧ Pols w c5 (t0R s l), .blk p (cs_sign_secret c0 c1 c2 c3 c4 c5) t_sign_secret, .blk p1 s.cells t_lay_Set] := H
    have bx : ∀ {w' : World} {T : List Res}, Mine w [] w' (.box fb (fun w => Pols w c3 (s1R s l) ∧ Pols w c4 (s2R s l) ∧ Pols w c5 (t0R s l)) :: T) → Pols w' c3 (s1R s l) ∧ Pols w' c4 (s2R s l) ∧ Pols w' c5 (t0R s l) := fun H => H.box 0 rfl
    have n1 : (s1R s l).length = s.l := length_polysL _ _ _ _
    have n2 : (s2R s l).length = s.k := length_polysL _ _ _ _
    have n0 : (t0R s l).length = s.k := length_polysL _ _ _ _
    have hk8 := hG.k
    have hl7 := hG.l
    refine H.ldL 1 rfl (ad1 p 2) rfl (call_of (sign_digest_ok c2 xn xm ((l.drop 64).take 64) note m (by omega) (by omega) (by omega) _ (hop.tr.mod0 H.mod) (hxn.mod0 H.mod) (hxm.mod0 H.mod)) ?_)
    rintro _ w7 ⟨ym, e7, rfl, hym, he7, hno7, m7⟩
    have H := H.got2 m7 hym he7 hno7
    have hmu3 : mu3 ((l.drop 64).take 64) note m = muL ((l.drop 64).take 64) note m := by unfold mu3; rfl
    have hmul : (muL ((l.drop 64).take 64) note m).length = 64 := by unfold muL; exact spOut_len 136 31 _ 64 (by omega)
    rw [← hmu3] at H hmul
    generalize mu3 ((l.drop 64).take 64) note m = mu at *
    have hrho : (rhoOf ((l.drop 32).take 32) rnd mu).length = 64 := by unfold rhoOf; exact spOut_len 136 31 _ 64 (by omega)
    have hrho2 : rhoOf ((l.drop 32).take 32) rnd mu = spOut 136 31 (((l.drop 32).take 32) ++ (rnd ++ mu)) 64 := by unfold rhoOf; rfl
    refine ⟨_, rfl, ym, rfl, rfl, join0_of fun go hgo => join1_of fun go1 hgo1 => ?_⟩
    have bad : go1 true w7 → True := fun _ => trivial
    have err3 : C = 3 → go1 true w7 := fun hC => by
      rw [hC, if_neg (by decide)] at hR
      refine hgo1 _ _ (ite_true rfl (call_of (sign_fault_ok 3 (by decide) w7) ?_))
      rintro e w8 ⟨h8, m8⟩
      rw [hC, hR]
      exact Gave2.no (h8.from H.mod.size) (H.frame m8).mod
    by_cases hr32 : rnd.length = 32
    · refine ite_false (by rw [decide_eq_true (show ((xr.n : Nat) : Int) = 32 by omega)]; rfl) ?_
      have hdig : digC note.length = if note.length ≤ 255 then 0 else 3 := rfl
      by_cases hn255 : note.length ≤ 255
      · rw [if_pos hn255] at hdig H
        rw [hdig] at H
        refine (H.err 4 rfl).isNil ?_
        rw [if_pos ⟨hr32, hn255⟩] at hP
        refine hgo1 _ _ (ite_false rfl ?_)
        refine H.ld_sign_secret 1 rfl (H.ld_lay_Set 2 rfl (call_of (sign_lean_ok s c0 c1 c2 c3 c4 c5 (s1R s l) (s2R s l) (by omega) (by omega) hrd.1 hrd.2.1 _ (bx H).1 (bx H).2.1) ?_))
        rintro _ w8 ⟨rfl, m8⟩
        have H := H.frame m8
        refine asB_b ?_
        by_cases hl : leanB s (s1R s l) (s2R s l) = true
        · rw [if_pos hl] at hP
          rw [hl]
          refine ite_false rfl (hgo _ ?_)
          refine H.ld_lay_Set 2 rfl (H.ldL 1 rfl (ad1 p 0) rfl (call_of (sign_matrix_ok s (by omega) (by omega) c0 (l.take 32) _ (hop.rho.mod0 H.mod)) ?_))
          rintro _ w9 ⟨yA, rfl, hyA⟩
          obtain ⟨fm, H⟩ := H.gotBox hyA
          have hrows := matL_rows (k := s.k) (l := s.l) hlen32
          have hAl : (matL s.k s.l (l.take 32)).length = s.k := length_matL _ _ _
          generalize matL s.k s.l (l.take 32) = A at *
          refine asSl_s (H.ldL 1 rfl (ad1 p 1) rfl (H.nw fun p2 w10 H _ => ?_))
          refine call_of (sponge_Shake256_ok 64 ⟨some ⟨p2, 0, none⟩, 3, 3⟩ [(l.drop 32).take 32, rnd, mu] _ ?_ ?_) ?_
          · refine Parts.ofs (ss := [c1, xr, ym]) (H.blk 6 rfl) (by simp) rfl fun i s l hs hl => ?_
            match i, hs, hl with
            | 0, hs, hl => cases hs; cases hl; exact ⟨hop.key.mod0 H.mod, off_nil _⟩
            | 1, hs, hl => cases hs; cases hl; exact ⟨hxr.mod0 H.mod, off_nil _⟩
            | 2, hs, hl => cases hs; cases hl; exact ⟨H.bytes 3 rfl, off_nil _⟩
            | i + 3, hs, hl => simp at hs
          · refine smallOf (by show 3 < 1000000; omega) fun k hk => ?_
            simp only [List.mem_cons, List.not_mem_nil, or_false] at hk
            rcases hk with rfl | rfl | rfl <;> omega
          rintro _ w11 ⟨yr, rfl, hyr, m11⟩
          rw [show [(l.drop 32).take 32, rnd, mu].flatten = ((l.drop 32).take 32) ++ (rnd ++ mu) by simp, ← hrho2] at hyr
          have H := H.got m11 hyr
          generalize rhoOf ((l.drop 32).take 32) rnd mu = rho3 at *
          have te : t.s = s := by rw [ht]
          refine asSl_s (loop2_up 0 500 (fun i (n : Int) w' => n = ((i * s.l : Nat) : Int) ∧ (∀ j, j < i → t.ok (j * s.l) = false) ∧ Mod [] w11 w') rfl (by omega) ⟨by simp, fun j h => by omega, Mod.refl _ _⟩ ?_ ?_)
          · rintro again i _ w12 _ hi ⟨rfl, hno, m12⟩ hag
            have H := H.frame m12
            have hil : i * s.l ≤ 500 * 7 := Nat.mul_le_mul (by omega) hl7
            have hV : TurnV set s A (s1R s l) (s2R s l) (t0R s l) mu rho3 (i * s.l) (t.Y (i * s.l)) (t.W (i * s.l)) (t.CH (i * s.l)) (t.B (i * s.l)) (t.Z (i * s.l)) (t.X (i * s.l)) (t.T (i * s.l)) (t.H (i * s.l)) := by rw [ht]; exact Tn.V ⟨set, s, A, s1R s l, s2R s l, t0R s l, mu, rho3⟩ (i * s.l)
            have hOK : t.ok (i * s.l) = okT s (t.Z (i * s.l)) (t.X (i * s.l)) (t.T (i * s.l)) (t.H (i * s.l)) := by rw [← te]; rfl
            have hSIG : t.sig (i * s.l) = sigB s (t.CH (i * s.l)) (t.Z (i * s.l)) (t.H (i * s.l)) := by rw [← te]; rfl
            generalize t.Y (i * s.l) = vY at *
            generalize t.W (i * s.l) = vW at *
            generalize t.CH (i * s.l) = vCH at *
            generalize t.B (i * s.l) = vB at *
            generalize t.Z (i * s.l) = vZ at *
            generalize t.X (i * s.l) = vX at *
            generalize t.T (i * s.l) = vT at *
            generalize t.H (i * s.l) = vH at *
            refine ite_false (decide_eq_false (by omega)) (H.ld_sign_secret 1 rfl (call_of (sign_turn_ok set his s hs c0 c1 c2 c3 c4 c5 yA ym yr A (s1R s l) (s2R s l) (t0R s l) mu rho3 (i * s.l) (by omega) n1 n2 n0 hrd.1 hrd.2.1 hrd.2.2 hAl hrows hmul hrho hV _ (H.box 5 rfl) (H.bytes 3 rfl) (H.bytes 7 rfl) (bx H).1 (bx H).2.1 (bx H).2.2) ?_))
            rintro _ w13 ⟨yo, rfl, hyo, m13⟩
            rw [← hOK] at hyo ⊢
            rw [← hSIG] at hyo
            refine ⟨_, rfl, yo, rfl, _, rfl, rfl, ?_⟩
            by_cases hok : t.ok (i * s.l) = true
            · have hfind := Tn.find_some (t := t) hi (by rw [te]; exact hno) (by rw [te]; exact hok)
              rw [hfind, Option.isSome_some, if_pos rfl] at hP
              rw [hfind, hP, if_pos rfl, Option.getD_some] at hR
              have F := H.got m13 (hyo hok)
              rw [hok, hP, hR]
              exact ite_true rfl (Gave2.yes (F.fresh0 8 rfl) F.mod)
            · have hok := Bool.not_eq_true _ |>.mp hok
              have H := H.frame m13
              rw [hok]
              have e1 : (i + 1) * s.l = i * s.l + s.l := Nat.succ_mul _ _
              refine ite_false rfl (H.ldI 2 rfl (ad1 p1 1) rfl ⟨⟨by omega, by omega⟩, ⟨by omega, by omega⟩, hag _ w13 ⟨by omega, fun j hj => ?_, m12.trans m13⟩⟩)
              rcases Nat.lt_succ_iff_lt_or_eq.1 hj with h | rfl
              · exact hno j h
              · exact hok
          · rintro again _ w12 ⟨rfl, hno, m12⟩
            have H := H.frame m12
            have hfind := Tn.find_none (t := t) (by rw [te]; exact hno)
            rw [hfind, if_neg (by decide)] at hP
            rw [hP, if_neg (by decide)] at hR
            refine ite_true (decide_eq_true (by omega)) (call_of (sign_fault_ok 5 (by decide) w12) ?_)
            rintro e w13 ⟨h13, m13⟩
            rw [hP, hR]
            exact Gave2.no (h13.from H.mod.size) (H.frame m13).mod
        · rw [if_neg hl] at hP
          rw [hP, if_neg (by decide)] at hR
          refine ite_true (by rw [Bool.not_eq_true _ |>.mp hl]; rfl) (call_of (sign_fault_ok 4 (by decide) w8) ?_)
          rintro e w9 ⟨h9, m9⟩
          rw [hP, hR]
          exact Gave2.no (h9.from H.mod.size) (H.frame m9).mod
      · rw [if_neg hn255] at hdig
        rw [hdig] at H
        rw [if_neg (by omega)] at hP
        exact (H.err 4 rfl).isNil (err3 hP)
    · rw [if_neg (by omega)] at hP
      exact ite_true (by rw [decide_eq_false (show ¬ ((xr.n : Nat) : Int) = 32 by omega)]; rfl) (by rw [decide_eq_false (show ¬ ((xr.n : Nat) : Int) = 32 by omega)]; exact err3 hP)
  · rw [if_neg h0] at hP
    rw [hP, if_neg h0] at hR
    rw [hP, hR]
    have H := (Mine.start w).gotE m1 he
    refine ⟨rfl, H.nw fun p w2 H _ => H.sT_sign_secret 1 rfl rfl fun w3 H => (H.err 0 rfl).isNil (ite_true (by rw [decide_eq_false h0]; rfl) (Gave2.no (H.isErr 0 rfl) H.mod))⟩
end Go.Proofs.YtdnhoebcomffoaaGreatDoor
end
section
set_option linter.unusedVariables false
set_option linter.unusedSimpArgs false
/- NUMBERS IN BITS, packed: the document's; read again what was packed. -/
namespace Go.Proofs.YtdnhoebcomffoaaGreatDoor
open Go Go.Ev
set_option maxRecDepth 20000
set_option linter.unusedVariables false
/-- what was packed is read again -/
theorem ptk_pnum (d : Nat) (xs : List Int) (h : Dig d xs) (i : Nat) (hi : i < xs.length) : ((ptk (pnum d xs) d i : Nat) : Int) = xs.getD i 0 := by
  induction xs generalizing i with
  | nil => simp at hi
  | cons x r ih =>
    have hr : Dig d r := ⟨fun y hy => h.pos y (by simp [hy]), fun y hy => h.lt y (by simp [hy])⟩
    have h1 := h.pos x (by simp)
    have h2 := h.lt x (by simp)
    unfold ptk
    cases i with
    | zero =>
      simp only [pnum, Nat.mul_zero, Nat.pow_zero, Nat.div_one, List.getD_cons_zero]
      rw [Nat.add_mul_mod_self_left, Nat.mod_eq_of_lt (by omega)]
      omega
    | succ i =>
      have h3 := ih hr i (by simpa using hi)
      unfold ptk at h3
      simp only [pnum, List.getD_cons_succ]
      rw [← h3, Nat.mul_add, Nat.mul_one, Nat.add_comm (d * i) d, Nat.pow_add, ← Nat.div_div_eq_div_mul, Nat.add_mul_div_left _ _ (Nat.pow_pos (by omega)), Nat.div_eq_of_lt (show x.toNat < 2 ^ d by omega), Nat.zero_add]
theorem num_nums8 (n N : Nat) (h : N < 2 ^ (8 * n)) : num (nums8 n N) = N := by
  induction n generalizing N with
  | zero => simp at h; subst h; rfl
  | succ n ih =>
    have e : nums8 (n + 1) N = BitVec.ofNat 8 N :: nums8 n (N / 256) := by
      unfold nums8
      rw [List.range_succ_eq_map, List.map_cons, List.map_map]
      congr 1
      · simp
      · refine List.map_congr_left fun j _ => ?_
        simp only [Function.comp_apply]
        rw [Nat.div_div_eq_div_mul, show 256 = 2 ^ 8 from rfl, ← Nat.pow_add, show 8 + 8 * j = 8 * (j.succ) by omega]
    rw [e]
    have hq : N / 256 < 2 ^ (8 * n) := by
      refine Nat.div_lt_of_lt_mul ?_
      rw [show 256 = 2 ^ 8 from rfl, ← Nat.pow_add, show 8 + 8 * n = 8 * (n + 1) by omega]; exact h
    simp only [num, ih _ hq, BitVec.toNat_ofNat]
    omega
theorem unpack_pack (d m : Nat) (hd : 0 < d) (xs : List Int) (h : Dig d xs) (hm : d * xs.length = 8 * m) : unpack d (packL d xs) = xs := by
  have hl := length_packL d xs
  have hlt := h.pnum_lt
  have e : (d * xs.length + 7) / 8 = m := by omega
  have hpk : packL d xs = nums8 m (pnum d xs) := by unfold packL; rw [e]
  rw [hpk]
  unfold unpack
  rw [length_nums8, ← hm, Nat.mul_div_cancel_left _ hd, num_nums8 m _ (by rw [← hm]; exact hlt)]
  refine List.ext_getElem (by simp) fun i h1 h2 => ?_
  have := ptk_pnum d xs h i h2
  rw [List.getD_eq_getElem?_getD, List.getElem?_eq_getElem h2] at this
  simpa using this
end Go.Proofs.YtdnhoebcomffoaaGreatDoor
end
section
set_option linter.unusedVariables false
set_option linter.unusedSimpArgs false
namespace Go.Ev
open Go
theorem wpIn_of_wp {P : Program} {o : Oper} (hd : ∀ c, o.op ≠ .defer c) {l n : Nat} {a : Act} {w : World} {next : Act → World → Prop} {Q : Exit → Act → World → Prop} (h : o.wp P a w next Q) : o.wpIn (Fence.wide.inRound l) n P a w next Q := by
  refine ⟨fun f _ => trivial, ?_⟩
  rw [Oper.semAt_eq _ _ _ hd]
  unfold Oper.wp at h
  revert h
  generalize (execOp a.eval o).run P w = r
  intro h
  match r, h with
  | .ok (.value v) w', h => exact h
  | .ok .skip w', h => exact h
  | .ok (.defer d) w', h => exact h
  | .ok (.enter f args) w', h => exact ⟨fun h => absurd h (by simp [Fence.inRound, Fence.wide]), (callsIn_wide.2 h : CallsIn Fence.wide _ _ _ _ _ _)⟩
  | .ok (.row row args) w', h => exact ⟨fun h => absurd h (by simp [Fence.inRound, Fence.wide]), fun c cs _ => let ⟨v, w2, hr, hs⟩ := h c cs; ⟨v, w2, hr, by rw [fenced_inRound]; exact stepsIn_wide.2 hs⟩⟩
  | .halt (.panic v) w', h => exact h
theorem opsIn_of {P : Program} {ops : Array Oper} (hd : ∀ (i : Nat) o, ops[i]? = some o → ∀ c, o.op ≠ .defer c) {Q : Exit → Act → World → Prop} (hno : ¬ LetsOut Q) {l n : Nat} : ∀ (idx : List Nat) (a : Act) (w : World), wpOps P ops Q idx a w → wpOpsIn (Fence.wide.inRound l) n P ops Q idx a w
  | [], a, w, h => h
  | i :: rest, a, w, h => by
    unfold wpOps at h
    unfold wpOpsIn
    cases ho : ops[i]? with
    | none =>
      rw [ho] at h
      exact opsIn_of hd hno rest a w h
    | some o =>
      rw [ho] at h
      simp only at h ⊢
      split
      · rename_i hw
        rw [if_pos hw] at h
        rcases h with h | h
        · exact wpIn_of_wp (hd i o ho) (Oper.wp_mono (fun a w h => opsIn_of hd hno rest a w h) h)
        · exact absurd h.2 hno
      · rename_i hw
        rw [if_neg hw] at h
        exact ⟨fun f _ => trivial, opsIn_of hd hno rest _ w h⟩
end Go.Ev
end
section
set_option linter.unusedVariables false
set_option linter.unusedSimpArgs false
/- THE EVALUATOR IN A ROUND OF A LOOP OVER A FUNCTION: regions. -/
namespace Go.Ev
open Go
variable {P : Program} {n : Nat} {ws : List Nat} {f0 : Fr} {ops : Array Oper}
theorem evR_in [Dfr] (hP : Good P) (hnd : ∀ (i : Nat) o, ops[i]? = some o → ∀ c, o.op ≠ .defer c) {m : Mode} {draw : Bool} {id l k : Nat} {fr : Fr} {a : Act} {w : World} {K : Fr → World → Prop} {Q : Exit → Act → World → Prop} (hQ : ∀ fr a w, Kn n ws f0 ⟨fr, [], []⟩ a → K fr w → Q .normal a w)
    (hd : ∀ o ∈ ops.toList, ∀ d, o.dst = some d → d < n ∧ d ∈ ws) (hk : Kn n ws f0 ⟨fr, [], []⟩ a) (h : evR P m ops draw fr w K) : (Code.region id ops draw).wpIn (Fence.wide.inRound l) k P Q a w := by
  have hno : ¬ LetsOut (Q0 fun a w => Q .normal a w) := fun ⟨a, w, h⟩ => h.elim
  unfold evR at h
  cases draw with
  | false =>
    have h1 : wpList P ops (Q0 fun a w => Q .normal a w) ops.toList a w := evL_ok (Q := Q0 fun a w => Q .normal a w) hP hd (fun fr a w h1 h2 => hQ fr a w h1 h2) _ _ a w hd hk h
    have h2 : (Code.region id ops false).wpIn (Fence.wide.inRound l) k P (Q0 fun a w => Q .normal a w) a w := wpIn_region (opsIn_of hnd hno _ _ _ (by rw [List.range_eq_range', ← Array.length_toList, wpOps_eq_wpList ops.toList 0 (by simp)]; exact h1))
    exact wpIn_mono h2 fun e a w hq => by cases e <;> first | exact hq | exact hq.elim
  | true =>
    obtain ⟨hc, h⟩ := cond_ok h
    simp only [Bool.and_eq_true] at hc
    have hl : Lst ops [] (Array.replicate ops.size false) := ⟨by simp, fun j hj => (by simp [hj]), fun j hj => (by cases hj), fun j o _ hm => (by cases hm)⟩
    have h1 := evD_ok hP (Q := fun a w => Q .normal a w) (fun fr a w h1 h2 => hQ fr a w h1 h2) hc.1 hc.2 hd _ [] [] _ a w.drew _ hl hk h
    have h2 : (Code.region id ops true).wpIn (Fence.wide.inRound l) k P (Q0 fun a w => Q .normal a w) a w := wpIn_region_draw fun t => opsIn_of hnd hno _ _ _ (by
      have := anyC_any h1
      rw [Array.length_toList] at this
      simp only [Region.schedule, hP.mixed, Bool.true_or, if_true]
      exact wpAny_sound ops.size t _ a _ this)
    exact wpIn_mono h2 fun e a w hq => by cases e <;> first | exact hq | exact hq.elim
end Go.Ev
end
section
set_option linter.unusedVariables false
set_option linter.unusedSimpArgs false
/- THE EVALUATOR IN A ROUND OF A LOOP OVER A FUNCTION: code. -/
set_option linter.unusedVariables false
namespace Go.Ev
open Go
variable {P : Program} {n : Nat} {m : Mode} {J L : Ann}
/-- may not lay a deferred call -/
def noDefR : List Oper → Bool
  | [] => true
  | o :: r => match o.op with | .defer _ => false | _ => noDefR r
theorem noDefR_ok : ∀ {l : List Oper}, noDefR l = true → ∀ o ∈ l, ∀ c, o.op ≠ .defer c
  | [], _, o, h, _, _ => by cases h
  | x :: r, h, o, ho, c, hc => by
    simp only [noDefR] at h
    rcases List.mem_cons.1 ho with rfl | h1
    · rw [hc] at h; cases h
    · split at h
      · cases h
      · exact noDefR_ok h o h1 c hc
def noDef : Code → Bool
  | .skip | .exit _ | .ret | .label _ => true
  | .region _ ops _ => noDefR ops.toList
  | .seq a b => noDef a && noDef b
  | .cond _ a b => noDef a && noDef b
  | .block _ a => noDef a
  | .loop a => noDef a
  | _ => false
/-- round a loop, in a round of a loop over a function -/
def AgainIn (l i : Nat) (P : Program) (c : Code) (Q : Exit → Act → World → Prop) (a : Act) (w : World) : Prop :=
  ∀ (b : Frame) (k : List Item) (cs : List Frame), b.roundOf = (Fence.wide.inRound l).round → (Fence.wide.inRound l).fn b.fn → (Fence.wide.inRound l).room (cs.length + 1 + i) → ∃ e a' w', Q e a' w' ∧ ArrivesIn (Machine.fenced P (Fence.wide.inRound l)) P (lone (b.atR a (.code c :: .inLoop c :: k)) cs w) b k cs e a' w'
theorem againIn_of {l i : Nat} {c : Code} {Q : Exit → Act → World → Prop} {a : Act} {w : World} (h : c.wpIn (Fence.wide.inRound l) i P (Exit.then (AgainIn l i P c Q) Q) a w) : AgainIn l i P c Q a w := by
  intro b k cs hro hb hr
  obtain ⟨e, a₁, w₁, hq, harr⟩ := h b (.inLoop c :: k) cs hro hb hr
  cases e with
  | normal =>
    obtain ⟨e₂, a₂, w₂, hq₂, harr₂⟩ := hq b k cs hro hb hr
    exact ⟨e₂, a₂, w₂, hq₂, .of_steps (StepsIn.trans harr (.one (fenced_calm hb hr rfl) stepR_inLoop)) harr₂⟩
  | exit id => exact ⟨_, a₁, w₁, hq, .pass (x := .inLoop c) rfl (fun _ _ => .inl (by simp)) harr⟩
  | goto l => exact ⟨_, a₁, w₁, hq, .pass (x := .inLoop c) rfl (fun _ _ => .inl (by simp)) harr⟩
  | ret => exact ⟨_, a₁, w₁, hq, .pass (x := .inLoop c) rfl (fun _ _ => .inl (by simp)) harr⟩
  | panic ch => exact ⟨_, a₁, w₁, hq, .pass (x := .inLoop c) rfl (fun _ _ => .inl (by simp)) harr⟩
  | outgrown => exact ⟨_, a₁, w₁, hq, .pass (x := .inLoop c) rfl (fun _ _ => .inl (by simp)) harr⟩
theorem loopIn_of {l i : Nat} {c : Code} {Q : Exit → Act → World → Prop} {a : Act} {w : World} (h : AgainIn l i P c Q a w) : (Code.loop c).wpIn (Fence.wide.inRound l) i P Q a w := by
  intro b k cs hro hb hr
  obtain ⟨e, a', w', hq, harr⟩ := h b k cs hro hb hr
  exact ⟨e, a', w', hq, .of_steps (.one (fenced_calm hb hr rfl) stepR_loop) harr⟩
theorem evC_in [Dfr] (hP : Good P) {l i : Nat} : ∀ (c : Code), noDef c = true → (∀ d ∈ writes c, d < n) → ∀ {fr : Fr} {a : Act} {w : World} {Q' : Cont} {Q : Exit → Act → World → Prop}, KF n fr a →
    (∀ e fr' a' w', KF n fr' a' → Same (writes c) fr fr' → Q' e fr' w' → Q e a' w') → evC P m J L c fr w Q' → c.wpIn (Fence.wide.inRound l) i P Q a w
  | .skip, _, _, fr, a, w, Q', Q, hk, hq, h => wpIn_skip (hq _ _ _ _ hk (fun _ _ => rfl) h)
  | .exit id, _, _, fr, a, w, Q', Q, hk, hq, h => wpIn_exit (hq _ _ _ _ hk (fun _ _ => rfl) h)
  | .ret, _, _, fr, a, w, Q', Q, hk, hq, h => wpIn_ret (hq _ _ _ _ hk (fun _ _ => rfl) h)
  | .region id ops draw, hn, hw, fr, a, w, Q', Q, hk, hq, h => by
    refine evR_in (n := n) (ws := dsts ops.toList) (f0 := fr) (m := m) hP (fun j o ho c hc => noDefR_ok hn o (Array.mem_toList_iff.2 (Array.mem_of_getElem? ho)) c hc) (K := fun fr' w' => Q' .normal fr' w') (fun fr' a' w' h1 h2 => hq .normal fr' a' w' h1.kf (fun t ht => h1.pres t ht) h2) (fun o ho d hd => ?_) (hk.kn _) h
    have : d ∈ dsts ops.toList := mem_dsts.2 ⟨o, ho, hd⟩
    exact ⟨hw d this, this⟩
  | .cond c x y, hn, hw, fr, a, w, Q', Q, hk, hq, h => by
    simp only [noDef, Bool.and_eq_true] at hn
    simp only [evC] at h
    split at h
    · rename_i t ht
      have hc := (hk.kn []).val (Sat.nil a) ht
      have hx : ∀ d ∈ writes x, d < n := fun d hd => hw d (List.mem_append_left _ hd)
      have hy : ∀ d ∈ writes y, d < n := fun d hd => hw d (List.mem_append_right _ hd)
      refine wpIn_cond hc ?_
      cases t with
      | true =>
        exact evC_in hP x hn.1 hx hk (fun e fr' a' w' h1 h2 h3 => hq e fr' a' w' h1 (fun t ht => h2 t (fun hm => ht (List.mem_append_left _ hm))) h3) h
      | false =>
        exact evC_in hP y hn.2 hy hk (fun e fr' a' w' h1 h2 h3 => hq e fr' a' w' h1 (fun t ht => h2 t (fun hm => ht (List.mem_append_right _ hm))) h3) h
    · exact h.elim
  | .block id c, hn, hw, fr, a, w, Q', Q, hk, hq, h => by
    refine wpIn_block (evC_in hP c hn hw hk (fun e fr' a' w' h1 h2 h3 => ?_) h)
    cases e with
    | exit i =>
      simp only [inBlockC] at h3
      simp only [Exit.inBlock]
      cases hb : Nat.beq i id with
      | true => rw [hb] at h3; rw [if_pos (beq_eq.1 hb)]; exact hq _ _ _ _ h1 h2 h3
      | false => rw [hb] at h3; rw [if_neg (beq_ne.1 hb)]; exact hq _ _ _ _ h1 h2 h3
    | _ => exact hq _ _ _ _ h1 h2 h3
  | .seq x y, hn, hw, fr, a, w, Q', Q, hk, hq, h => by
    simp only [noDef, Bool.and_eq_true] at hn
    have hx : ∀ d ∈ writes x, d < n := fun d hd => hw d (List.mem_append_left _ hd)
    have hy : ∀ d ∈ writes y, d < n := fun d hd => hw d (List.mem_append_right _ hd)
    simp only [evC] at h
    refine wpIn_seq ?_
    split at h
    · refine evC_in hP x hn.1 hx hk (fun e fr' a' w' h1 h2 h3 => ?_) h
      have off : ∀ e, Q' e fr' w' → Q e a' w' := fun e h4 => hq e fr' a' w' h1 (fun t ht => h2 t (fun hm => ht (List.mem_append_left _ hm))) h4
      cases e with
      | normal =>
        exact evC_in hP y hn.2 hy h1 (fun e fr2 a2 w2 h4 h5 h6 => hq e fr2 a2 w2 h4 (fun t ht =>
          (h5 t (fun hm => ht (List.mem_append_right _ hm))).trans (h2 t (fun hm => ht (List.mem_append_left _ hm)))) h6) h3
      | _ => exact off _ h3
    · rename_i ls hls
      obtain ⟨hin, h⟩ := cond_ok h
      have hin := allIn_iff hin
      have h' := h (fun fr1 w' => ∀ a', KF n (fr1 ++ strip (writes x) fr) a' → y.wpIn (Fence.wide.inRound l) i P Q a' w') (allFr_intro fun fr1 hf w' hy' a' hk' =>
        evC_in hP y hn.2 hy hk' (fun e fr2 a2 w2 h4 h5 h6 => hq e fr2 a2 w2 h4 (fun t ht =>
          (h5 t (fun hm => ht (List.mem_append_right _ hm))).trans (look_meet hf hin (fun hm => ht (List.mem_append_left _ hm)))) h6) hy')
      refine evC_in hP x hn.1 hx hk (fun e fr' a' w' h1 h2 h3 => ?_) h'
      have off : ∀ e, Q' e fr' w' → Q e a' w' := fun e h4 => hq e fr' a' w' h1 (fun t ht => h2 t (fun hm => ht (List.mem_append_left _ hm))) h4
      cases e with
      | normal => exact h3 a' (kf_meet h1 h2)
      | _ => exact off _ h3
  | .loop c, hn, hw, fr, a, w, Q', Q, hk, hq, h => by
    simp only [evC] at h
    split at h
    · exact h.elim
    · rename_i ls hls
      obtain ⟨hin, h⟩ := cond_ok h
      have hin := allIn_iff hin
      have h' := h (fun fr1 w' => ∀ a', KF n (fr1 ++ strip (writes c) fr) a' → AgainIn l i P c Q a' w') (allFr_intro fun fr1 hf w' hc' a' hk' => againIn_of (
        evC_in hP c hn hw hk' (fun e fr2 a2 w2 h4 h5 h6 => by
          have same : ∀ t, t ∉ writes c → look t fr2 = look t fr := fun t ht => (h5 t ht).trans (look_meet hf hin ht)
          have off : ∀ e, Q' e fr2 w2 → Q e a2 w2 := fun e h7 => hq e fr2 a2 w2 h4 same h7
          cases e with
          | normal => exact h6 a2 (kf_meet h4 same)
          | _ => exact off _ h6) hc'))
      exact loopIn_of (h' a (kf_meet hk (fun _ _ => rfl)))
  | .rangeFunc .., _, _, _, _, _, _, _, _, _, h => (by simp only [evC] at h)
  | .scope c, hn, _, _, _, _, _, _, _, _, _ => (by cases hn)
  | .label l, _, hw, fr, a, w, Q', Q, hk, hq, h => by
    simp only [evC] at h
    exact wpIn_label (hq _ _ _ _ hk (fun _ _ => rfl) h)
  | .goto _, _, _, _, _, _, _, _, _, _, h => (by simp only [evC] at h)
  | .refuse _, _, _, _, _, _, _, _, _, _, h => (by simp only [evC] at h)
#print axioms evC_in
end Go.Ev
end
section
set_option linter.unusedVariables false
set_option linter.unusedSimpArgs false
/- THE EVALUATOR OVER A FUNCTION WITH A LOOP OVER A FUNCTION ('for x := range seq'): words, and that they are sound. Nothing of a program stands here. -/
set_option linter.unusedVariables false
namespace Go.Ev
open Go Go.RowKit
theorem grown_put (W : World) (l : Nat) (o : Obj) : W.grownBy (W.putObj l o) (some l) :=
  ⟨rfl, rfl, rfl, by simp, fun k _ hk => World.putObj_heap_other (fun e => hk (by rw [e]))⟩

/-! ### words -/
/-- what an iterator promises: gf at yield and what it has caught; Kp: what a round must keep; T: what it turns itself -/
def SeqK (P : Program) {A : Type} (gf : Nat) (lb : List Value) (enc : A → Value) (Kp : World → World → Prop) (T : World → Nat → Prop) (S Sp : List A → Prop) (N : Nat) (w : World) : Prop :=
  ∀ (l : Nat) (J Jx : List A → World → Prop),
    (∀ s W W' row, J s W → W.grownBy W' row → (∀ r, row = some r → T W r) → J s W') →
    (∀ s W W' row, Jx s W → W.grownBy W' row → (∀ r, row = some r → T W r) → Jx s W') →
    (∀ pre x W, J pre W → pre.length < N → YieldAt Fence.wide 0 P l #[enc x] W fun e W' =>
      (e = .returned (.bool true) ∧ J (pre ++ [x]) W' ∧ Kp W W') ∨ (e = .returned (.bool false) ∧ Jx (pre ++ [x]) W')) →
    J [] w → CallsIn Fence.wide 1 P gf (#[.func (.yield l) #[] #[]] ++ ⟨lb⟩) w fun e W' => (∃ v, e = .returned v) ∧ ((∃ xs, S xs ∧ J xs W') ∨ (∃ pre, Sp pre ∧ Jx pre W'))
/-- a loop over a function; D: the block of its rounds' deferred calls, D + 1: its record -/
def rangeK (P : Program) (g : Value) (w : World) (round : Value → World → (World → Prop) → (World → Prop) → Prop) (done stop : World → Prop) : Prop :=
  ∃ gf lb, g = .func (.func gf) #[] ⟨lb⟩ ∧ bodied P gf = true ∧ ∀ (w1 : World) (rec : Obj), w1 = (w.alloc (.deferred (some []))).alloc rec →
    ∃ (A : Type) (enc : A → Value) (Kp : World → World → Prop) (T : World → Nat → Prop) (S Sp : List A → Prop) (N : Nat) (I Ir : List A → World → Prop),
      SeqK P gf lb enc Kp T S Sp N w1 ∧ I [] w1 ∧
      (∀ W r, T W r → r ≠ w.heap.size ∧ r ≠ w.heap.size + 1) ∧
      (∀ W W' o o', Kp (W.putObj (w.heap.size + 1) o) W' → Kp W (W'.putObj (w.heap.size + 1) o')) ∧
      (∀ pre W W' row, I pre W → W.grownBy W' row → (∀ r, row = some r → r = w.heap.size + 1 ∨ T W r) → I pre W') ∧
      (∀ pre W W' row, Ir pre W → W.grownBy W' row → (∀ r, row = some r → r = w.heap.size + 1 ∨ T W r) → Ir pre W') ∧
      (∀ pre x W, I pre W → pre.length < N → round (enc x) W
        (fun W' => W'.heap[w.heap.size]? = W.heap[w.heap.size]? ∧ W'.heap[w.heap.size + 1]? = W.heap[w.heap.size + 1]? ∧ Kp W W' ∧ I (pre ++ [x]) W')
        (fun W' => W'.heap[w.heap.size]? = W.heap[w.heap.size]? ∧ W'.heap[w.heap.size + 1]? = W.heap[w.heap.size + 1]? ∧ Ir (pre ++ [x]) W')) ∧
      (∀ xs W, S xs → I xs W → W.heap[w.heap.size]? = some (.deferred (some [])) → done W) ∧
      (∀ pre W, Sp pre → Ir pre W → W.heap[w.heap.size]? = some (.deferred (some [])) → stop W)
/-- the block of the rounds' deferred calls is shut -/
def retD (D : Nat) (w : World) (K : World → Prop) : Prop := w.heap[D]? = some (.deferred (some [])) ∧ K (w.putObj D (.deferred none))

/-! ### code -/
abbrev ContX := Exit → Fr → List Nat → World → Prop
def hasRange : Code → Bool
  | .rangeFunc .. => true
  | .seq a b | .cond _ a b => hasRange a || hasRange b
  | .block _ a | .loop a | .scope a => hasRange a
  | _ => false
/-- what an element is, if its kind is written down -/
def elemOf (p : Nat) (L : Ann) : Sh := match annOf (some (1000000 + p)) L with | some [(_, sh)] => sh | _ => .val
/-- an assignment of one slot to another -/
def asgOf : Code → Option (Nat × Nat)
  | .region _ ops false => (match ops.toList with
    | [o] => (match o.op, o.dst, o.guard with | .assign (.tmp t), some d, none => some (d, t) | _, _, _ => none)
    | _ => none)
  | _ => none
def writesX : Code → List Nat
  | .rangeFunc _ ps a b => ps.toList ++ (writes a ++ writes b)
  | .seq a b | .cond _ a b => writesX a ++ writesX b
  | .block _ a | .loop a | .scope a => writesX a
  | .region _ ops _ => dsts ops.toList
  | _ => []
def evX (P : Program) (m : Mode) (J L : Ann) : Code → Fr → List Nat → World → ContX → Prop
  | .seq a b, fr, ds, w, Q => cond (hasRange a)
      (match annOf (keyOf b) J with
       | none => evX P m J L a fr ds w fun e fr' ds' w' => match e with | .normal => evX P m J L b fr' ds' w' Q | e => Q e fr' ds' w'
       | some _ => False)
      (cond (hasRange b)
        (match annOf (keyOf b) J with
         | none => evC P m J L a fr w fun e fr' w' => match e with | .normal => evX P m J L b fr' ds w' Q | e => Q e fr' ds w'
         | some ls => cond (allIn ls (writes a)) (∀ K : Fr → World → Prop, (allFr ls fun fr' => ∀ w', evX P m J L b (fr' ++ strip (writes a) fr) ds w' Q → K fr' w') → evC P m J L a fr w fun e fr' w' => match e with | .normal => K (carry fr' ls) w' | e => Q e fr' ds w') False)
        (evC P m J L (.seq a b) fr w fun e fr' w' => Q e fr' ds w'))
  | .block id a, fr, ds, w, Q => cond (hasRange a)
      (evX P m J L a fr ds w fun e fr' ds' w' => match e with | .exit i => cond (Nat.beq i id) (Q .normal fr' ds' w') (Q (.exit i) fr' ds' w') | e => Q e fr' ds' w')
      (evC P m J L (.block id a) fr w fun e fr' w' => Q e fr' ds w')
  | .rangeFunc g ps assign body, fr, ds, w, Q => (match ds, ps.toList, (⟨fr, [], []⟩ : St).val [] g, asgOf assign with
    | [], [p], some gv, some (d, t) => cond (Nat.beq t p && noDef body)
        (rangeK P gv w (fun v W K Kr => asLeaf (elemOf p L) v fun x => evC P m J L body ((d, some x) :: (p, some x) :: fr) W fun e _ W' => match e with | .normal => K W' | .ret => Kr W' | _ => False)
          (fun W => Q .normal fr [w.heap.size] W) (fun W => Q .ret fr [w.heap.size] W)) False
    | _, _, _, _ => False)
  | c, fr, ds, w, Q => cond (hasRange c) False (evC P m J L c fr w fun e fr' w' => Q e fr' ds w')
def bodyX (P : Program) (fn : Func) (R : Value → World → Prop) : ContX := fun e fr ds w => match e with
  | .normal | .ret => (match ds with
    | [] => resAll P fr w fn.results.toList (resOne R w)
    | [D] => retD D w fun w' => resAll P fr w' fn.results.toList (resOne R w')
    | _ => False)
  | _ => False
@[irreducible] def evXF (P : Program) (m : Mode) (J L : Ann) (fn : Func) (args : List Value) (w : World) (R : Value → World → Prop) : Prop :=
  match fn.body with
  | some c => cond (allLt fn.ntmps (writesX c)) (evX P m J L c (frOf 0 args) [] w (bodyX P fn R)) False
  | none => False

/-! ### soundness -/
variable {P : Program} {n : Nat} {m : Mode} {J L : Ann}
abbrev dfr (ds : List Nat) : Dfr := ⟨ds.map fun D => { target := .collected D, args := #[] }⟩
abbrev KX (n : Nat) (ds : List Nat) (fr : Fr) (a : Act) : Prop := @KF (dfr ds) n fr a
theorem writes_of_X : ∀ {c : Code}, ∀ d ∈ writes c, d ∈ writesX c
  | .region _ _ _, d, h => h
  | .seq a b, d, h => by
    rcases List.mem_append.1 h with h | h
    · exact List.mem_append_left _ (writes_of_X d h)
    · exact List.mem_append_right _ (writes_of_X d h)
  | .cond _ a b, d, h => by
    rcases List.mem_append.1 h with h | h
    · exact List.mem_append_left _ (writes_of_X d h)
    · exact List.mem_append_right _ (writes_of_X d h)
  | .block _ a, d, h => writes_of_X (c := a) d h
  | .loop a, d, h => writes_of_X (c := a) d h
  | .scope a, d, h => writes_of_X (c := a) d h
  | .rangeFunc .., d, h => by cases h
  | .skip, d, h => by cases h
  | .exit _, d, h => by cases h
  | .label _, d, h => by cases h
  | .goto _, d, h => by cases h
  | .ret, d, h => by cases h
  | .refuse _, d, h => by cases h
theorem evC_wide (hP : Good P) {c : Code} (hw : ∀ d ∈ writesX c, d < n) {ds : List Nat} {fr : Fr} {a : Act} {w : World} {Q' : Cont} {Q : Exit → Act → World → Prop} {i : Nat} (hk : KX n ds fr a)
    (hq : ∀ e fr' a' w', KX n ds fr' a' → Same (writes c) fr fr' → Q' e fr' w' → Q e a' w') (h : evC P m J L c fr w Q') : c.wpIn Fence.wide i P Q a w :=
  wpIn_wide.2 (@evC_ok P n m J L (dfr ds) hP c (fun d hd => hw d (writes_of_X d hd)) fr a w Q' Q hk hq h)
theorem asgOf_ok {c : Code} {d t : Nat} (h : asgOf c = some (d, t)) : ∃ id o, c = .region id #[o] false ∧ o.op = .assign (.tmp t) ∧ o.dst = some d ∧ o.guard = none := by
  unfold asgOf at h
  split at h
  · rename_i id ops
    split at h
    · rename_i o ho
      split at h
      · rename_i h1 h2 h3
        simp only [Option.some.injEq, Prod.mk.injEq] at h
        obtain ⟨rfl, rfl⟩ := h
        refine ⟨id, o, ?_, h1, h2, h3⟩
        congr 1
        exact Array.toList_inj.1 (by simpa using ho)
      · cases h
    · cases h
  · cases h
theorem asg_in (hP : Good P) {id d t l i : Nat} {o : Oper} (h1 : o.op = .assign (.tmp t)) (h2 : o.dst = some d) (h3 : o.guard = none) (hd : d < n) {fr : Fr} {a : Act} {x : Value} (hk : KX n [] ((t, some x) :: fr) a) {W : World} {K : Act → World → Prop}
    (hK : ∀ a', KX n [] ((d, some x) :: (t, some x) :: fr) a' → K a' W) : (Code.region id #[o] false).wpIn (Fence.wide.inRound l) i P (Exit.then K fun _ _ _ => False) a W := by
  refine @evR_in P n [d] ((t, some x) :: fr) #[o] (dfr []) hP (fun j o' ho c hc => ?_) ⟨true, true⟩ false id l i ((t, some x) :: fr) a W (fun fr' w' => fr' = (d, some x) :: (t, some x) :: fr ∧ w' = W) _ (fun fr' a' w' hk' h => ?_) (fun o' ho d' hd' => ?_) (@KF.kn n (dfr []) _ a hk [d]) ?_
  · have : o' = o := by
      match j, ho with
      | 0, ho => simpa using ho.symm
      | j + 1, ho => simp at ho
    subst this; rw [h1] at hc; cases hc
  · obtain ⟨rfl, rfl⟩ := h
    exact hK a' (@Kn.kf n (dfr []) _ _ _ a' hk')
  · have : o' = o := by simpa using ho
    subst this
    rw [h2] at hd'; cases hd'
    exact ⟨hd, by simp⟩
  · simp only [evR, cond_false, evL, stepEv, h3, runEv, h1, h2, St.put, St.val, lookC, look, Nat.beq_refl, cond_true, tomb, and_self]
theorem asLeaf_self {sh : Sh} {v : Value} {K : Value → Prop} (h : asLeaf sh v K) : K v := by
  cases sh <;> first | exact h | (obtain ⟨_, rfl, h⟩ := h; exact h)
theorem foldl_one (ps : Array Tmp) (p : Nat) (hp : ps.toList = [p]) (x : Value) (t0 : Array Value) : (ps.zip #[x]).foldl (fun tmps (t, v) => tmps.setIfInBounds t v) t0 = t0.setIfInBounds p x := by
  obtain rfl : ps = #[p] := Array.toList_inj.1 (by simpa using hp)
  simp
theorem KX.round {fr : Fr} {a : Act} (hk : KX n [] fr a) {p : Nat} (hp : p < n) (x : Value) : KX n [] ((p, some x) :: fr) { tmps := a.tmps.setIfInBounds p x, defers := [] } := by
  refine @KF.mk (dfr []) n _ _ (by simp [hk.size]) rfl fun t v hl => ?_
  simp only [look] at hl
  cases hb : Nat.beq p t with
  | true =>
    rw [hb] at hl
    cases hl
    have e := beq_eq.1 hb
    subst e
    show Array.getD (a.tmps.setIfInBounds p x) p undef = x
    simp [Array.getD_eq_getD_getElem?, hk.size, hp]
  | false =>
    rw [hb] at hl
    have := hk.fr t v hl
    show Array.getD (a.tmps.setIfInBounds p x) t undef = v
    have hne := beq_ne.1 hb
    rw [Array.getD_eq_getD_getElem?, Array.getElem?_setIfInBounds_ne hne, ← Array.getD_eq_getD_getElem?]
    exact this
/-- the statement 'for x := range g' -/
theorem range_ok (hP : Good P) {g : Operand} {ps : Array Tmp} {assign body : Code} {p d : Nat} {gv : Value} (hps : ps.toList = [p]) (hasg : asgOf assign = some (d, p)) (hnd : noDef body = true)
    (hw : ∀ x ∈ writesX (.rangeFunc g ps assign body), x < n) {fr : Fr} {a : Act} {w : World} (hk : KX n [] fr a) (hg : a.eval g = gv) {done stop : World → Prop} {Q : Exit → Act → World → Prop}
    (h : rangeK P gv w (fun v W K Kr => asLeaf (elemOf p L) v fun x => evC P m J L body ((d, some x) :: (p, some x) :: fr) W fun e _ W' => match e with | .normal => K W' | .ret => Kr W' | _ => False) done stop)
    (hdone : ∀ a' W, KX n [w.heap.size] fr a' → done W → Q .normal a' W) (hstop : ∀ a' W, KX n [w.heap.size] fr a' → stop W → Q .ret a' W) :
    (Code.rangeFunc g ps assign body).wpIn Fence.wide 2 P Q a w := by
  refine wpIn_rangeFunc fun fn _ => ?_
  obtain ⟨gf, lb, rfl, hbod, h⟩ := h
  obtain ⟨rec, hrec⟩ : ∃ rec : LoopState → Option Code → Loop, rec = fun st pe => { state := st, pending := pe, fn, tmps := a.tmps, params := ps, assign, body, defers := w.heap.size } := ⟨_, rfl⟩
  obtain ⟨w1, hw1⟩ : ∃ w1, w1 = (w.alloc (.deferred (some []))).alloc (.loop (rec .ready none)) := ⟨_, rfl⟩
  obtain ⟨A, enc, Kp, T, S, Sp, N, I, Ir, hseq, h0, hT, hKp, hI, hIr, hround, hd, hs⟩ := h w1 (.loop (rec .ready none)) hw1
  have hL1 : w1.heap[w.heap.size + 1]? = some (.loop (rec .ready none)) := by
    rw [hw1]; have := World.alloc_heap_new (w.alloc (.deferred (some []))) (.loop (rec .ready none)); rwa [World.size_alloc] at this
  have hD1 : w1.heap[w.heap.size]? = some (.deferred (some [])) := by
    rw [hw1]; exact (Below.heap_alloc _ _ _ (by simp)).trans (World.alloc_heap_new w _)
  have hp : p < n := hw p (List.mem_append_left _ (by rw [hps]; simp))
  obtain ⟨aid, ao, rfl, ha1, ha2, ha3⟩ := asgOf_ok hasg
  have hdn : d < n := hw d (List.mem_append_right _ (List.mem_append_left _ (mem_dsts.2 ⟨ao, by simp, ha2⟩)))
  have hwb : ∀ x ∈ writes body, x < n := fun x hx => hw x (List.mem_append_right _ (List.mem_append_right _ hx))
  refine ⟨w.heap.size + 1, [{ target := .collected w.heap.size, args := #[] }], w1, { target := .fn (.func gf) ⟨lb⟩, args := #[.func (.yield (w.heap.size + 1)) #[] #[]] }, w1, gf,
    #[.func (.yield (w.heap.size + 1)) #[] #[]] ++ ⟨lb⟩, w1, ?_, ?_, fun _ _ => trivial, ?_, fun h => by simp [Fence.wide] at h, ?_⟩
  · rw [hw1, hrec]; exact run_enterLoop_outer _ _ _ _ _
  · simp only [resolve, hg]
    simp [go_sem]
  · have := callFunc_ok hP hbod (#[.func (.yield (w.heap.size + 1)) #[] #[]] ++ (⟨lb⟩ : Array Value)) w1
    simp [invoke, go_sem]
    simpa using this
  · have stab : ∀ {I : List A → World → Prop}, (∀ pre W W' row, I pre W → W.grownBy W' row → (∀ r, row = some r → r = w.heap.size + 1 ∨ T W r) → I pre W') → ∀ pre W o, I pre W → I pre (W.putObj (w.heap.size + 1) o) :=
      fun hI pre W o h => hI pre W _ (some (w.heap.size + 1)) h (grown_put W _ o) fun r e => .inl (Option.some.inj e).symm
    have keep : ∀ {W W' : World} {row : Option Nat} {k : Nat} {o : Obj}, W.grownBy W' row → (∀ r, row = some r → T W r) → (k = w.heap.size ∨ k = w.heap.size + 1) → W.heap[k]? = some o → W'.heap[k]? = some o := fun {W W' row k o} hg hr hk ho => by
      refine (hg.block k (Array.getElem?_eq_some_iff.1 ho).1 fun e => ?_).trans ho
      have := hT W k (hr k e.symm)
      omega
    refine (hseq (w.heap.size + 1)
      (fun pre W => I pre W ∧ W.heap[w.heap.size + 1]? = some (.loop (rec .ready none)) ∧ W.heap[w.heap.size]? = some (.deferred (some [])))
      (fun pre W => Ir pre W ∧ W.heap[w.heap.size + 1]? = some (.loop (rec .done (some .ret))) ∧ W.heap[w.heap.size]? = some (.deferred (some [])))
      (fun s W W' row hs hg' hr => ⟨hI s W W' row hs.1 hg' fun r e => .inr (hr r e), keep hg' hr (.inr rfl) hs.2.1, keep hg' hr (.inl rfl) hs.2.2⟩)
      (fun s W W' row hs hg' hr => ⟨hIr s W W' row hs.1 hg' fun r e => .inr (hr r e), keep hg' hr (.inr rfl) hs.2.1, keep hg' hr (.inl rfl) hs.2.2⟩)
      ?_ ⟨h0, hL1, hD1⟩).mono ?_
    · rintro pre x W ⟨hi, hl, hD⟩ hlen
      have hlt : w.heap.size + 1 < W.heap.size := (Array.getElem?_eq_some_iff.1 hl).1
      have hps' : ps = #[p] := Array.toList_inj.1 (by simpa using hps)
      have hy := run_yield (P := P) (args := #[enc x]) hl (by rw [hrec]; simp [hps'])
      rw [hrec] at hy
      simp only [foldl_one ps p hps] at hy
      refine ⟨fn, _, _, body, hy, roundIn_of_wpIn (F := Fence.wide) trivial (asg_in hP ha1 ha2 ha3 hdn (hk.round hp (enc x)) fun a₁ hk1 => ⟨_, run_beginRound hl (by rw [hrec]), ?_⟩)⟩
      obtain ⟨Wb, hWb⟩ : ∃ Wb, Wb = W.putObj (w.heap.size + 1) (.loop { rec .ready none with state := .busy }) := ⟨_, rfl⟩
      have hl2 : Wb.heap[w.heap.size + 1]? = some (.loop { rec .ready none with state := .busy }) := by rw [hWb]; exact World.putObj_heap_same hlt
      have hD2 : Wb.heap[w.heap.size]? = some (.deferred (some [])) := by rw [hWb]; exact (World.putObj_heap_other (by omega)).trans hD
      rw [← hWb]
      have hi2 : I pre Wb := by rw [hWb]; exact stab hI pre W _ hi
      have hb := asLeaf_self (hround pre x Wb hi2 hlen)
      refine @evC_in P n m J L (dfr []) hP (w.heap.size + 1) 0 body hnd hwb _ a₁ Wb _ _ hk1 ?_ hb
      intro e fr' a' W3 _ _ hp3
      have fin : ∀ (jump : Option Code), W3.heap[w.heap.size]? = Wb.heap[w.heap.size]? → W3.heap[w.heap.size + 1]? = Wb.heap[w.heap.size + 1]? →
          (Instr.endRound (w.heap.size + 1) jump).run P W3 = .ok (.bool jump.isNone) (W3.putObj (w.heap.size + 1) (.loop (rec (if jump.isNone then .ready else .done) jump))) ∧
          (W3.putObj (w.heap.size + 1) (.loop (rec (if jump.isNone then .ready else .done) jump))).heap[w.heap.size + 1]? = some (.loop (rec (if jump.isNone then .ready else .done) jump)) ∧
          (W3.putObj (w.heap.size + 1) (.loop (rec (if jump.isNone then .ready else .done) jump))).heap[w.heap.size]? = some (.deferred (some [])) := fun jump hkD hkL => by
        have hl3 := hkL.trans hl2
        have := run_endRound (P := P) jump hl3
        rw [hrec] at this ⊢
        exact ⟨this, World.putObj_heap_same (Array.getElem?_eq_some_iff.1 hl3).1, (World.putObj_heap_other (by omega)).trans (hkD.trans hD2)⟩
      cases e with
      | normal =>
        obtain ⟨h1, h2, h3, h4⟩ := hp3
        obtain ⟨hr, hl4, hD4⟩ := fin none h1 h2
        exact ⟨_, _, hr, .inl ⟨rfl, ⟨stab hI _ _ _ h4, hl4, hD4⟩, hKp _ _ _ _ (by rw [← hWb]; exact h3)⟩⟩
      | ret =>
        obtain ⟨h1, h2, h3⟩ := hp3
        obtain ⟨hr, hl4, hD4⟩ := fin (some .ret) h1 h2
        exact ⟨_, _, hr, .inr ⟨rfl, stab hIr _ _ _ h3, hl4, hD4⟩⟩
      | exit id => exact hp3.elim
      | goto t => exact hp3.elim
      | panic ch => exact hp3.elim
      | outgrown => exact hp3.elim
    · have hk2 : ∀ (b : Bool), KX n [w.heap.size] fr { a with defers := [{ target := .collected w.heap.size, args := #[] }] ++ a.defers } := fun _ => by
        refine @KF.mk (dfr [w.heap.size]) n _ _ hk.size ?_ hk.fr
        have := hk.defers
        show [_] ++ a.defers = _
        rw [this]; rfl
      rintro e W2 ⟨⟨v, rfl⟩, (⟨xs, hS, hi, hl, hD⟩ | ⟨pre, hSp, hi, hl, hD⟩)⟩
      · refine ⟨none, _, by have := run_endLoop (P := P) hl (by rw [hrec]; simp); rw [hrec] at this; exact this, ?_⟩
        exact hdone _ _ (hk2 true) (hd xs _ hS (stab hI _ _ _ hi) ((World.putObj_heap_other (by omega)).trans hD))
      · refine ⟨some .ret, _, by have := run_endLoop (P := P) hl (by rw [hrec]; simp); rw [hrec] at this; exact this, ?_⟩
        exact wpIn_ret (hstop _ _ (hk2 true) (hs pre _ hSp (stab hIr _ _ _ hi) ((World.putObj_heap_other (by omega)).trans hD)))
theorem evX_ok (hP : Good P) : ∀ (c : Code), (∀ d ∈ writesX c, d < n) → ∀ {fr : Fr} {ds : List Nat} {a : Act} {w : World} {Q' : ContX} {Q : Exit → Act → World → Prop}, KX n ds fr a →
    (∀ e fr' ds' a' w', KX n ds' fr' a' → Same (writes c) fr fr' → Q' e fr' ds' w' → Q e a' w') → evX P m J L c fr ds w Q' → c.wpIn Fence.wide 2 P Q a w
  | .seq x y, hw, fr, ds, a, w, Q', Q, hk, hq, h => by
    have hx : ∀ d ∈ writesX x, d < n := fun d hd => hw d (List.mem_append_left _ hd)
    have hy : ∀ d ∈ writesX y, d < n := fun d hd => hw d (List.mem_append_right _ hd)
    simp only [evX] at h
    cases hrx : hasRange x with
    | true =>
      rw [hrx, cond_true] at h
      split at h
      · refine wpIn_seq (evX_ok hP x hx hk (fun e fr' ds' a' w' h1 h2 h3 => ?_) h)
        have off : ∀ e, Q' e fr' ds' w' → Q e a' w' := fun e h4 => hq e fr' ds' a' w' h1 (fun t ht => h2 t (fun hm => ht (List.mem_append_left _ hm))) h4
        cases e with
        | normal =>
          exact evX_ok hP y hy h1 (fun e fr2 ds2 a2 w2 h4 h5 h6 => hq e fr2 ds2 a2 w2 h4 (fun t ht =>
            (h5 t (fun hm => ht (List.mem_append_right _ hm))).trans (h2 t (fun hm => ht (List.mem_append_left _ hm)))) h6) h3
        | _ => exact off _ h3
      · exact h.elim
    | false =>
      rw [hrx, cond_false] at h
      cases hry : hasRange y with
      | false =>
        rw [hry, cond_false] at h
        exact evC_wide (m := m) (J := J) (L := L) hP (c := .seq x y) hw hk (fun e fr' a' w' h1 h2 h3 => hq e fr' ds a' w' h1 h2 h3) h
      | true =>
        rw [hry, cond_true] at h
        split at h
        · refine wpIn_seq (evC_wide hP hx hk (fun e fr' a' w' h1 h2 h3 => ?_) h)
          have off : ∀ e, Q' e fr' ds w' → Q e a' w' := fun e h4 => hq e fr' ds a' w' h1 (fun t ht => h2 t (fun hm => ht (List.mem_append_left _ hm))) h4
          cases e with
          | normal =>
            exact evX_ok hP y hy h1 (fun e fr2 ds2 a2 w2 h4 h5 h6 => hq e fr2 ds2 a2 w2 h4 (fun t ht =>
              (h5 t (fun hm => ht (List.mem_append_right _ hm))).trans (h2 t (fun hm => ht (List.mem_append_left _ hm)))) h6) h3
          | _ => exact off _ h3
        · rename_i ls hls
          obtain ⟨hin, h⟩ := cond_ok h
          have hin := allIn_iff hin
          have h' := h (fun fr1 w' => ∀ a', KX n ds (fr1 ++ strip (writes x) fr) a' → y.wpIn Fence.wide 2 P Q a' w') (allFr_intro fun fr1 hf w' hy' a' hk' =>
            evX_ok hP y hy hk' (fun e fr2 ds2 a2 w2 h4 h5 h6 => hq e fr2 ds2 a2 w2 h4 (fun t ht =>
              (h5 t (fun hm => ht (List.mem_append_right _ hm))).trans (look_meet hf hin (fun hm => ht (List.mem_append_left _ hm)))) h6) hy')
          refine wpIn_seq (evC_wide hP hx hk (fun e fr' a' w' h1 h2 h3 => ?_) h')
          have off : ∀ e, Q' e fr' ds w' → Q e a' w' := fun e h4 => hq e fr' ds a' w' h1 (fun t ht => h2 t (fun hm => ht (List.mem_append_left _ hm))) h4
          cases e with
          | normal => exact h3 a' (@kf_meet n (dfr ds) _ _ _ _ _ h1 h2)
          | _ => exact off _ h3
  | .block id c, hw, fr, ds, a, w, Q', Q, hk, hq, h => by
    simp only [evX] at h
    cases hr : hasRange c with
    | false =>
      rw [hr, cond_false] at h
      exact evC_wide (m := m) (J := J) (L := L) hP (c := .block id c) hw hk (fun e fr' a' w' h1 h2 h3 => hq e fr' ds a' w' h1 h2 h3) h
    | true =>
      rw [hr, cond_true] at h
      refine wpIn_block (evX_ok hP c hw hk (fun e fr' ds' a' w' h1 h2 h3 => ?_) h)
      cases e with
      | exit i =>
        simp only [Exit.inBlock]
        cases hb : Nat.beq i id with
        | true => simp only [hb, cond_true] at h3; rw [if_pos (beq_eq.1 hb)]; exact hq _ _ _ _ _ h1 h2 h3
        | false => simp only [hb, cond_false] at h3; rw [if_neg (beq_ne.1 hb)]; exact hq _ _ _ _ _ h1 h2 h3
      | _ => exact hq _ _ _ _ _ h1 h2 h3
  | .rangeFunc g ps assign body, hw, fr, ds, a, w, Q', Q, hk, hq, h => by
    simp only [evX] at h
    split at h
    · rename_i p gv d t hps hg hasg
      obtain ⟨hc, h⟩ := cond_ok h
      simp only [Bool.and_eq_true] at hc
      have e := beq_eq.1 hc.1
      subst e
      have hgv : a.eval g = gv := @Kn.val (dfr []) n [] fr _ a (@KF.kn n (dfr []) _ a hk []) [] (Sat.nil a) _ _ hg
      exact range_ok hP hps hasg hc.2 hw hk hgv h (fun a' W h1 h2 => hq _ _ _ _ _ h1 (fun _ _ => rfl) h2) (fun a' W h1 h2 => hq _ _ _ _ _ h1 (fun _ _ => rfl) h2)
    · exact h.elim
  | .skip, hw, fr, ds, a, w, Q', Q, hk, hq, h => evC_wide (m := m) (J := J) (L := L) hP (c := .skip) hw hk (fun e fr' a' w' h1 h2 h3 => hq e fr' ds a' w' h1 h2 h3) h
  | .exit id, hw, fr, ds, a, w, Q', Q, hk, hq, h => evC_wide (m := m) (J := J) (L := L) hP (c := .exit id) hw hk (fun e fr' a' w' h1 h2 h3 => hq e fr' ds a' w' h1 h2 h3) h
  | .ret, hw, fr, ds, a, w, Q', Q, hk, hq, h => evC_wide (m := m) (J := J) (L := L) hP (c := .ret) hw hk (fun e fr' a' w' h1 h2 h3 => hq e fr' ds a' w' h1 h2 h3) h
  | .label l, hw, fr, ds, a, w, Q', Q, hk, hq, h => evC_wide (m := m) (J := J) (L := L) hP (c := .label l) hw hk (fun e fr' a' w' h1 h2 h3 => hq e fr' ds a' w' h1 h2 h3) h
  | .goto l, hw, fr, ds, a, w, Q', Q, hk, hq, h => evC_wide (m := m) (J := J) (L := L) hP (c := .goto l) hw hk (fun e fr' a' w' h1 h2 h3 => hq e fr' ds a' w' h1 h2 h3) h
  | .refuse l, hw, fr, ds, a, w, Q', Q, hk, hq, h => evC_wide (m := m) (J := J) (L := L) hP (c := .refuse l) hw hk (fun e fr' a' w' h1 h2 h3 => hq e fr' ds a' w' h1 h2 h3) h
  | .region i o r, hw, fr, ds, a, w, Q', Q, hk, hq, h => evC_wide (m := m) (J := J) (L := L) hP (c := .region i o r) hw hk (fun e fr' a' w' h1 h2 h3 => hq e fr' ds a' w' h1 h2 h3) h
  | .cond c x y, hw, fr, ds, a, w, Q', Q, hk, hq, h => by
    simp only [evX] at h
    cases hr : hasRange (.cond c x y) with
    | false => rw [hr] at h; exact evC_wide (m := m) (J := J) (L := L) hP (c := .cond c x y) hw hk (fun e fr' a' w' h1 h2 h3 => hq e fr' ds a' w' h1 h2 h3) h
    | true => rw [hr] at h; exact h.elim
  | .loop c, hw, fr, ds, a, w, Q', Q, hk, hq, h => by
    simp only [evX] at h
    cases hr : hasRange (.loop c) with
    | false => rw [hr] at h; exact evC_wide (m := m) (J := J) (L := L) hP (c := .loop c) hw hk (fun e fr' a' w' h1 h2 h3 => hq e fr' ds a' w' h1 h2 h3) h
    | true => rw [hr] at h; exact h.elim
  | .scope c, hw, fr, ds, a, w, Q', Q, hk, hq, h => by
    simp only [evX] at h
    cases hr : hasRange (.scope c) with
    | false => rw [hr] at h; exact evC_wide (m := m) (J := J) (L := L) hP (c := .scope c) hw hk (fun e fr' a' w' h1 h2 h3 => hq e fr' ds a' w' h1 h2 h3) h
    | true => rw [hr] at h; exact h.elim
/-- THE EVALUATOR IS SOUND -/
theorem evXF_ok (hP : Good P) {f : FuncId} {fn : Func} (hf : P.funcs[f]? = some fn) {args : List Value} (hlen' : Nat.ble args.length fn.ntmps = true) {w : World} {R : Value → World → Prop}
    (h : evXF P m J L fn args w R) : Ok P f args w R := by
  have hlen : args.length ≤ fn.ntmps := Nat.le_of_ble_eq_true hlen'
  unfold evXF at h
  split at h
  · rename_i c hc
    obtain ⟨hlt, h⟩ := cond_ok h
    refine callsIn_wide.1 (callsIn_of_wp_marks (F := Fence.wide) (n := 2) hf hc trivial (evX_ok (n := fn.ntmps) (m := m) (J := J) (L := L) hP c (allLt_iff hlt) (fr := frOf 0 args) (@KF.mk (dfr []) _ _ _ ?_ rfl fun t v hl => ?_) (fun e fr' ds' a' w' hk _ hq => ?_) h))
    · simp; omega
    · obtain ⟨_, h2⟩ := frOf_look hl
      have h3 : args[t]? = some v := by simpa using h2
      have h4 : t < args.length := (List.getElem?_eq_some_iff.1 h3).1
      show Array.getD _ t undef = v
      rw [Array.getD_eq_getD_getElem?, Array.getElem?_append_left (by simpa using h4)]
      simp [h3]
    · have out : bodyX P fn R .ret fr' ds' w' → LeavesInM Fence.wide 2 P fn a'.tmps (fun e w' => ∃ v, e = .returned v ∧ R v w') a'.defers .returning w' := fun hq => by
        have hd := @KF.defers (dfr ds') _ _ _ hk
        rw [hd]
        revert hk hq
        match ds' with
        | [] =>
          intro hk hq
          obtain ⟨v, h1, h2⟩ := @results_ok P fn.ntmps (dfr []) fn fr' a' hk w' R hq
          exact ⟨v, h1, v, rfl, h2⟩
        | [D] =>
          rintro hk ⟨hD, hq⟩
          obtain ⟨v, h1, h2⟩ := @results_ok P fn.ntmps (dfr [D]) fn fr' a' hk _ R hq
          exact ⟨by simp, .inl ⟨D, _, rfl, run_takeDeferred hD, v, h1, v, rfl, h2⟩⟩
        | _ :: _ :: _ =>
          intro hk hq
          exact hq.elim
      cases e with
      | normal => exact out hq
      | ret => exact out hq
      | _ => exact hq.elim
  · exact h.elim
#print axioms evXF_ok
end Go.Ev
end
section
set_option linter.unusedVariables false
set_option linter.unusedSimpArgs false
/- THE EVALUATOR OVER AN ITERATOR'S OWN CODE: it calls yield. Nothing of a program stands here. -/
set_option linter.unusedVariables false
namespace Go.Ev
open Go Go.RowKit
/-! ### words -/
/-- yield is called: a round of loop l -/
def yieldK (P : Program) (l : Nat) (vs : List Value) (w : World) (K : Value → World → Prop) : Prop := YieldAt Fence.wide 0 P l ⟨vs⟩ w fun e w' => ∃ v, e = .returned v ∧ K v w'
def splitY : List Oper → Option (List Oper × Oper × List Oper)
  | [] => none
  | o :: r => match o.op with
    | .call { callee := .value (.tmp _), .. } => some ([], o, r)
    | _ => match splitY r with | some (a, x, b) => some (o :: a, x, b) | none => none
def yieldOp (P : Program) (o : Oper) (fr : Fr) (w : World) (K : Value → World → Prop) : Prop :=
  match o.op, o.guard with
  | .call { callee := .value g, args, .. }, none => (match (⟨fr, [], []⟩ : St).val [] g, valsOf ((⟨fr, [], []⟩ : St).val []) args.toList with
    | some (.func (.yield l) first cap), some vs => yieldK P l (first.toList ++ vs) w fun v w' => resEv P o.dst o.type v fun v' => K v' w'
    | _, _ => False)
  | _, _ => False
def evRY (P : Program) (m : Mode) (ops : Array Oper) (draw : Bool) (fr : Fr) (w : World) (K : Fr → World → Prop) : Prop :=
  match splitY ops.toList with
  | none => evR P m ops draw fr w K
  | some (a, o, b) => cond draw False (evL P m ops a ⟨fr, [], []⟩ w fun fr1 w1 => yieldOp P o fr1 w1 fun v w2 => evL P m ops b ((⟨fr1, [], []⟩ : St).put o.dst (some v)) w2 K)
def evY (P : Program) (m : Mode) (J L : Ann) : Code → Fr → World → Cont → Prop
  | .skip, fr, w, Q => Q .normal fr w
  | .region _ ops draw, fr, w, Q => evRY P m ops draw fr w fun fr' w' => Q .normal fr' w'
  | .seq a b, fr, w, Q => (match annOf (keyOf b) J with
    | none => evY P m J L a fr w (thenC (fun fr' w' => evY P m J L b fr' w' Q) Q)
    | some ls => cond (allIn ls (writes a)) (∀ K : Fr → World → Prop, (allFr ls fun fr' => ∀ w', evY P m J L b (fr' ++ strip (writes a) fr) w' Q → K fr' w') → evY P m J L a fr w (thenC (fun fr' w' => K (carry fr' ls) w') Q)) False)
  | .cond c a b, fr, w, Q => (match (⟨fr, [], []⟩ : St).val [] c with
    | some (.bool t) => iteP t (evY P m J L a fr w Q) (evY P m J L b fr w Q)
    | _ => False)
  | .block id a, fr, w, Q => evY P m J L a fr w (inBlockC id Q)
  | .loop a, fr, w, Q => (match annOf (keyOf a) L with
    | none => False
    | some ls => cond (allIn ls (writes a)) (∀ X : Fr → World → Prop, (allFr ls fun fr' => ∀ w', evY P m J L a (fr' ++ strip (writes a) fr) w' (thenC (fun fr'' w'' => X (carry fr'' ls) w'') Q) → X fr' w') → X (carry fr ls) w) False)
  | .exit id, fr, w, Q => Q (.exit id) fr w
  | .ret, fr, w, Q => Q .ret fr w
  | .label _, fr, w, Q => Q .normal fr w
  | _, _, _, _ => False
@[irreducible] def evYF (P : Program) (m : Mode) (J L : Ann) (fn : Func) (args : List Value) (w : World) (R : Value → World → Prop) : Prop :=
  match fn.body with
  | some c => cond (allLt fn.ntmps (writes c)) (evY P m J L c (frOf 0 args) w (bodyC P fn R)) False
  | none => False
/-- what a call of an iterator's function comes to -/
def OkY (P : Program) (f : FuncId) (args : List Value) (w : World) (R : Value → World → Prop) : Prop := CallsIn Fence.wide 1 P f ⟨args⟩ w fun e w' => ∃ v, e = .returned v ∧ R v w'

/-! ### soundness -/
variable {P : Program} {n : Nat} {ws : List Nat} {f0 : Fr} {ops : Array Oper} {m : Mode} {J L : Ann}
theorem splitY_ok : ∀ {l a b : List Oper} {o : Oper}, splitY l = some (a, o, b) → l = a ++ o :: b
  | [], _, _, _, h => by cases h
  | x :: r, a, b, o, h => by
    simp only [splitY] at h
    split at h
    · simp only [Option.some.injEq, Prod.mk.injEq] at h
      obtain ⟨rfl, rfl, rfl⟩ := h
      rfl
    · split at h
      · rename_i a' x' b' h'
        simp only [Option.some.injEq, Prod.mk.injEq] at h
        obtain ⟨rfl, rfl, rfl⟩ := h
        rw [splitY_ok h']; rfl
      · cases h
theorem wideIn_of_wp {o : Oper} {i : Nat} {a : Act} {w : World} {next next' Q1 : Act → World → Prop} {Q : Exit → Act → World → Prop} (h : o.wp P a w next (Q0 Q1)) (hn : ∀ a w, next a w → next' a w) : o.wpIn Fence.wide i P a w next' Q := by
  refine ⟨fun f _ => trivial, ?_⟩
  show o.uponIn Fence.wide i P a next' Q ((execOp a.eval o).run P w)
  unfold Oper.wp at h
  revert h
  generalize (execOp a.eval o).run P w = r
  intro h
  match r, h with
  | .ok (.value v) w', h => exact hn _ _ h
  | .ok .skip w', h => exact hn _ _ h
  | .ok (.defer d) w', h => exact hn _ _ h
  | .ok (.enter f args) w', h =>
    refine ⟨fun h => absurd h (by simp [Fence.wide]), (callsIn_wide.2 h).mono fun e w2 hr => ?_⟩
    cases e with
    | returned v => exact hn _ _ hr
    | panicked ch => exact hr.elim
    | outgrown => obtain ⟨_, _, hr⟩ := hr; exact hr.elim
  | .ok (.row row args) w', h => exact ⟨fun h => absurd h (by simp [Fence.wide]), fun c cs _ => let ⟨v, w2, hr, hs⟩ := h c cs; ⟨v, w2, hn _ _ hr, stepsIn_wide.2 hs⟩⟩
  | .halt (.panic v) w', h => exact h.elim
theorem listIn_of {i : Nat} {Q1 : Act → World → Prop} {Q : Exit → Act → World → Prop} {l2 : List Oper} : ∀ (l1 : List Oper) (a : Act) (w : World), wpList P ops (Q0 Q1) l1 a w → (∀ a w, Q1 a w → wpListIn Fence.wide i P ops Q l2 a w) → wpListIn Fence.wide i P ops Q (l1 ++ l2) a w
  | [], a, w, h, hQ => hQ a w h
  | o :: r, a, w, h, hQ => by
    unfold wpList at h
    show wpListIn Fence.wide i P ops Q (o :: (r ++ l2)) a w
    unfold wpListIn
    split
    · rename_i hw
      rw [if_pos hw] at h
      rcases h with h | h
      · exact wideIn_of_wp h fun a w h => listIn_of r a w h hQ
      · obtain ⟨_, _, _, hr⟩ := h; exact hr.elim
    · rename_i hw
      rw [if_neg hw] at h
      exact ⟨fun f _ => trivial, listIn_of r _ w h hQ⟩
theorem yieldOp_ok [Dfr] {o : Oper} {fr : Fr} {a : Act} {w : World} {K : Value → World → Prop} {next : Act → World → Prop} {Q : Exit → Act → World → Prop} (hk : Kn n ws f0 ⟨fr, [], []⟩ a) (h : yieldOp P o fr w K)
    (hn : ∀ v w', K v w' → next (a.put o.dst v) w') : o.guard = none ∧ o.wpIn Fence.wide 1 P a w next Q := by
  unfold yieldOp at h
  split at h
  · rename_i g args ats hop hgd
    split at h
    · rename_i l first cap vs hg hvs
      refine ⟨hgd, fun f _ => trivial, ?_⟩
      show o.uponIn Fence.wide 1 P a next Q ((execOp a.eval o).run P w)
      obtain ⟨fn, tmps, asg, bd, hy, hr⟩ := h
      have hsnd : Snd ((⟨fr, [], []⟩ : St).val []) a.eval := fun x v hx => hk.val (Sat.nil a) hx
      have hrun : (execOp a.eval o).run P w = .ok (.round l fn tmps asg bd) w := by
        have hv' := vals_arr hsnd hvs
        obtain ⟨dst, op, ty, ps, af, gd⟩ := o
        simp only at hop
        subst hop
        simp only [execOp, resolve, hv', hsnd _ _ hg, Deferred.ofValue, invoke, Sem.run_bind, Sem.run_pure, Result.andThen_ok]
        refine Eq.trans ?_ hy
        congr 2
        apply Array.ext'
        simp
      rw [hrun]
      refine ⟨fun h => absurd h (by simp [Fence.wide]), hr.mono fun e w' he => ?_⟩
      obtain ⟨v, rfl, he⟩ := he
      exact hn _ _ (resEv_ok he)
    · exact h.elim
  · exact h.elim
theorem evRY_ok [Dfr] (hP : Good P) {draw : Bool} {id : Nat} {fr : Fr} {a : Act} {w : World} {K : Fr → World → Prop} {Q : Exit → Act → World → Prop} (hQ : ∀ fr a w, Kn n ws f0 ⟨fr, [], []⟩ a → K fr w → Q .normal a w)
    (hd : ∀ o ∈ ops.toList, ∀ d, o.dst = some d → d < n ∧ d ∈ ws) (hk : Kn n ws f0 ⟨fr, [], []⟩ a) (h : evRY P m ops draw fr w K) : (Code.region id ops draw).wpIn Fence.wide 1 P Q a w := by
  unfold evRY at h
  split at h
  · exact wpIn_wide.2 (evR_ok hP hQ hd hk h)
  · rename_i l1 o l2 hs
    have hl := splitY_ok hs
    cases draw with
    | true => exact h.elim
    | false =>
      refine wpIn_region_list ?_
      have hd1 : ∀ x ∈ l1, ∀ d, x.dst = some d → d < n ∧ d ∈ ws := fun x hx => hd x (by rw [hl]; simp [hx])
      have hd2 : ∀ x ∈ l2, ∀ d, x.dst = some d → d < n ∧ d ∈ ws := fun x hx => hd x (by rw [hl]; simp [hx])
      have hdo : ∀ d, o.dst = some d → d < n ∧ d ∈ ws := hd o (by rw [hl]; simp)
      rw [hl]
      refine listIn_of l1 a w (evL_ok (Q := Q0 fun a w => ∃ fr1, Kn n ws f0 ⟨fr1, [], []⟩ a ∧ yieldOp P o fr1 w fun v w2 => evL P m ops l2 ((⟨fr1, [], []⟩ : St).put o.dst (some v)) w2 K) hP hd (fun fr1 a w h1 h2 => ⟨fr1, h1, h2⟩) _ _ a w hd1 hk h) ?_
      rintro a1 w1 ⟨fr1, hk1, hy⟩
      have h3 := yieldOp_ok (next := wpListIn Fence.wide 1 P ops Q l2) (Q := Q) hk1 hy fun v w2 h4 => by
        have hk2 : Kn n ws f0 ((⟨fr1, [], []⟩ : St).put o.dst (some v)) (a1.put o.dst v) := hk1.put hdo (fun x hx => by cases hx; rfl)
        have := listIn_of (i := 1) (Q := Q) (l2 := []) l2 _ _ (evL_ok (Q := Q0 fun a w => Q .normal a w) hP hd (fun fr a w h1 h2 => hQ fr a w h1 h2) _ _ _ w2 hd2 hk2 h4) fun a w h => h
        rwa [List.append_nil] at this
      unfold wpListIn
      rw [if_pos (wanted_none h3.1)]
      exact h3.2
/-- round a loop, in a round of a loop over a function -/
def AgainW (i : Nat) (P : Program) (c : Code) (Q : Exit → Act → World → Prop) (a : Act) (w : World) : Prop :=
  ∀ (b : Frame) (k : List Item) (cs : List Frame), b.roundOf = Fence.wide.round → Fence.wide.fn b.fn → Fence.wide.room (cs.length + 1 + i) → ∃ e a' w', Q e a' w' ∧ ArrivesIn (Machine.fenced P Fence.wide) P (lone (b.atR a (.code c :: .inLoop c :: k)) cs w) b k cs e a' w'
theorem againW_of {i : Nat} {c : Code} {Q : Exit → Act → World → Prop} {a : Act} {w : World} (h : c.wpIn Fence.wide i P (Exit.then (AgainW i P c Q) Q) a w) : AgainW i P c Q a w := by
  intro b k cs hro hb hr
  obtain ⟨e, a₁, w₁, hq, harr⟩ := h b (.inLoop c :: k) cs hro hb hr
  cases e with
  | normal =>
    obtain ⟨e₂, a₂, w₂, hq₂, harr₂⟩ := hq b k cs hro hb hr
    exact ⟨e₂, a₂, w₂, hq₂, .of_steps (StepsIn.trans harr (.one (fenced_calm hb hr rfl) stepR_inLoop)) harr₂⟩
  | exit id => exact ⟨_, a₁, w₁, hq, .pass (x := .inLoop c) rfl (fun _ _ => .inl (by simp)) harr⟩
  | goto l => exact ⟨_, a₁, w₁, hq, .pass (x := .inLoop c) rfl (fun _ _ => .inl (by simp)) harr⟩
  | ret => exact ⟨_, a₁, w₁, hq, .pass (x := .inLoop c) rfl (fun _ _ => .inl (by simp)) harr⟩
  | panic ch => exact ⟨_, a₁, w₁, hq, .pass (x := .inLoop c) rfl (fun _ _ => .inl (by simp)) harr⟩
  | outgrown => exact ⟨_, a₁, w₁, hq, .pass (x := .inLoop c) rfl (fun _ _ => .inl (by simp)) harr⟩
theorem loopW_of {i : Nat} {c : Code} {Q : Exit → Act → World → Prop} {a : Act} {w : World} (h : AgainW i P c Q a w) : (Code.loop c).wpIn Fence.wide i P Q a w := by
  intro b k cs hro hb hr
  obtain ⟨e, a', w', hq, harr⟩ := h b k cs hro hb hr
  exact ⟨e, a', w', hq, .of_steps (.one (fenced_calm hb hr rfl) stepR_loop) harr⟩
theorem evY_ok [Dfr] (hP : Good P) : ∀ (c : Code), (∀ d ∈ writes c, d < n) → ∀ {fr : Fr} {a : Act} {w : World} {Q' : Cont} {Q : Exit → Act → World → Prop}, KF n fr a →
    (∀ e fr' a' w', KF n fr' a' → Same (writes c) fr fr' → Q' e fr' w' → Q e a' w') → evY P m J L c fr w Q' → c.wpIn Fence.wide 1 P Q a w
  | .skip, _, fr, a, w, Q', Q, hk, hq, h => wpIn_skip (hq _ _ _ _ hk (fun _ _ => rfl) h)
  | .exit id, _, fr, a, w, Q', Q, hk, hq, h => wpIn_exit (hq _ _ _ _ hk (fun _ _ => rfl) h)
  | .ret, _, fr, a, w, Q', Q, hk, hq, h => wpIn_ret (hq _ _ _ _ hk (fun _ _ => rfl) h)
  | .region id ops draw, hw, fr, a, w, Q', Q, hk, hq, h => by
    refine evRY_ok (n := n) (ws := dsts ops.toList) (f0 := fr) (m := m) hP (K := fun fr' w' => Q' .normal fr' w') (fun fr' a' w' h1 h2 => hq .normal fr' a' w' h1.kf (fun t ht => h1.pres t ht) h2) (fun o ho d hd => ?_) (hk.kn _) h
    have : d ∈ dsts ops.toList := mem_dsts.2 ⟨o, ho, hd⟩
    exact ⟨hw d this, this⟩
  | .cond c x y, hw, fr, a, w, Q', Q, hk, hq, h => by
    simp only [evY] at h
    split at h
    · rename_i t ht
      have hc := (hk.kn []).val (Sat.nil a) ht
      have hx : ∀ d ∈ writes x, d < n := fun d hd => hw d (List.mem_append_left _ hd)
      have hy : ∀ d ∈ writes y, d < n := fun d hd => hw d (List.mem_append_right _ hd)
      refine wpIn_cond hc ?_
      cases t with
      | true =>
        exact evY_ok hP x hx hk (fun e fr' a' w' h1 h2 h3 => hq e fr' a' w' h1 (fun t ht => h2 t (fun hm => ht (List.mem_append_left _ hm))) h3) h
      | false =>
        exact evY_ok hP y hy hk (fun e fr' a' w' h1 h2 h3 => hq e fr' a' w' h1 (fun t ht => h2 t (fun hm => ht (List.mem_append_right _ hm))) h3) h
    · exact h.elim
  | .block id c, hw, fr, a, w, Q', Q, hk, hq, h => by
    refine wpIn_block (evY_ok hP c hw hk (fun e fr' a' w' h1 h2 h3 => ?_) h)
    cases e with
    | exit i =>
      simp only [inBlockC] at h3
      simp only [Exit.inBlock]
      cases hb : Nat.beq i id with
      | true => rw [hb] at h3; rw [if_pos (beq_eq.1 hb)]; exact hq _ _ _ _ h1 h2 h3
      | false => rw [hb] at h3; rw [if_neg (beq_ne.1 hb)]; exact hq _ _ _ _ h1 h2 h3
    | _ => exact hq _ _ _ _ h1 h2 h3
  | .seq x y, hw, fr, a, w, Q', Q, hk, hq, h => by
    have hx : ∀ d ∈ writes x, d < n := fun d hd => hw d (List.mem_append_left _ hd)
    have hy : ∀ d ∈ writes y, d < n := fun d hd => hw d (List.mem_append_right _ hd)
    simp only [evY] at h
    refine wpIn_seq ?_
    split at h
    · refine evY_ok hP x hx hk (fun e fr' a' w' h1 h2 h3 => ?_) h
      have off : ∀ e, Q' e fr' w' → Q e a' w' := fun e h4 => hq e fr' a' w' h1 (fun t ht => h2 t (fun hm => ht (List.mem_append_left _ hm))) h4
      cases e with
      | normal =>
        exact evY_ok hP y hy h1 (fun e fr2 a2 w2 h4 h5 h6 => hq e fr2 a2 w2 h4 (fun t ht =>
          (h5 t (fun hm => ht (List.mem_append_right _ hm))).trans (h2 t (fun hm => ht (List.mem_append_left _ hm)))) h6) h3
      | _ => exact off _ h3
    · rename_i ls hls
      obtain ⟨hin, h⟩ := cond_ok h
      have hin := allIn_iff hin
      have h' := h (fun fr1 w' => ∀ a', KF n (fr1 ++ strip (writes x) fr) a' → y.wpIn Fence.wide 1 P Q a' w') (allFr_intro fun fr1 hf w' hy' a' hk' =>
        evY_ok hP y hy hk' (fun e fr2 a2 w2 h4 h5 h6 => hq e fr2 a2 w2 h4 (fun t ht =>
          (h5 t (fun hm => ht (List.mem_append_right _ hm))).trans (look_meet hf hin (fun hm => ht (List.mem_append_left _ hm)))) h6) hy')
      refine evY_ok hP x hx hk (fun e fr' a' w' h1 h2 h3 => ?_) h'
      have off : ∀ e, Q' e fr' w' → Q e a' w' := fun e h4 => hq e fr' a' w' h1 (fun t ht => h2 t (fun hm => ht (List.mem_append_left _ hm))) h4
      cases e with
      | normal => exact h3 a' (kf_meet h1 h2)
      | _ => exact off _ h3
  | .loop c, hw, fr, a, w, Q', Q, hk, hq, h => by
    simp only [evY] at h
    split at h
    · exact h.elim
    · rename_i ls hls
      obtain ⟨hin, h⟩ := cond_ok h
      have hin := allIn_iff hin
      have h' := h (fun fr1 w' => ∀ a', KF n (fr1 ++ strip (writes c) fr) a' → AgainW 1 P c Q a' w') (allFr_intro fun fr1 hf w' hc' a' hk' => againW_of (
        evY_ok hP c hw hk' (fun e fr2 a2 w2 h4 h5 h6 => by
          have same : ∀ t, t ∉ writes c → look t fr2 = look t fr := fun t ht => (h5 t ht).trans (look_meet hf hin ht)
          have off : ∀ e, Q' e fr2 w2 → Q e a2 w2 := fun e h7 => hq e fr2 a2 w2 h4 same h7
          cases e with
          | normal => exact h6 a2 (kf_meet h4 same)
          | _ => exact off _ h6) hc'))
      exact loopW_of (h' a (kf_meet hk (fun _ _ => rfl)))
  | .rangeFunc .., _, _, _, _, _, _, _, _, h => (by simp only [evY] at h)
  | .scope c, _, _, _, _, _, _, _, _, h => (by simp only [evY] at h)
  | .label l, hw, fr, a, w, Q', Q, hk, hq, h => by
    simp only [evY] at h
    exact wpIn_label (hq _ _ _ _ hk (fun _ _ => rfl) h)
  | .goto _, _, _, _, _, _, _, _, _, h => (by simp only [evY] at h)
  | .refuse _, _, _, _, _, _, _, _, _, h => (by simp only [evY] at h)

/-- THE EVALUATOR IS SOUND -/
theorem evYF_ok (hP : Good P) {f : FuncId} {fn : Func} (hf : P.funcs[f]? = some fn) {args : List Value} (hlen' : Nat.ble args.length fn.ntmps = true) {w : World} {R : Value → World → Prop}
    (h : evYF P m J L fn args w R) : OkY P f args w R := by
  have hlen : args.length ≤ fn.ntmps := Nat.le_of_ble_eq_true hlen'
  unfold evYF at h
  split at h
  · rename_i c hc
    obtain ⟨hlt, h⟩ := cond_ok h
    refine callsIn_of_wp hf hc trivial (evY_ok (n := fn.ntmps) (m := m) (J := J) (L := L) hP c (allLt_iff hlt) (fr := frOf 0 args) ⟨?_, rfl, fun t v hl => ?_⟩ (fun e fr' a' w' hk _ hq => ?_) h)
    · simp; omega
    · obtain ⟨_, h2⟩ := frOf_look hl
      have h3 : args[t]? = some v := by simpa using h2
      have h4 : t < args.length := (List.getElem?_eq_some_iff.1 h3).1
      show Array.getD _ t undef = v
      rw [Array.getD_eq_getD_getElem?, Array.getElem?_append_left (by simpa using h4)]
      simp [h3]
    · cases e with
      | normal =>
        obtain ⟨v, h1, h2⟩ := results_ok (fn := fn) hk hq
        exact ⟨hk.defers, v, h1, v, rfl, h2⟩
      | ret =>
        obtain ⟨v, h1, h2⟩ := results_ok (fn := fn) hk hq
        exact ⟨hk.defers, v, h1, v, rfl, h2⟩
      | _ => exact hq.elim
  · exact h.elim
#print axioms evYF_ok
end Go.Ev
end
section
set_option linter.unusedVariables false
set_option linter.unusedSimpArgs false
/- WHAT THE CODE OF EACH FUNCTION ASKS FOR, by a program of this claim's author (vc.py); each is held against the code by the kernel. -/
namespace Go.Proofs.YtdnhoebcomffoaaGreatDoor
open Go Go.Ev
set_option maxRecDepth 100000
set_option linter.unusedVariables false
def V_sign_Verify (setv : Int) (verify : SlV) (note : SlV) (m : SlV) (sig : SlV) (w : World) (R : Value → World → Prop) : Prop :=
 callK Pr f_lay_Of [.int .i64 setv] w fun a b =>
 destr.asArr' a fun c =>
 uncons c fun d e =>
 as_lay_Set d fun f g i j k l n o p =>
 uncons e fun q s =>
 asB q fun t =>
 (s = [] ∧
 nw t_lay_Set (zc Pr t_lay_Set) b fun u v =>
 sT_lay_Set u f g i j k l n o p v fun x =>
 iteP (!t)
 (callK Pr f_sign_fault [.int .i64 2] x fun y z =>
 R y z)
 (callK Pr f_sign_Digest [.slice verify.a verify.n verify.c, .slice note.a note.n note.c, .slice m.a m.n m.c] x fun A B =>
 destr.asArr' A fun C =>
 uncons C fun D E =>
 asSl D fun F =>
 uncons E fun G I =>
 (I = [] ∧
 join0 []
 (fun J => ldI .i64 (Addr.add u 8) J fun L =>
 slH sig L fun M =>
 ldI .i64 (Addr.add u 6) (World.drew J) fun N =>
 (I64 (N - 1) ∧
 ldI .i64 (Addr.add u 6) (World.drew J) fun O =>
 ldI .i64 (Addr.add u 1) (World.drew J) fun Q =>
 ldI .i64 (Addr.add u 8) (World.drew J) fun S =>
 slL 1 sig S fun T =>
 callK Pr f_sign_polys [.int .i64 (N - 1), .int .i64 O, .int .i64 Q, .slice T.a T.n T.c] (World.drew J) fun U V =>
 destr.asArr' U fun X =>
 uncons X fun Y Z =>
 asSl Y fun aa =>
 uncons Z fun ba ca =>
 asSl ba fun da =>
 (ca = [] ∧
 callK Pr f_lay_Unhint [.int .i64 setv, .slice da.a da.n da.c] V fun ea fa =>
 destr.asArr' ea fun ga =>
 uncons ga fun ia ja =>
 asSl ia fun ka =>
 uncons ja fun la ma =>
 (ma = [] ∧
 nw t_s_s_int (zc Pr t_s_s_int) fa fun na oa =>
 st na (.slice ka.a ka.n ka.c) oa fun pa =>
 ifaceNil la fun qa =>
 iteP (!qa)
 (callK Pr f_sign_fault [.int .i64 4] pa fun sa ta =>
 R sa ta)
 (ldI .i64 (Addr.add u 6) (World.drew pa) fun ua =>
 ldI .i64 (Addr.add u 4) (World.drew pa) fun va =>
 (I64 (ua - va) ∧
 callK Pr f_wave_Norm [.slice aa.a aa.n aa.c] (World.drew pa) fun xa ya =>
 asI .i64 xa fun za =>
 (kept (Addr.add u 4) 1 (World.drew pa) ya ∧
 (kept (Addr.add u 6) 1 (World.drew pa) ya ∧
 iteP (decide (ua - va ≤ za))
 (callK Pr f_sign_fault [.int .i64 7] ya fun Aa Ba =>
 R Aa Ba)
 (callK Pr f_sift_Ball [.int .i64 setv, .slice M.a M.n M.c] ya fun Ca Da =>
 destr.asArr' Ca fun Ea =>
 uncons Ea fun Fa Ga =>
 asSl Fa fun Ia =>
 uncons Ga fun Ja La =>
 (La = [] ∧
 nw t_s_s_int (zc Pr t_s_s_int) Da fun Ma Na =>
 slL 1 verify 32 fun Oa =>
 callK Pr f_slices_Chunk_byte_byte [.slice Oa.a Oa.n Oa.c, .int .i64 320] Na fun Qa Sa =>
 rangeK Pr Qa Sa
 (fun Ta Ua Va Xa =>
 callK Pr f_bits_Unpack [.int .i64 10, Ta] Ua fun Ya Za =>
 asSl Ya fun ab =>
 loop1 (fun (bb : Int) => [(118, some (.int .i64 bb))])
 (fun cb bb db => iteP (decide (bb < (ab.n:Int)))
 (idxS ab.a bb ab.n
 (ldI .i64 (Addr.add (base ab.a) (Int.toNat bb * 1)) db fun eb =>
 (I64 (eb * 8192) ∧
 idxS ab.a bb ab.n
 (st (Addr.add (base ab.a) (Int.toNat bb * 1)) (.int .i64 (eb * 8192)) db fun fb =>
 (I64 (bb + 1) ∧
 cb (bb + 1) fb)))))
 (ldL Ma db fun gb =>
 nw t_s_int [.slice ab.a ab.n ab.c] db fun ib jb =>
 appK Pr [t_s_s_int, t_s_s_int] t_s_s_int [.slice gb.a gb.n gb.c, .slice (some ib) 1 1] jb fun kb lb =>
 st Ma (.slice kb.a kb.n kb.c) lb fun mb =>
 Va mb))
 0 Za)
 (fun nb =>
 ld_lay_Set u (World.drew nb) fun ob pb qb sb tb ub vb xb yb =>
 slH verify 32 fun zb =>
 ldL Ma (World.drew nb) fun Ab =>
 callK Pr f_sign_matrix [.agg ⟨[.int .i64 ob, .int .i64 pb, .int .i64 qb, .int .i64 sb, .int .i64 tb, .int .i64 ub, .int .i64 vb, .int .i64 xb, .int .i64 yb]⟩, .slice zb.a zb.n zb.c] (World.drew nb) fun Bb Cb =>
 asSl Bb fun Db =>
 (kept Ma 1 (World.drew nb) Cb ∧
 callK Pr f_sign_apply [.slice Db.a Db.n Db.c, .slice aa.a aa.n aa.c] Cb fun Eb Fb =>
 asSl Eb fun Gb =>
 (kept Ma 1 Cb Fb ∧
 callK Pr f_sign_scaled [.slice Ia.a Ia.n Ia.c, .slice Ab.a Ab.n Ab.c] Fb fun Ib Jb =>
 asSl Ib fun Lb =>
 callK Pr f_sign_less [.slice Gb.a Gb.n Gb.c, .slice Lb.a Lb.n Lb.c] Jb fun Mb Nb =>
 asSl Mb fun Ob =>
 callK Pr f_sign_each [.slice Ob.a Ob.n Ob.c, .func (.func f_sign_Verify_1) ⟨[]⟩ ⟨[.pointer (some u), .pointer (some na)]⟩] Nb fun Qb Sb =>
 asSl Qb fun Tb =>
 callK Pr f_lay_High [.int .i64 setv, .slice Tb.a Tb.n Tb.c] Sb fun Ub Vb =>
 destr.asArr' Ub fun Xb =>
 uncons Xb fun Yb Zb =>
 asSl Yb fun ac =>
 uncons Zb fun bc cc =>
 (cc = [] ∧
 ldI .i64 (Addr.add u 8) Vb fun dc =>
 nw t_s_uint8 [.slice F.a F.n F.c, .slice ac.a ac.n ac.c] Vb fun ec fc =>
 callK Pr f_sponge_Shake256 [.int .i64 dc, .slice (some ec) 2 2] fc fun gc ic =>
 asSl gc fun jc =>
 callK Pr f_bytes_Equal [.slice jc.a jc.n jc.c, .slice M.a M.n M.c] ic fun kc lc =>
 asB kc fun mc =>
 iteP (!mc)
 (callK Pr f_sign_fault [.int .i64 7] lc fun nc oc =>
 retD (Array.size (World.heap Sa)) oc fun pc =>
 R nc pc)
 (retD (Array.size (World.heap Sa)) lc fun qc =>
 R (.nilIface) qc)))))
 (fun sc =>
 retD (Array.size (World.heap Sa)) sc fun tc =>
 False)))))))))))
 (fun uc =>
 callK Pr f_lay_Sizes [.int .i64 setv] B fun vc xc =>
 destr.asArr' vc fun yc =>
 uncons yc fun Ac Bc =>
 asI .i64 Ac fun Cc =>
 uncons Bc fun Dc Ec =>
 asI .i64 Dc fun Fc =>
 uncons Ec fun Gc Ic =>
 asI .i64 Gc fun Jc =>
 (Ic = [] ∧
 join1 (fun (Lc : Bool) => [(65, some (.bool Lc))])
 (fun Lc Mc => iteP Lc
 (callK Pr f_sign_fault [.int .i64 3] Mc fun Nc Oc =>
 R Nc Oc)
 (uc Mc))
 (fun Qc =>
 iteP ((!decide ((verify.n:Int) = Cc)) || (!decide ((sig.n:Int) = Jc)))
 (Qc true xc)
 (ifaceNil G fun Sc =>
 Qc (!Sc) xc)))))))
theorem V_sign_Verify_of {setv : Int} {verify : SlV} {note : SlV} {m : SlV} {sig : SlV} {w : World} {R : Value → World → Prop} (h : V_sign_Verify setv verify note m sig w R) : Ok Pr f_sign_Verify [.int .i64 setv, .slice verify.a verify.n verify.c, .slice note.a note.n note.c, .slice m.a m.n m.c, .slice sig.a sig.n sig.c] w R :=
 evXF_ok (m := ⟨true, true⟩) (J := [(8, []), (7, [(65, .bool)])]) (L := [(21, [(118, .int .i64)])]) good Tryz.func15 (by kernel_rfl) ((by kernel_rfl : evXF Pr _ _ _ Tryz.f15 _ w R = V_sign_Verify setv verify note m sig w R).mpr h)

def V_slices_Chunk_byte_byte_1 (yield : Nat) (free : Addr) (free_1 : Addr) (w : World) (R : Value → World → Prop) : Prop :=
 loop1 (fun (a : Int) => [(4, some (.int .i64 a))])
 (fun b a c => ldL free c fun d =>
 iteP (decide (a < (d.n:Int)))
 (ldI .i64 free_1 (World.drew c) fun e =>
 ldL free (World.drew c) fun f =>
 slL 1 f a fun g =>
 lt (A := Int) (min e (g.n:Int)) fun i =>
 ldL free (World.drew c) fun j =>
 (I64 (a + i) ∧
 (I64 (a + i) ∧
 slLHM 1 j a (a + i) (a + i) fun k =>
 yieldK Pr yield [.slice k.a k.n k.c] (World.drew c) fun l m =>
 asB l fun n =>
 iteP (!n)
 (R (.tuple ⟨[]⟩) m)
 (ldI .i64 free_1 m fun o =>
 (I64 (a + o) ∧
 b (a + o) m)))))
 (R (.tuple ⟨[]⟩) c))
 0 w
theorem V_slices_Chunk_byte_byte_1_of {yield : Nat} {free : Addr} {free_1 : Addr} {w : World} {R : Value → World → Prop} (h : V_slices_Chunk_byte_byte_1 yield free free_1 w R) : OkY Pr f_slices_Chunk_byte_byte_1 [.func (.yield yield) ⟨[]⟩ ⟨[]⟩, .pointer (some free), .pointer (some free_1)] w R :=
 evYF_ok (m := ⟨true, true⟩) (J := []) (L := [(1, [(4, .int .i64)])]) good Tryz.func142 (by kernel_rfl) ((by kernel_rfl : evYF Pr _ _ _ Tryz.f142 _ w R = V_slices_Chunk_byte_byte_1 yield free free_1 w R).mpr h)
end Go.Proofs.YtdnhoebcomffoaaGreatDoor
end
section
set_option linter.unusedVariables false
set_option linter.unusedSimpArgs false
/- DIGESTS, the document's; what every program answers that is one; the statement on digests. -/
namespace Go.Proofs.YtdnhoebcomffoaaGreatDoor
open Go Go.Ev
set_option maxRecDepth 20000
set_option linter.unusedVariables false
/-- a set that there is not -/
theorem sign_Verify_noset (set : Int) (hs : isSet set = false) (a b c d : SlV) (w : World) : Ok Pr f_sign_Verify [.int .i64 set, .slice a.a a.n a.c, .slice b.a b.n b.c, .slice c.a c.n c.c, .slice d.a d.n d.c] w fun v w' => IsErr w w' v 2 ∧ Mod [] w w' := by
  refine V_sign_Verify_of ?_
  unfold V_sign_Verify
  rw [zc_lSet]
  refine call_of (lay_Of_ok set w) ?_
  rintro _ w1 ⟨rfl, m1⟩
  have H := (Mine.start w).frame m1
  rw [hs]
  generalize layS set = s at *
  refine ⟨_, rfl, as_lSet ⟨_, rfl, rfl, H.nw fun p w2 H _ => H.sT_lay_Set 0 rfl rfl fun w3 H => ite_true rfl (call_of (sign_fault_ok 2 (by decide) w3) ?_)⟩⟩
  rintro e w4 ⟨h, m4⟩
  exact ⟨h.from H.mod.size, (H.frame m4).mod⟩
end Go.Proofs.YtdnhoebcomffoaaGreatDoor
end
section
set_option linter.unusedVariables false
set_option linter.unusedSimpArgs false
/- SIGNING, the document's: signatures, and the verifying key of a signing one. -/
namespace Go.Proofs.YtdnhoebcomffoaaGreatDoor
open Go Go.Ev
set_option maxRecDepth 20000
set_option linter.unusedVariables false
theorem sizes_eq {set : Int} (his : isSet set = true) : 32 + 320 * (layS set).k = vkS set ∧ 128 + 32 * (((layS set).k + (layS set).l) * wid (layS set) + 13 * (layS set).k) = skS set ∧ (layS set).c + 32 * (layS set).l * maskD (layS set) + (layS set).omega + (layS set).k = sgS set := by
  unfold isSet at his
  simp only [Bool.or_eq_true, decide_eq_true_eq] at his
  rcases his with rfl | rfl | rfl <;> decide
end Go.Proofs.YtdnhoebcomffoaaGreatDoor
end
section
set_option linter.unusedVariables false
set_option linter.unusedSimpArgs false
/- THE STATEMENT ON KEYS: what was laid is read again. -/
namespace Go.Proofs.YtdnhoebcomffoaaGreatDoor
open Go Go.Ev
set_option maxRecDepth 20000
set_option linter.unusedVariables false
theorem far_nearP (a b : Nat) (h0 : 0 < a + b) {f : List Int} (hf : Po f) (hr : ∀ x ∈ f, ((b : Int) - x) % 8380417 ≤ ((a + b : Nat) : Int)) : farOf (blen (a + b)) b (nearP a b f) = f := by
  have hn : (nearOf b f).length = 256 := by unfold nearOf; rw [List.length_map]; exact hf.len
  unfold farOf nearP
  rw [unpack_pack (blen (a + b)) (32 * blen (a + b)) (blen_pos _ h0) _ (near_dig hr) (by rw [hn]; omega)]
  unfold nearOf
  rw [List.map_map]
  conv => rhs; rw [← List.map_id f]
  refine List.map_congr_left fun x hx => ?_
  have := hf.rng x hx
  simp only [Function.comp_apply, id_eq]
  omega
theorem flatMap_len (a b : Nat) (fs : List (List Int)) (hp : Pos fs) : (fs.flatMap (nearP a b)).length = 32 * blen (a + b) * fs.length := by
  induction fs with
  | nil => simp
  | cons f r ih =>
    rw [List.flatMap_cons, List.length_append, ih fun l hl => hp l (by simp [hl]), length_nearP a b (hp f (by simp)).len, List.length_cons, Nat.mul_add]
    omega
theorem polysL_near (a b : Nat) (h0 : 0 < a + b) (fs : List (List Int)) (h : Lays a b fs) (rest : List B8) : polysL (blen (a + b)) b (fs.flatMap (nearP a b) ++ rest) fs.length = fs := by
  refine List.ext_getElem (by rw [length_polysL]) fun i h1 h2 => ?_
  have e0 : (polysL (blen (a + b)) b (fs.flatMap (nearP a b) ++ rest) fs.length)[i] = farOf (blen (a + b)) b (((fs.flatMap (nearP a b) ++ rest).drop (32 * blen (a + b) * i)).take (32 * blen (a + b))) := by simp [polysL]
  rw [e0]
  have hfi : fs[i] ∈ fs := List.getElem_mem h2
  have e : fs.flatMap (nearP a b) ++ rest = (fs.take i).flatMap (nearP a b) ++ (nearP a b fs[i] ++ ((fs.drop (i + 1)).flatMap (nearP a b) ++ rest)) := by
    conv => lhs; rw [← List.take_append_drop i fs, List.drop_eq_getElem_cons h2, List.flatMap_append, List.flatMap_cons]
    rw [List.append_assoc, List.append_assoc]
  have hl := flatMap_len a b (fs.take i) fun l hl => h.pos l (List.mem_of_mem_take hl)
  rw [List.length_take, Nat.min_eq_left (by omega)] at hl
  rw [e, ← hl, List.drop_left, ← length_nearP a b (h.pos _ hfi).len, List.take_left]
  exact far_nearP a b h0 (h.pos _ hfi) (h.rng _ hfi)
theorem drop_near (a b : Nat) (fs : List (List Int)) (hp : Pos fs) (rest : List B8) (n : Nat) (hn : n = 32 * blen (a + b) * fs.length) : (fs.flatMap (nearP a b) ++ rest).drop n = rest := by
  rw [hn, ← flatMap_len a b fs hp, List.drop_left]
theorem foldl_norm_le {ls : List (List Int)} {t b : Int} (ht : t ≤ b) (h : ∀ l ∈ ls, ∀ x ∈ l, nrm x ≤ b) : ls.foldl norm1 t ≤ b := by
  induction ls generalizing t with
  | nil => exact ht
  | cons l r ih => exact ih (norm1_le ht (h l (by simp))) fun m hm => h m (by simp [hm])
/-- a signing key that was made, as it is read -/
theorem read_made {s : LayS} (hs : GoodS s) (g : List B8) (hg : g.length = 128) :
    (skG s g).take 32 = g.take 32 ∧ s1R s (skG s g) = s1Of s g ∧ s2R s (skG s g) = s2Of s g ∧ t0R s (skG s g) = lowsL (tOf s (g.take 32) (s1Of s g) (s2Of s g)) ∧ (skG s g).length = skN s ∧
      ((skG s g).drop 32).take 32 = g.drop 96 ∧ ((skG s g).drop 64).take 64 = spOut 136 31 (vkG s g) 64 := by
  have hl2 : ((g.drop 32).take 64).length = 64 := by rw [List.length_take, List.length_drop]; omega
  have hk8 := hs.k
  have hl7 := hs.l
  have q1 := smalls_lays hs hl2 (from_ := 0) (many := s.l) (by omega)
  have q2 := smalls_lays hs hl2 (from_ := s.l) (many := s.k) (by omega)
  have n1 : (s1Of s g).length = s.l := by unfold s1Of; simp [smallsL]
  have n2 : (s2Of s g).length = s.k := by unfold s2Of; simp [smallsL]
  change Lays s.eta s.eta (s1Of s g) ∧ Pos (s1Of s g) at q1
  change Lays s.eta s.eta (s2Of s g) ∧ Pos (s2Of s g) at q2
  have pt : Pos (tOf s (g.take 32) (s1Of s g) (s2Of s g)) := plusL_pos _ _
  have nt : (tOf s (g.take 32) (s1Of s g) (s2Of s g)).length = s.k := by unfold tOf plusL; rw [length_eachL]; unfold applyL; rw [List.length_map, length_matL]
  have pl := lows_lays pt
  have nl : (lowsL (tOf s (g.take 32) (s1Of s g) (s2Of s g))).length = s.k := (length_eachL _ _).trans nt
  have he0 : 0 < s.eta + s.eta := by rcases hs.eta with h | h <;> omega
  have hw := wid_eta hs
  have hR := spOut_len 136 31 (vkG s g) 64 (by omega)
  rw [show ((64 : Nat) : Int) = 64 from rfl] at hR
  have eS : skG s g = g.take 32 ++ (g.drop 96 ++ (spOut 136 31 (vkG s g) 64 ++ ((s1Of s g).flatMap (nearP s.eta s.eta) ++ ((s2Of s g).flatMap (nearP s.eta s.eta) ++ (lowsL (tOf s (g.take 32) (s1Of s g) (s2Of s g))).flatMap (nearP 4095 4096))))) := by
    unfold skG skTail
    rw [List.flatMap_append, List.append_assoc, List.append_assoc, List.append_assoc]
  generalize spOut 136 31 (vkG s g) 64 = R at *
  generalize lowsL (tOf s (g.take 32) (s1Of s g) (s2Of s g)) = T0 at *
  generalize s1Of s g = S1 at *
  generalize s2Of s g = S2 at *
  generalize skG s g = K at *
  have lr : (g.take 32).length = 32 := by rw [List.length_take]; omega
  have lk : (g.drop 96).length = 32 := by rw [List.length_drop]; omega
  generalize g.take 32 = A at *
  generalize g.drop 96 = B at *
  have d32 : K.drop 32 = B ++ (R ++ (S1.flatMap (nearP s.eta s.eta) ++ (S2.flatMap (nearP s.eta s.eta) ++ T0.flatMap (nearP 4095 4096)))) := by rw [eS, ← lr, List.drop_left]
  have d64 : K.drop 64 = R ++ (S1.flatMap (nearP s.eta s.eta) ++ (S2.flatMap (nearP s.eta s.eta) ++ T0.flatMap (nearP 4095 4096))) := by rw [show 64 = 32 + 32 from rfl, ← List.drop_drop, d32, ← lk, List.drop_left]
  have d128 : K.drop 128 = S1.flatMap (nearP s.eta s.eta) ++ (S2.flatMap (nearP s.eta s.eta) ++ T0.flatMap (nearP 4095 4096)) := by rw [show 128 = 64 + 64 from rfl, ← List.drop_drop, d64]; conv => lhs; rw [← hR, List.drop_left]
  have e1 : (K.drop 128).drop (32 * wid s * s.l) = S2.flatMap (nearP s.eta s.eta) ++ T0.flatMap (nearP 4095 4096) := by rw [d128]; exact drop_near _ _ _ q1.2 _ _ (by rw [hw, n1])
  have e2 : ((K.drop 128).drop (32 * wid s * s.l)).drop (32 * wid s * s.k) = T0.flatMap (nearP 4095 4096) := by rw [e1]; exact drop_near _ _ _ q2.2 _ _ (by rw [hw, n2])
  refine ⟨by rw [eS, ← lr, List.take_left], ?_, ?_, ?_, ?_, ?_, ?_⟩
  · unfold s1R; rw [d128, ← hw, ← n1]; exact polysL_near _ _ he0 _ q1.1 _
  · unfold s2R; rw [e1, ← hw, ← n2]; exact polysL_near _ _ he0 _ q2.1 _
  · unfold t0R; rw [e2, ← wid_13, ← nl]
    have := polysL_near 4095 4096 (by omega) T0 pl []
    rwa [List.append_nil] at this
  · rw [eS]
    simp only [List.length_append]
    rw [flatMap_len _ _ _ q1.2, flatMap_len _ _ _ q2.2, flatMap_len _ _ _ pl.pos, hw, wid_13, n1, n2, nl, lr, lk, hR]
    unfold skN; omega
  · rw [d32]; conv => lhs; rw [← lk, List.take_left]
  · rw [d64]; conv => lhs; rw [← hR, List.take_left]
theorem made_lean {s : LayS} (hs : GoodS s) (g : List B8) (hg : g.length = 128) : leanB s (s1Of s g) (s2Of s g) = true := by
  have hl2 : ((g.drop 32).take 64).length = 64 := by rw [List.length_take, List.length_drop]; omega
  have hk8 := hs.k
  have hl7 := hs.l
  have he : 0 ≤ (s.eta : Int) := by omega
  have q1 := smalls_pos hs.eta hl2 (from_ := 0) (many := s.l) (by omega)
  have q2 := smalls_pos hs.eta hl2 (from_ := s.l) (many := s.k) (by omega)
  have b1 : normL (s1Of s g) ≤ (s.eta : Int) := foldl_norm_le he fun l hl x hx => ((q1 l hl).2 x hx).nrm he
  have b2 : normL (s2Of s g) ≤ (s.eta : Int) := foldl_norm_le he fun l hl x hx => ((q2 l hl).2 x hx).nrm he
  unfold leanB
  exact decide_eq_true (by omega)
theorem seedAll_len (s : LayS) (seed : List B8) : (seedAll s seed).length = 128 := by unfold seedAll; exact spOut_len 136 31 _ 128 (by omega)
theorem keyC_zero {set : Int} {n : Nat} (h : keyC set n = 0) : isSet set = true ∧ n = 32 := by
  unfold keyC at h
  split at h
  · rename_i h1
    split at h
    · rename_i h2; exact ⟨h1, h2⟩
    · exact absurd h (by decide)
  · exact absurd h (by decide)
end Go.Proofs.YtdnhoebcomffoaaGreatDoor
end
section
set_option linter.unusedVariables false
set_option linter.unusedSimpArgs false
/- THE STATEMENT ON BROKEN KEYS: signing keys by hand. -/
namespace Go.Proofs.YtdnhoebcomffoaaGreatDoor
open Go Go.Ev
set_option maxRecDepth 20000
set_option linter.unusedVariables false
theorem hintB_len {s : LayS} {fs : List (List Int)} (h : hintC s fs = 0) : (hintB s fs).length = s.omega + fs.length := by
  have e : (plc fs fs.length).length ≤ s.omega := by
    by_cases h1 : (plc fs fs.length).length ≤ s.omega
    · exact h1
    · unfold hintC at h; rw [if_neg h1] at h; exact absurd h (by decide)
  unfold hintB endsL
  rw [List.length_append, List.length_append, List.length_replicate, List.length_map, List.length_range]
  omega
theorem okT_hint {s : LayS} {Z X T H : List (List Int)} (h : okT s Z X T H = true) : normL Z < (s.g1 : Int) - s.beta ∧ lowN s.g2 X < (s.g2 : Int) - s.beta ∧ normL T < (s.g2 : Int) ∧ hintC s H = 0 := by
  unfold okT at h
  simp only [Bool.and_eq_true, decide_eq_true_eq] at h
  exact h
theorem Tn.Z_len (t : Tn) (n : Nat) : (t.Z n).length = t.s.l := by
  unfold Tn.Z plusL
  rw [length_eachL]
  unfold Tn.Y yL
  simp
theorem Tn.H_len (t : Tn) (n : Nat) : (t.H n).length = t.A.length := by
  unfold Tn.H hntsL
  rw [length_eachL]
  unfold Tn.X lessL
  rw [length_eachL]
  unfold Tn.W applyL
  rw [List.length_map]
theorem Tn.CH_len (t : Tn) (n : Nat) (hc : t.s.c ≤ 64) : (t.CH n).length = t.s.c := by unfold Tn.CH; exact spOut_len 136 31 _ _ (by omega)
theorem Tn.sig_len (t : Tn) (n : Nat) (hc : t.s.c ≤ 64) (h : t.ok n = true) : (t.sig n).length = t.s.c + 32 * blen (t.s.g1 - 1 + t.s.g1) * t.s.l + (t.s.omega + t.A.length) := by
  have hh := (okT_hint h).2.2.2
  unfold Tn.sig sigB
  rw [List.length_append, List.length_append, near_flat_len _ _ (t.Z n) (plusL_pos _ _), hintB_len hh, Tn.H_len, Tn.CH_len t n hc]
  rw [Tn.Z_len]
theorem Tn.find_ok {t : Tn} {i : Nat} (h : t.find = some i) : i < 500 ∧ t.ok (i * t.s.l) = true := by
  unfold Tn.find at h
  have h1 := List.find?_some h
  have h2 := List.mem_of_find?_eq_some h
  exact ⟨List.mem_range.1 h2, h1⟩
theorem sgC_zero {set : Int} {l note m rnd : List B8} (h : sgC set l note m rnd = 0) : openC set l.length = 0 ∧ (rnd.length = 32 ∧ note.length ≤ 255) ∧ leanB (layS set) (s1R (layS set) l) (s2R (layS set) l) = true ∧ ∃ i, (tnOf set l note m rnd).find = some i := by
  unfold sgC at h
  split at h
  · rename_i h1
    split at h
    · rename_i h2
      split at h
      · rename_i h3
        split at h
        · rename_i h4
          exact ⟨h1, h2, h3, Option.isSome_iff_exists.1 h4⟩
        · exact absurd h (by decide)
      · exact absurd h (by decide)
    · exact absurd h (by decide)
  · rename_i h1
    exact absurd h h1
theorem sgL_len (set : Int) (l note m rnd : List B8) : (sgL set l note m rnd).length ≤ 100000 := by
  unfold sgL
  split
  · rename_i h
    obtain ⟨h1, -, -, i, hi⟩ := sgC_zero h
    obtain ⟨his, -⟩ := opened_of h1
    obtain ⟨-, hok⟩ := Tn.find_ok hi
    have hG := goodS his
    have hX := goodX his
    have hk8 := hG.k
    have hl7 := hG.l
    have hc := hG.c
    have hom := hX.omega
    have hg : (layS set).g1 ≤ 524288 := by rcases hX.g1 with h | h <;> omega
    rw [hi, Option.getD_some]
    change (tnOf set l note m rnd).ok (i * (layS set).l) = true at hok
    rw [Tn.sig_len _ _ hc hok]
    change (layS set).c + 32 * blen ((layS set).g1 - 1 + (layS set).g1) * (layS set).l + ((layS set).omega + (matL (layS set).k (layS set).l (l.take 32)).length) ≤ 100000
    rw [length_matL]
    have h20 : blen ((layS set).g1 - 1 + (layS set).g1) ≤ 24 := blen_le24 _ (by omega)
    have : 32 * blen ((layS set).g1 - 1 + (layS set).g1) * (layS set).l ≤ 32 * blen ((layS set).g1 - 1 + (layS set).g1) * 7 := Nat.mul_le_mul_left _ hl7
    omega
  · exact Nat.zero_le _
end Go.Proofs.YtdnhoebcomffoaaGreatDoor
end
section
set_option linter.unusedVariables false
set_option linter.unusedSimpArgs false
/- WHY WHAT WAS SIGNED IS TAKEN: the verifying key's part, and all together. -/
namespace Go.Proofs.YtdnhoebcomffoaaGreatDoor
open Go Go.Ev
set_option maxRecDepth 20000
set_option linter.unusedVariables false
/-- the verifying key's polys, as they are verified -/
def eightL (fs : List (List Int)) : List (List Int) := mappedL (fun x => x * 8192) fs
theorem getD_mapI (f : Int → Int) (l : List Int) {i : Nat} (h : i < l.length) : (l.map f).getD i 0 = f (l.getD i 0) := by
  rw [List.getD_eq_getElem?_getD, List.getElem?_map, List.getD_eq_getElem?_getD, List.getElem?_eq_getElem h]; rfl
theorem split_sum {t : List Int} (ht : Po t) : addP ((t.map splH).map fun x => x * 8192) (t.map fun x => splL x % 8380417) = t := by
  have hl := ht.len
  refine ext256 (addP_po _ _).len hl fun i hi => ?_
  have e : (addP ((t.map splH).map fun x => x * 8192) (t.map fun x => splL x % 8380417)).getD i 0 = (((t.map splH).map fun x => x * 8192).getD i 0 + (t.map fun x => splL x % 8380417).getD i 0) % 8380417 := getD_tab _ hi
  rw [e, getD_mapI _ _ (by rw [List.length_map, hl]; exact hi), getD_mapI _ _ (by rw [hl]; exact hi), getD_mapI _ _ (by rw [hl]; exact hi), (spl_sum _).1]
  have := ht.get hi
  omega
theorem split_rows (ts : List (List Int)) (hp : Pos ts) (r : Nat) (hr : r < ts.length) : ts.getD r [] = addP ((eightL (highsL ts)).getD r []) ((lowsL ts).getD r []) := by
  have h1 : (eightL (highsL ts)).getD r [] = ((ts.getD r []).map splH).map fun x => x * 8192 := by
    have e1 : (eightL (highsL ts)).getD r [] = ((highsL ts).getD r []).map fun x => x * 8192 := getD_eachL _ _ (by rw [show (highsL ts).length = ts.length from length_eachL _ _]; exact hr)
    have e2 : (highsL ts).getD r [] = (ts.getD r []).map splH := getD_eachL _ _ hr
    rw [e1, e2]
  have h2 : (lowsL ts).getD r [] = (ts.getD r []).map fun x => splL x % 8380417 := getD_eachL _ _ hr
  rw [h1, h2, split_sum (hp.get hr)]
theorem beta_eq {set : Int} (h : isSet set = true) : (layS set).eta * (layS set).tau = (layS set).beta ∧ (layS set).tau ≤ 64 ∧ (layS set).eta ≤ 4 := by
  unfold isSet at h
  simp only [Bool.or_eq_true, decide_eq_true_eq] at h
  rcases h with rfl | rfl | rfl <;> decide
/-- what Verify makes of a signature is what was signed -/
theorem taken_made {set : Int} {F note m rnd : List B8} {N : Nat} (h : keyC set F.length = 0) (hok : (tnOf set (skL set F) note m rnd).ok N = true) :
    useL (layS set).g2 ((tnOf set (skL set F) note m rnd).H N) (lessL (applyL (tnOf set (skL set F) note m rnd).A ((tnOf set (skL set F) note m rnd).Z N)) (scaledL ((tnOf set (skL set F) note m rnd).B N) (eightL (highsL (tOf (layS set) ((seedAll (layS set) F).take 32) (s1Of (layS set) (seedAll (layS set) F)) (s2Of (layS set) (seedAll (layS set) F)))))))
      = mappedL (prtH (layS set).g2) ((tnOf set (skL set F) note m rnd).W N) := by
  obtain ⟨his, -⟩ := keyC_zero h
  have hG := goodS his
  have hX := goodX his
  have hg := seedAll_len (layS set) F
  have eK : skL set F = skG (layS set) (seedAll (layS set) F) := by unfold skL; rw [if_pos h]
  have hk8 := hG.k
  have hl7 := hG.l
  obtain ⟨be, bt, bet⟩ := beta_eq his
  obtain ⟨r1, r2, r3, r4, -, -, -⟩ := read_made hG (seedAll (layS set) F) hg
  have hl2 : (((seedAll (layS set) F).drop 32).take 64).length = 64 := by rw [List.length_take, List.length_drop]; omega
  have q2 := smalls_pos hG.eta hl2 (from_ := (layS set).l) (many := (layS set).k) (by omega)
  have l32 : ((seedAll (layS set) F).take 32).length = 32 := by rw [List.length_take]; omega
  have hcb : ∀ n, ballC set ((tnOf set (skL set F) note m rnd).CH n).length = 0 := fun n => by rw [Tn.CH_len _ _ hG.c]; exact ballC_of his
  have es : (tnOf set (skL set F) note m rnd).s = layS set := rfl
  have eset : (tnOf set (skL set F) note m rnd).set = set := rfl
  have eA : (tnOf set (skL set F) note m rnd).A = matL (layS set).k (layS set).l ((seedAll (layS set) F).take 32) := by
    show matL _ _ ((skL set F).take 32) = _
    rw [eK, r1]
  have e1 : (tnOf set (skL set F) note m rnd).s1 = s1Of (layS set) (seedAll (layS set) F) := by
    show s1R _ (skL set F) = _
    rw [eK, r2]
  have e2 : (tnOf set (skL set F) note m rnd).s2 = s2Of (layS set) (seedAll (layS set) F) := by
    show s2R _ (skL set F) = _
    rw [eK, r3]
  have e0 : (tnOf set (skL set F) note m rnd).t0 = lowsL (tOf (layS set) ((seedAll (layS set) F).take 32) (s1Of (layS set) (seedAll (layS set) F)) (s2Of (layS set) (seedAll (layS set) F))) := by
    show t0R _ (skL set F) = _
    rw [eK, r4]
  have hok2 := okT_hint hok
  rw [es] at hok2
  have hg0 : 0 < ((layS set).g2 : Int) ∧ ((layS set).g2 : Int) ≤ 261888 ∧ 95232 ≤ ((layS set).g2 : Int) := by rcases hX.g2 with h | h <;> omega
  have hbe := hX.beta
  have n1 : (s1Of (layS set) (seedAll (layS set) F)).length = (layS set).l := by unfold s1Of; simp [smallsL]
  have n2 : (s2Of (layS set) (seedAll (layS set) F)).length = (layS set).k := by unfold s2Of; simp [smallsL]
  have et : tOf (layS set) ((seedAll (layS set) F).take 32) (s1Of (layS set) (seedAll (layS set) F)) (s2Of (layS set) (seedAll (layS set) F)) = plusL (applyL (matL (layS set).k (layS set).l ((seedAll (layS set) F).take 32)) (s1Of (layS set) (seedAll (layS set) F))) (s2Of (layS set) (seedAll (layS set) F)) := rfl
  change ∀ l ∈ s2Of (layS set) (seedAll (layS set) F), Po l ∧ ∀ x ∈ l, Nr _ x at q2
  generalize tnOf set (skL set F) note m rnd = t at *
  have hrows := matL_rows (k := (layS set).k) (l := (layS set).l) l32
  have hAl : (matL (layS set).k (layS set).l ((seedAll (layS set) F).take 32)).length = (layS set).k := length_matL _ _ _
  have pt : Pos (tOf (layS set) ((seedAll (layS set) F).take 32) (s1Of (layS set) (seedAll (layS set) F)) (s2Of (layS set) (seedAll (layS set) F))) := plusL_pos _ _
  have nt : (tOf (layS set) ((seedAll (layS set) F).take 32) (s1Of (layS set) (seedAll (layS set) F)) (s2Of (layS set) (seedAll (layS set) F))).length = (layS set).k := by rw [et]; unfold plusL; rw [length_eachL]; unfold applyL; rw [List.length_map, hAl]
  generalize tOf (layS set) ((seedAll (layS set) F).take 32) (s1Of (layS set) (seedAll (layS set) F)) (s2Of (layS set) (seedAll (layS set) F)) = T at *
  generalize s1Of (layS set) (seedAll (layS set) F) = S1 at *
  generalize s2Of (layS set) (seedAll (layS set) F) = S2 at *
  generalize matL (layS set).k (layS set).l ((seedAll (layS set) F).take 32) = A at *
  have nY : (t.Y N).length = (layS set).l := by unfold Tn.Y yL; rw [List.length_map, List.length_range, es]
  obtain ⟨ok1, ok2, ok3, -⟩ := hok2
  change lowN _ (lessL (applyL t.A (t.Y N)) (scaledL (t.B N) t.s2)) < _ at ok2
  change normL (scaledL (t.B N) t.t0) < _ at ok3
  have hball := ballL_okay (hcb N)
  have hB : t.B N = ballL set (t.CH N) := by rw [← eset]; rfl
  rw [← hB] at hball
  show useL (layS set).g2 (hntsL t.s.g2 (lessL (applyL t.A (t.Y N)) (scaledL (t.B N) t.s2)) (scaledL (t.B N) t.t0)) (lessL (applyL t.A (plusL (t.Y N) (scaledL (t.B N) t.s1))) (scaledL (t.B N) (eightL (highsL T)))) = mappedL (prtH (layS set).g2) (applyL t.A (t.Y N))
  rw [es, eA, e1, e2, e0]
  rw [eA, e2] at ok2
  rw [e0] at ok3
  have lh : (eightL (highsL T)).length = T.length := (length_eachL _ _).trans (length_eachL _ _)
  have ll : (lowsL T).length = T.length := length_eachL _ _
  refine taken_rows hX.g2 (beta := ((layS set).beta : Int)) ⟨by omega, by omega⟩ A (t.Y N) S1 S2 (eightL (highsL T)) (lowsL T) (t.B N) (fun r hr => by rw [nY]; exact (hrows r hr).1) (by omega) (by omega) (by omega) (by omega) (fun r hr => ?_) (fun r hr x hx => ?_) ok2 ok3
  · rw [← et]
    exact split_rows T pt r (by omega)
  · rw [getD_scaledL _ _ (by omega)] at hx
    obtain ⟨p2, p3⟩ := q2 _ (mem_getD (i := r) (by omega) [])
    have := (ball_times hball.1 hball.2.1 hball.2.2 p2 p3 bet bt x hx).nrm (by omega)
    rw [be] at this
    exact this
end Go.Proofs.YtdnhoebcomffoaaGreatDoor
end
section
set_option linter.unusedVariables false
set_option linter.unusedSimpArgs false
/- THE STATEMENT ON PARTS: what stands where in keys and signatures. -/
namespace Go.Proofs.YtdnhoebcomffoaaGreatDoor
open Go Go.Ev
set_option maxRecDepth 20000
set_option linter.unusedVariables false
/-- keys that were made, part by part -/
theorem parts_made {set : Int} {F : List B8} (h : keyC set F.length = 0) : (vkL set F).length = 32 + 320 * (layS set).k ∧ (skL set F).length = skN (layS set) ∧ (skL set F).take 32 = (vkL set F).take 32 ∧ ((skL set F).drop 64).take 64 = spOut 136 31 (vkL set F) 64 ∧
    leanB (layS set) (s1R (layS set) (skL set F)) (s2R (layS set) (skL set F)) = true := by
  obtain ⟨his, -⟩ := keyC_zero h
  have hG := goodS his
  have hg := seedAll_len (layS set) F
  have eK : skL set F = skG (layS set) (seedAll (layS set) F) := by unfold skL; rw [if_pos h]
  have eV : vkL set F = vkG (layS set) (seedAll (layS set) F) := by unfold vkL; rw [if_pos h]
  rw [eK, eV]
  generalize seedAll (layS set) F = g at *
  generalize layS set = s at *
  obtain ⟨r1, r2, r3, -, r5, -, r7⟩ := read_made hG g hg
  have hlean := made_lean hG g hg
  have pt : Pos (tOf s (g.take 32) (s1Of s g) (s2Of s g)) := plusL_pos _ _
  have nt : (tOf s (g.take 32) (s1Of s g) (s2Of s g)).length = s.k := by unfold tOf plusL; rw [length_eachL]; unfold applyL; rw [List.length_map, length_matL]
  have h1 := length_flatMap_pack (highsL (tOf s (g.take 32) (s1Of s g) (s2Of s g))) (highs_ten pt).len
  have nh : (highsL (tOf s (g.take 32) (s1Of s g) (s2Of s g))).length = s.k := (length_eachL _ _).trans nt
  have l32 : (g.take 32).length = 32 := by rw [List.length_take]; omega
  have eW : vkG s g = g.take 32 ++ (highsL (tOf s (g.take 32) (s1Of s g) (s2Of s g))).flatMap (packL 10) := by unfold vkG vkOf pubL; rfl
  refine ⟨by rw [eW, List.length_append, h1, nh, l32], r5, ?_, r7, by rw [r2, r3]; exact hlean⟩
  rw [r1, eW]
  exact (List.take_left' l32).symm
end Go.Proofs.YtdnhoebcomffoaaGreatDoor
end
section
set_option linter.unusedVariables false
set_option linter.unusedSimpArgs false
/- WHAT Verify ANSWERS, as a function; what was signed it takes. -/
namespace Go.Proofs.YtdnhoebcomffoaaGreatDoor
open Go Go.Ev
set_option maxRecDepth 20000
set_option linter.unusedVariables false
def vZ (s : LayS) (sig : List B8) : List (List Int) := polysL (maskD s) s.g1 (sig.drop s.c) s.l
def vB (s : LayS) (sig : List B8) : List B8 := (sig.drop s.c).drop (32 * maskD s * s.l)
def vT1 (s : LayS) (vk : List B8) : List (List Int) := (List.range s.k).map fun r => (unpack 10 (((vk.drop 32).drop (320 * r)).take 320)).map fun x => x * 8192
def vW (set : Int) (s : LayS) (vk sig : List B8) : List (List Int) := lessL (applyL (matL s.k s.l (vk.take 32)) (vZ s sig)) (scaledL (ballL set (sig.take s.c)) (vT1 s vk))
@[irreducible] def vCH (set : Int) (s : LayS) (vk note m sig : List B8) : List B8 := spOut 136 31 (muL (spOut 136 31 vk 64) note m ++ highB s.g2 (useL s.g2 (unL (vB s sig) s.omega s.k) (vW set s vk sig))) (s.c : Int)
open Classical in
noncomputable def verC (set : Int) (vk note m sig : List B8) : Int :=
  if isSet set = true then
    (if vk.length = vkS set ∧ sig.length = sgS set ∧ note.length ≤ 255 then
      (if uAll (vB (layS set) sig) (layS set).omega (layS set).k then
        (if normL (vZ (layS set) sig) < ((layS set).g1 : Int) - (layS set).beta ∧ vCH set (layS set) vk note m sig = sig.take (layS set).c then 0 else 7)
      else 4)
    else 3)
  else 2
theorem sig_back {set : Int} (his : isSet set = true) (t : Tn) (es : t.s = layS set) (hA : t.A.length = (layS set).k) {N : Nat} (hok : t.ok N = true) :
    (t.sig N).length = sgS set ∧ (t.sig N).take (layS set).c = t.CH N ∧ vZ (layS set) (t.sig N) = t.Z N ∧ vB (layS set) (t.sig N) = hintB (layS set) (t.H N) := by
  obtain ⟨-, -, z3⟩ := sizes_eq his
  have hG := goodS his
  have hX := goodX his
  have hg1 := goodG1 his
  have hbl := blen_g hg1
  have hg : (layS set).g1 ≤ 524288 ∧ 1 ≤ (layS set).g1 := by rcases hX.g1 with h | h <;> omega
  have hc : t.s.c ≤ 64 := by rw [es]; exact hG.c
  have hlen := Tn.sig_len t N hc hok
  have hZ := Tn.Z_len t N
  have hCH := Tn.CH_len t N hc
  have hok2 := okT_hint hok
  have pZ : Pos (t.Z N) := plusL_pos _ _
  rw [es] at hlen hZ hCH hok2
  rw [hbl, hA] at hlen
  have hsig : t.sig N = t.CH N ++ ((t.Z N).flatMap (nearP ((layS set).g1 - 1) (layS set).g1) ++ hintB (layS set) (t.H N)) := by
    rw [← es, ← List.append_assoc]; rfl
  have hLy := lays_of_norm hg.1 pZ (by have := hok2.1; omega)
  have hfl := near_flat_len ((layS set).g1 - 1) (layS set).g1 (t.Z N) pZ
  rw [hbl, hZ] at hfl
  have hd : (t.sig N).drop (layS set).c = (t.Z N).flatMap (nearP ((layS set).g1 - 1) (layS set).g1) ++ hintB (layS set) (t.H N) := by
    rw [hsig]; exact List.drop_left' hCH
  have hcm : 32 * (layS set).l * maskD (layS set) = 32 * maskD (layS set) * (layS set).l := Nat.mul_right_comm _ _ _
  refine ⟨by rw [hlen, ← z3, hcm]; omega, by rw [hsig]; exact List.take_left' hCH, ?_, ?_⟩
  · unfold vZ
    rw [hd, ← hbl, ← hZ]
    exact polysL_near _ _ (by omega) _ hLy _
  · unfold vB
    rw [hd]
    exact List.drop_left' hfl
theorem chunks_back (fs : List (List Int)) (ht : Ten fs) {r : Nat} (hr : r < fs.length) : unpack 10 (((fs.flatMap (packL 10)).drop (320 * r)).take 320) = fs.getD r [] := by
  have hg : fs.getD r [] = fs[r] := by rw [List.getD_eq_getElem?_getD, List.getElem?_eq_getElem hr]; rfl
  have hm : fs[r] ∈ fs := List.getElem_mem hr
  have e : fs.flatMap (packL 10) = (fs.take r).flatMap (packL 10) ++ (packL 10 fs[r] ++ (fs.drop (r + 1)).flatMap (packL 10)) := by
    conv => lhs; rw [← List.take_append_drop r fs, List.drop_eq_getElem_cons hr, List.flatMap_append, List.flatMap_cons]
  have hl := length_flatMap_pack (fs.take r) fun l hl => ht.len l (List.mem_of_mem_take hl)
  rw [List.length_take, Nat.min_eq_left (by omega)] at hl
  have hp : (packL 10 fs[r]).length = 320 := by rw [length_packL, ht.len _ hm]
  rw [e, List.drop_left' hl, List.take_left' hp, hg]
  exact unpack_pack 10 320 (by omega) _ (ht.dig _ hm) (by rw [ht.len _ hm])
theorem key_back {set : Int} {F : List B8} (h : keyC set F.length = 0) : vT1 (layS set) (vkL set F) = eightL (highsL (tOf (layS set) ((seedAll (layS set) F).take 32) (s1Of (layS set) (seedAll (layS set) F)) (s2Of (layS set) (seedAll (layS set) F)))) := by
  have hg := seedAll_len (layS set) F
  have eV : vkL set F = vkG (layS set) (seedAll (layS set) F) := by unfold vkL; rw [if_pos h]
  have l32 : ((seedAll (layS set) F).take 32).length = 32 := by rw [List.length_take]; omega
  have eW : vkG (layS set) (seedAll (layS set) F) = (seedAll (layS set) F).take 32 ++ (highsL (tOf (layS set) ((seedAll (layS set) F).take 32) (s1Of (layS set) (seedAll (layS set) F)) (s2Of (layS set) (seedAll (layS set) F)))).flatMap (packL 10) := by unfold vkG vkOf pubL; rfl
  have pt : Pos (tOf (layS set) ((seedAll (layS set) F).take 32) (s1Of (layS set) (seedAll (layS set) F)) (s2Of (layS set) (seedAll (layS set) F))) := plusL_pos _ _
  have nt : (tOf (layS set) ((seedAll (layS set) F).take 32) (s1Of (layS set) (seedAll (layS set) F)) (s2Of (layS set) (seedAll (layS set) F))).length = (layS set).k := by unfold tOf plusL; rw [length_eachL]; unfold applyL; rw [List.length_map, length_matL]
  have ht := highs_ten pt
  have nh : (highsL (tOf (layS set) ((seedAll (layS set) F).take 32) (s1Of (layS set) (seedAll (layS set) F)) (s2Of (layS set) (seedAll (layS set) F)))).length = (layS set).k := (length_eachL _ _).trans nt
  rw [eV, eW]
  generalize tOf (layS set) ((seedAll (layS set) F).take 32) (s1Of (layS set) (seedAll (layS set) F)) (s2Of (layS set) (seedAll (layS set) F)) = T at *
  unfold vT1
  rw [List.drop_left' l32]
  have e1 : eightL (highsL T) = (List.range (layS set).k).map fun r => ((highsL T).getD r []).map fun x => x * 8192 := by
    rw [← nh]; rfl
  rw [e1]
  refine List.map_congr_left fun r hr => ?_
  have hr := List.mem_range.1 hr
  rw [chunks_back _ ht (by omega)]
/-- WHAT WAS SIGNED IS TAKEN -/
theorem signed_taken {set : Int} {F note m rnd : List B8} (h : keyC set F.length = 0) (hs : sgC set (skL set F) note m rnd = 0) : verC set (vkL set F) note m (sgL set (skL set F) note m rnd) = 0 := by
  obtain ⟨h1, ⟨-, hn⟩, -, i, hi⟩ := sgC_zero hs
  obtain ⟨his, -⟩ := opened_of h1
  have hG := goodS his
  have hX := goodX his
  obtain ⟨q1, -, q3, q4, -⟩ := parts_made h
  have hok := (Tn.find_ok hi).2
  have hSL : sgL set (skL set F) note m rnd = (tnOf set (skL set F) note m rnd).sig (i * (layS set).l) := by unfold sgL; rw [if_pos hs, hi, Option.getD_some]
  rw [hSL]
  change (tnOf set (skL set F) note m rnd).ok (i * (layS set).l) = true at hok
  generalize i * (layS set).l = N at *
  have eA : (tnOf set (skL set F) note m rnd).A.length = (layS set).k := length_matL _ _ _
  obtain ⟨b1, b2, b3, b4⟩ := sig_back his (tnOf set (skL set F) note m rnd) rfl eA hok
  have hk := key_back h
  have htk := taken_made (note := note) (m := m) (rnd := rnd) h hok
  have hok2 := okT_hint hok
  have hHl : ((tnOf set (skL set F) note m rnd).H N).length = (layS set).k := (Tn.H_len _ _).trans eA
  have hall := hint_good (s := layS set) (fs := (tnOf set (skL set F) note m rnd).H N) hX.omega hok2.2.2.2
  have hback := hint_back (s := layS set) (fs := (tnOf set (skL set F) note m rnd).H N) hX.omega hok2.2.2.2 (hnts_below (lessL_pos _ _))
  rw [hHl] at hall hback
  have hvk : (vkL set F).length = vkS set := by rw [q1]; exact (sizes_eq his).1
  unfold verC
  rw [if_pos his, if_pos ⟨hvk, b1, hn⟩, if_pos (by rw [b4]; exact hall)]
  refine if_pos ⟨by rw [b3]; exact hok2.1, ?_⟩
  have eW : vW set (layS set) (vkL set F) ((tnOf set (skL set F) note m rnd).sig N) = lessL (applyL (tnOf set (skL set F) note m rnd).A ((tnOf set (skL set F) note m rnd).Z N)) (scaledL ((tnOf set (skL set F) note m rnd).B N) (eightL (highsL (tOf (layS set) ((seedAll (layS set) F).take 32) (s1Of (layS set) (seedAll (layS set) F)) (s2Of (layS set) (seedAll (layS set) F)))))) := by
    unfold vW
    rw [b2, b3, hk, ← q3]
    rfl
  unfold vCH
  rw [b2, b4, hback, eW, htk, ← q4]
  unfold Tn.CH
  have em : (tnOf set (skL set F) note m rnd).mu = muL (((skL set F).drop 64).take 64) note m := by
    show mu3 _ _ _ = _
    unfold mu3; rfl
  rw [em]
  rfl
end Go.Proofs.YtdnhoebcomffoaaGreatDoor
end
section
set_option linter.unusedVariables false
set_option linter.unusedSimpArgs false
/- A LOOP OVER A FUNCTION, as it is met by a call that owns parts of memory. -/
namespace Go.Ev
open Go Go.RowKit
set_option linter.unusedVariables false
/-- what is owned within a loop over a function: M and N, and the loop's two blocks -/
def RL (D : Nat) (o : Option Obj) (M N : List Res) : List Res :=
  M ++ (.box [D] (fun V => V.heap[D]? = some (.deferred (some []))) :: .box [D + 1] (fun V => V.heap[D + 1]? = o) :: N)
theorem RL_D (D : Nat) (o : Option Obj) (M N : List Res) : (RL D o M N)[M.length]? = some (.box [D] (fun V => V.heap[D]? = some (.deferred (some [])))) := by
  unfold RL; rw [List.getElem?_append_right (Nat.le_refl _), Nat.sub_self]; rfl
theorem RL_l (D : Nat) (o : Option Obj) (M N : List Res) : (RL D o M N)[M.length + 1]? = some (.box [D + 1] (fun V => V.heap[D + 1]? = o)) := by
  unfold RL; rw [List.getElem?_append_right (by omega), Nat.add_sub_cancel_left]; rfl
theorem RL_set (D : Nat) (o o' : Option Obj) (M N : List Res) : (RL D o M N).set (M.length + 1) (.box [D + 1] (fun V => V.heap[D + 1]? = o')) = RL D o' M N := by
  unfold RL; rw [List.set_append_right _ _ (by omega), Nat.add_sub_cancel_left]; rfl
theorem RL_app (D : Nat) (o : Option Obj) (M N N2 : List Res) : RL D o M N ++ N2 = RL D o M (N ++ N2) := by unfold RL; simp
theorem box_ok {D : Nat} {w : World} {o : Obj} (h : w.heap[D]? = some o) : (Res.box [D] (fun V => V.heap[D]? = some o)).ok w :=
  ⟨fun b hb => by simp only [List.mem_singleton] at hb; subst hb; exact (Array.getElem?_eq_some_iff.1 h).1, fun w' hw => (hw D (by simp)).trans h⟩
theorem Mine.retD {w0 w : World} {S : List Nat} {L : List Res} {D : Nat} (H : Mine w0 S w L) (k : Nat) (hk : L[k]? = some (.box [D] (fun V => V.heap[D]? = some (.deferred (some []))))) {K : World → Prop}
    (h : ∀ w', Mod [D] w w' → Mine w0 S w' (L.set k .no) → K w') : retD D w K := by
  have hD := H.box k hk
  refine ⟨hD, h _ ?_ (H.upd k hk (T := [D]) ?_ (fun b hb => .inl hb) trivial (fun b hb => by cases hb))⟩
  · exact Mod.grown (grown_put w D _)
  · exact Mod.grown (grown_put w D _)
theorem range_of {P : Program} {g : Value} {w w0 : World} {S : List Nat} {L : List Res} {gf : FuncId} {lb : List Value} {A : Type} {enc : A → Value} {S' Sp : List A → Prop} {N : Nat} {round : Value → World → (World → Prop) → (World → Prop) → Prop} {done stop : World → Prop}
    (hg : g = .func (.func gf) #[] ⟨lb⟩) (hb : bodied P gf = true) (caps : List Nat) (hcaps : ∀ b ∈ caps, b < w.heap.size)
    (hseq : ∀ w1, Mod [] w w1 → SeqK P gf lb enc (fun W W' => ∀ b ∈ caps, W'.heap[b]? = W.heap[b]?) (fun _ _ => False) S' Sp N w1)
    (H : Mine w0 S w L) (LI LR : List A → List Res → List Res → Prop) (h0 : ∀ W o, Mine w0 S W (RL w.heap.size o L []) → ∃ M N', LI [] M N' ∧ Mine w0 S W (RL w.heap.size o M N'))
    (hround : ∀ pre x W o M N' K Kr, LI pre M N' → pre.length < N → Mine w0 S W (RL w.heap.size o M N') →
      (∀ W' M' N2, (∀ b ∈ caps, W'.heap[b]? = W.heap[b]?) → LI (pre ++ [x]) M' N2 → Mine w0 S W' (RL w.heap.size o M' N2) → K W') →
      (∀ W' M' N2, LR (pre ++ [x]) M' N2 → Mine w0 S W' (RL w.heap.size o M' N2) → Kr W') → round (enc x) W K Kr)
    (hdone : ∀ xs W o M N', S' xs → LI xs M N' → Mine w0 S W (RL w.heap.size o M N') → done W)
    (hstop : ∀ pre W o M N', Sp pre → LR pre M N' → Mine w0 S W (RL w.heap.size o M N') → stop W) : rangeK P g w round done stop := by
  refine ⟨gf, lb, hg, hb, fun w1 rec hw1 => ?_⟩
  have hm1 : Mod [] w w1 := by rw [hw1]; exact (Mod.alloc [] w _).trans (Mod.alloc [] _ _)
  have hD1 : w1.heap[w.heap.size]? = some (.deferred (some [])) := by
    rw [hw1]; exact (Below.heap_alloc _ _ _ (by simp)).trans (World.alloc_heap_new w _)
  have hl1 : w1.heap[w.heap.size + 1]? = some rec := by
    rw [hw1]; have := World.alloc_heap_new (w.alloc (.deferred (some []))) rec; rwa [World.size_alloc] at this
  have H1 : Mine w0 S w1 (RL w.heap.size (some rec) L []) := by
    have ha := H.push (r := .box [w.heap.size] (fun V => V.heap[w.heap.size]? = some (.deferred (some [])))) (Mod.alloc [] w (.deferred (some []))) (box_ok (World.alloc_heap_new w _)) (fun b hb => by simp only [Res.box, List.mem_singleton] at hb; omega)
    have hb := ha.push (r := .box [w.heap.size + 1] (fun V => V.heap[w.heap.size + 1]? = some rec)) (Mod.alloc [] _ rec) (by rw [← hw1]; exact box_ok hl1) (fun b hb => by simp only [Res.box, List.mem_singleton] at hb; rw [World.size_alloc]; omega)
    rw [← hw1, List.append_assoc] at hb
    exact hb
  have stab : ∀ {LI : List A → List Res → List Res → Prop} pre W W' row, (∃ o M N', LI pre M N' ∧ Mine w0 S W (RL w.heap.size o M N')) → W.grownBy W' row → (∀ r, row = some r → r = w.heap.size + 1 ∨ False) → ∃ o M N', LI pre M N' ∧ Mine w0 S W' (RL w.heap.size o M N') := by
    rintro LI pre W W' row ⟨o, M, N', hL, HM⟩ hg' hr
    have hlt : w.heap.size + 1 < W'.heap.size := Nat.lt_of_lt_of_le ((Res.box [w.heap.size + 1] _).lt W (HM.get (M.length + 1) (RL_l _ _ _ _)) _ (by simp [Res.box])) hg'.size
    refine ⟨W'.heap[w.heap.size + 1]?, M, N', hL, ?_⟩
    have := HM.upd (M.length + 1) (RL_l _ _ _ _) (T := row.toList) (r' := .box [w.heap.size + 1] (fun V => V.heap[w.heap.size + 1]? = W'.heap[w.heap.size + 1]?)) (Mod.grown hg') (fun b hb => ?_) ?_ (fun b hb => .inl hb)
    · rwa [RL_set] at this
    · cases row with
      | none => cases hb
      | some r =>
        simp only [Option.toList_some, List.mem_singleton] at hb
        subst hb
        rcases hr _ rfl with h | h
        · exact .inl (by simp [Res.box, h])
        · exact h.elim
    · exact ⟨fun b hb => by simp only [List.mem_singleton] at hb; subst hb; exact hlt, fun w' hw => hw _ (by simp)⟩
  refine ⟨A, enc, _, _, S', Sp, N, fun pre W => ∃ o M N', LI pre M N' ∧ Mine w0 S W (RL w.heap.size o M N'), fun pre W => ∃ o M N', LR pre M N' ∧ Mine w0 S W (RL w.heap.size o M N'), hseq w1 hm1, (let ⟨M, N', h1, h2⟩ := h0 w1 _ H1; ⟨_, M, N', h1, h2⟩), fun W r h => h.elim, ?_, fun pre W W' row => stab pre W W' row, fun pre W W' row => stab pre W W' row, ?_, ?_, ?_⟩
  · intro W W' o o' h b hb
    have h1 := hcaps b hb
    rw [World.putObj_heap_other (by omega)]
    have h2 := h b hb
    rwa [World.putObj_heap_other (by omega)] at h2
  · rintro pre x W ⟨o, M, N', hL, HM⟩ hlen
    have ho : W.heap[w.heap.size + 1]? = o := HM.box _ (RL_l _ _ _ _)
    have hD : W.heap[w.heap.size]? = some (.deferred (some [])) := HM.box _ (RL_D _ _ _ _)
    refine hround pre x W o M N' _ _ hL hlen HM (fun W' M' N2 h1 h2 h3 => ?_) (fun W' M' N2 h2 h3 => ?_)
    · exact ⟨(h3.box _ (RL_D _ _ _ _)).trans hD.symm, (h3.box _ (RL_l _ _ _ _)).trans ho.symm, h1, o, M', N2, h2, h3⟩
    · exact ⟨(h3.box _ (RL_D _ _ _ _)).trans hD.symm, (h3.box _ (RL_l _ _ _ _)).trans ho.symm, o, M', N2, h2, h3⟩
  · rintro xs W hS ⟨o, M, N', hL, HM⟩ hD
    exact hdone xs W o M N' hS hL HM
  · rintro xs W hS ⟨o, M, N', hL, HM⟩ hD
    exact hstop xs W o M N' hS hL HM
end Go.Ev
end
section
set_option linter.unusedVariables false
set_option linter.unusedSimpArgs false
/- slices.Chunk: what the iterator that it hands back promises. -/
namespace Go.Proofs.YtdnhoebcomffoaaGreatDoor
open Go Go.Ev
set_option maxRecDepth 20000
set_option linter.unusedVariables false
theorem slices_Chunk_ok (x : SlV) (k : Nat) (hk : 1 ≤ k) (w : World) : Ok Pr f_slices_Chunk_byte_byte [.slice x.a x.n x.c, .int .i64 (k : Int)] w fun v w' =>
    ∃ b c, v = .func (.func f_slices_Chunk_byte_byte_1) #[] ⟨[.pointer (some ⟨b, 0, none⟩), .pointer (some ⟨c, 0, none⟩)]⟩ ∧ Mine w [] w' [.blk b [.slice x.a x.n x.c] t_s_uint8, .blk c [.int .i64 (k : Int)] t_int] := by
  refine V_slices_Chunk_byte_byte_of ?_
  unfold V_slices_Chunk_byte_byte
  refine (Mine.start w).nw fun p w1 H _ => H.nw fun q w2 H _ => H.ldI 1 rfl rfl rfl (ite_false (decide_eq_false (by omega)) ?_)
  exact ⟨p, q, rfl, H⟩
/-- part i of so many bytes each -/
def chunkAt (x : SlV) (k i : Nat) : SlV := ⟨sub x.a (i * k) (i * k + k) 1, k, k⟩
theorem World.grown_drew (w : World) (row : Option Nat) : w.grownBy w.drew row := ⟨rfl, rfl, rfl, Nat.le_refl _, fun _ _ _ => rfl⟩
theorem chunk_lt {A : Type} {x : A} {K : A → Prop} (h : K x) : lt x K := h
theorem chunk_yield {F : Fence} {m : Nat} {P : Program} {l : Nat} {args : Array Value} {W : World} {R R' : Ending → World → Prop} (h : YieldAt F m P l args W R) (hr : ∀ e w, R e w → R' e w) : YieldAt F m P l args W R' := by
  obtain ⟨fn, tmps, asg, bd, hy, hR⟩ := h
  exact ⟨fn, tmps, asg, bd, hy, hR.mono hr⟩
theorem chunk_seq {x : SlV} {k N b c : Nat} (hk : 1 ≤ k) (hn : x.n = N * k) (hc : x.n ≤ x.c) (hb : N * k + k < 4611686018427387904) {w1 : World} {t u : TypeId} (h1 : Blk w1 b [.slice x.a x.n x.c] t) (h2 : Blk w1 c [.int .i64 (k : Int)] u) :
    SeqK Pr f_slices_Chunk_byte_byte_1 [.pointer (some ⟨b, 0, none⟩), .pointer (some ⟨c, 0, none⟩)] (fun i : Fin N => (chunkAt x k i.val).v) (fun W W' => ∀ d ∈ [b, c], W'.heap[d]? = W.heap[d]?) (fun _ _ => False)
      (fun xs => xs.map (·.val) = List.range N) (fun pre => ∃ j, j ≤ N ∧ pre.map (·.val) = List.range j) N w1 := by
  intro l J Jx hJ hJx hY h0
  have dr : ∀ {s W}, J s W → J s W.drew := fun {s W} h => hJ s W _ none h (World.grown_drew W none) fun r e => by cases e
  refine CallsIn.mono (V_slices_Chunk_byte_byte_1_of (yield := l) (free := ⟨b, 0, none⟩) (free_1 := ⟨c, 0, none⟩) (R := fun v W' => (∃ xs : List (Fin N), xs.map (·.val) = List.range N ∧ J xs W') ∨ (∃ pre : List (Fin N), (∃ j, j ≤ N ∧ pre.map (·.val) = List.range j) ∧ Jx pre W')) ?_) fun e w' ⟨v, he, h⟩ => ⟨⟨v, he⟩, h⟩
  unfold V_slices_Chunk_byte_byte_1
  refine loop1_of (fun i W => ∃ (j : Nat) (pre : List (Fin N)), j ≤ N ∧ i = ((j * k : Nat) : Int) ∧ pre.map (·.val) = List.range j ∧ J pre W ∧ Blk W b [.slice x.a x.n x.c] t ∧ Blk W c [.int .i64 (k : Int)] u) (fun i _ => N * k - i.toNat) ⟨0, [], by omega, by simp, rfl, h0, h1, h2⟩ ?_
  rintro again i W ⟨j, pre, hj, rfl, hpre, hJp, hB, hC⟩ hag
  refine hB.ldL (i := 0) rfl rfl (ite_intro (fun hlt => ?_) (fun hge => ?_))
  · have hlt : j * k < N * k := by rw [← hn]; exact_mod_cast of_decide_eq_true hlt
    have hjN : j < N := Nat.lt_of_mul_lt_mul_right hlt
    have hjk : j * k + k ≤ N * k := by have := Nat.mul_le_mul_right k hjN; rw [Nat.succ_mul] at this; exact this
    have hB' : Blk W.drew b [.slice x.a x.n x.c] t := hB
    have hC' : Blk W.drew c [.int .i64 (k : Int)] u := hC
    refine hC'.ldI (i := 0) rfl rfl (hB'.ldL (i := 0) rfl rfl ⟨⟨by omega, by omega⟩, ?_⟩)
    have e0 : min (k : Int) ((x.n - ((j * k : Nat) : Int).toNat : Nat) : Int) = (k : Int) := by
      have : (((j * k : Nat) : Int).toNat) = j * k := rfl
      omega
    refine chunk_lt ?_
    rw [e0]
    refine hB'.ldL (i := 0) rfl rfl ⟨⟨by omega, by omega⟩, ⟨by omega, by omega⟩, ⟨by omega, by omega, by omega, by omega⟩, ?_⟩
    have e1 : (((j * k : Nat) : Int)).toNat = j * k := rfl
    have e2 : (((j * k : Nat) : Int) + (k : Int)).toNat = j * k + k := by omega
    rw [e1, e2]
    have hlen : pre.length = j := by have := congrArg List.length hpre; simpa using this
    have hsl : (⟨sub x.a (j * k) (j * k + k) 1, j * k + k - j * k, j * k + k - j * k⟩ : SlV) = chunkAt x k j := by unfold chunkAt; rw [Nat.add_sub_cancel_left]
    rw [hsl]
    have hy := hY pre ⟨j, hjN⟩ W.drew (dr hJp) (by omega)
    refine chunk_yield hy ?_
    rintro e W2 (⟨rfl, hJ2, hkk⟩ | ⟨rfl, hJx2⟩)
    · refine ⟨_, rfl, true, rfl, ite_false rfl ?_⟩
      have hB2 : Blk W2 b [.slice x.a x.n x.c] t := (hkk b (by simp)).trans hB
      have hC2 : Blk W2 c [.int .i64 (k : Int)] u := (hkk c (by simp)).trans hC
      refine hC2.ldI (i := 0) rfl rfl ⟨⟨by omega, by omega⟩, hag _ _ ⟨j + 1, pre ++ [⟨j, hjN⟩], hjN, ?_, ?_, hJ2, hB2, hC2⟩ ?_⟩
      · rw [Nat.succ_mul]; omega
      · rw [List.map_append, hpre, List.range_succ]; rfl
      · omega
    · exact ⟨_, rfl, false, rfl, ite_true rfl (.inr ⟨_, ⟨j + 1, hjN, by rw [List.map_append, hpre, List.range_succ]; rfl⟩, hJx2⟩)⟩
  · have hge : N * k ≤ j * k := by have := of_decide_eq_false hge; rw [hn] at this; omega
    have : j = N := Nat.le_antisymm hj (Nat.le_of_mul_le_mul_right hge hk)
    subst this
    exact .inl ⟨pre, hpre, hJp⟩
theorem chunk_bytes {w : World} {x : SlV} {l : List B8} {k i : Nat} (h : Bytes w x l) (hk : 1 ≤ k) (hi : i * k + k ≤ x.n) : Bytes w (chunkAt x k i) ((l.drop (i * k)).take k) := by
  have hc := h.cap
  have hp := Sl.part h (by omega : 0 < 1) (i * k) (i * k + k) (by omega) hi
  have e : sub x.a (i * k) x.c 1 = sub x.a (i * k) (i * k + k) 1 := by
    unfold sub
    rw [if_neg (by omega), if_neg (by omega)]
  rw [e, Nat.add_sub_cancel_left, Nat.mul_one, Nat.mul_one, u8s_drop, u8s_take] at hp
  refine ⟨?_, Nat.le_refl k, hp.pre, hp.cell⟩
  exact hp.len
end Go.Proofs.YtdnhoebcomffoaaGreatDoor
end
section
set_option linter.unusedVariables false
set_option linter.unusedSimpArgs false
/- REQUESTS: which are the same; the document's; a reading that is refused by its size. -/
namespace Go.Proofs.YtdnhoebcomffoaaGreatDoor
open Go Go.Ev
set_option maxRecDepth 20000
set_option linter.unusedVariables false
theorem slices_Equal_int_ok (x y : SlV) (l m : List Int) (w : World) (hx : Nums w x l) (hy : Nums w y m) (hl : l.length < 1000000000000) : Ok Pr f_slices_Equal_int_int [.slice x.a x.n x.c, .slice y.a y.n y.c] w fun v w' => v = .bool (decide (l = m)) ∧ Mod [] w w' := by
  refine V_slices_Equal_int_int_of ?_
  unfold V_slices_Equal_int_int
  have hxl := hx.len
  have hyl := hy.len
  refine ite_intro (fun h => ?_) (fun h => ?_)
  · have : l ≠ m := fun e => by
      have : l.length = m.length := by rw [e]
      simp only [Bool.not_eq_true', decide_eq_false_iff_not] at h
      omega
    exact ⟨by rw [decide_eq_false this], Mod.refl _ _⟩
  · have hlen : l.length = m.length := by
      simp only [Bool.not_eq_false', decide_eq_true_eq] at h
      omega
    refine loop1_up 0 l.length (fun i w' => Mod [] w w' ∧ ∀ j, j < i → l.getD j 0 = m.getD j 0) rfl (by omega) ⟨Mod.refl _ _, fun j h => by omega⟩ ?_ ?_
    · rintro again i w1 _ hi ⟨hm, he⟩ hag
      have hm' := hm.trans (Mod.drew [] w1)
      refine ite_true (by rw [← hxl]; simpa using hi) ((hx.mod0 hm').ld hi rfl ((hy.mod0 hm').ld (by omega) rfl (ite_intro (fun h => ?_) (fun h => ?_))))
      · have : l ≠ m := fun e => by
          subst e
          simp at h
        exact ⟨by rw [decide_eq_false this], hm'⟩
      · refine ⟨⟨by omega, by omega⟩, hag _ ⟨hm', fun j hj => ?_⟩⟩
        rcases Nat.lt_or_ge j i with h1 | h1
        · exact he j h1
        · have : j = i := by omega
          subst this
          simpa using h
    · rintro again w1 ⟨hm, he⟩
      refine ite_false (by rw [← hxl]; simp) ⟨by rw [decide_eq_true (List.ext_getElem hlen fun i h1 h2 => by have := he i h1; simpa [h1, h2] using this)], hm⟩
theorem bytes_Equal_ok (x y : SlV) (l m : List B8) (w : World) (hx : Bytes w x l) (hy : Bytes w y m) : Ok Pr f_bytes_Equal [.slice x.a x.n x.c, .slice y.a y.n y.c] w fun v w' => v = .bool (decide (l = m)) ∧ w' = w := by
  refine V_bytes_Equal_of ?_
  unfold V_bytes_Equal
  refine b2s_of hx (b2s_of hy ⟨?_, rfl⟩)
  congr 1
  exact decide_eq_decide.2 strOf_inj
/-- are two requests one? -/
@[irreducible] def sameAsk (q : AskV) (lb lt : List B8) (r : AskV) (mb mt : List B8) : Bool := decide (q.nums = r.nums) && (decide (q.name = r.name) && (decide (lb = mb) && decide (lt = mt)))
theorem length_nums (q : AskV) : q.nums.length = 11 := rfl
theorem ask_Same_ok (q : AskV) (lb lt : List B8) (r : AskV) (mb mt : List B8) (w : World) (hb : Bytes w q.by_ lb) (ht : Bytes w q.tok lt) (hb' : Bytes w r.by_ mb) (ht' : Bytes w r.tok mt) :
    Ok Pr f_ask_Same [.agg ⟨q.cells⟩, .agg ⟨r.cells⟩] w fun v w' => v = .bool (sameAsk q lb lt r mb mt) ∧ Mod [] w w' := by
  refine V_ask_Same_of ?_
  unfold V_ask_Same
  refine (Mine.start w).nw fun p w1 H _ => H.nw fun p1 w2 H _ => ?_
  have H := H.drew
  refine H.ld_api_Ask 0 rfl (H.ld_api_Ask 1 rfl (call_of (ask_numbers_ok q _) ?_))
  rintro _ w3 ⟨y, rfl, hy, m3⟩
  have H3 := H.got m3 hy
  refine asSl_s ⟨keptB (H.blk 1 rfl) (H3.blk 1 rfl) rfl, call_of (ask_numbers_ok r _) ?_⟩
  rintro _ w4 ⟨z, rfl, hz, m4⟩
  have H := H3.got m4 hz
  refine asSl_s (call_of (slices_Equal_int_ok y z _ _ _ (H.nums 2 rfl) (H.nums 3 rfl) (by rw [length_nums]; omega)) ?_)
  rintro _ w5 ⟨rfl, m5⟩
  have H := H.frame m5
  unfold sameAsk
  refine asB_b (H.ldS 0 rfl (ad1 p 11) rfl (H.ldS 1 rfl (ad1 p1 11) rfl (H.ldL 0 rfl (ad1 p 12) rfl (H.ldL 1 rfl (ad1 p1 12) rfl (ite_intro (fun h => ?_) (fun h => ?_))))))
  · simp only [Bool.and_eq_true] at h
    rw [h.1, h.2, Bool.true_and, Bool.true_and]
    refine call_of (bytes_Equal_ok q.by_ r.by_ lb mb _ (hb.mod0 H.mod) (hb'.mod0 H.mod)) ?_
    rintro _ w6 ⟨rfl, hw⟩
    subst hw
    refine asB_b (H.ldL 0 rfl (ad1 p 13) rfl (H.ldL 1 rfl (ad1 p1 13) rfl (ite_intro (fun h2 => ?_) (fun h2 => ?_))))
    · rw [h2, Bool.true_and]
      refine call_of (bytes_Equal_ok q.tok r.tok lt mt _ (ht.mod0 H.mod) (ht'.mod0 H.mod)) ?_
      rintro _ w7 ⟨rfl, hw⟩
      subst hw
      exact asB_b ⟨rfl, H.mod⟩
    · rw [h2]
      exact ⟨rfl, H.mod⟩
  · refine H.ldL 0 rfl (ad1 p 13) rfl (H.ldL 1 rfl (ad1 p1 13) rfl ⟨?_, H.mod⟩)
    rw [← Bool.and_assoc, h]
    rfl
theorem law0_SameAsk_ok (q : AskV) (lb lt : List B8) (r : AskV) (mb mt : List B8) (h1 : lb.length ≤ 1000000000) (h2 : lt.length ≤ 1000000000) (w : World) (hb : Bytes w q.by_ lb) (ht : Bytes w q.tok lt) (hb' : Bytes w r.by_ mb) (ht' : Bytes w r.tok mt) :
    Ok Pr f_law0_SameAsk [.agg ⟨q.cells⟩, .agg ⟨r.cells⟩] w fun v w' => v = .bool (sameAsk q lb lt r mb mt) ∧ Mod [] w w' := by
  refine V_law0_SameAsk_of ?_
  unfold V_law0_SameAsk
  refine (Mine.start w).nw fun p w1 H _ => H.nw fun p1 w2 H _ => ?_
  refine H.ldI 0 rfl (ad1 p 0) rfl (H.ldI 1 rfl (ad1 p1 0) rfl (H.ldI 0 rfl (ad1 p 1) rfl (H.ldI 1 rfl (ad1 p1 1) rfl (H.ldI 0 rfl (ad1 p 2) rfl (H.ldI 1 rfl (ad1 p1 2) rfl ?_)))))
  refine H.ldI 0 rfl (ad1 p 3) rfl (H.ldI 1 rfl (ad1 p1 3) rfl (H.ldI 0 rfl (ad1 p 4) rfl (H.ldI 1 rfl (ad1 p1 4) rfl (H.ldI 0 rfl (ad1 p 5) rfl (H.ldI 1 rfl (ad1 p1 5) rfl ?_)))))
  refine H.ldI 0 rfl (ad1 p 6) rfl (H.ldI 1 rfl (ad1 p1 6) rfl (H.ldI 0 rfl (ad1 p 7) rfl (H.ldI 1 rfl (ad1 p1 7) rfl (H.ldI 0 rfl (ad1 p 8) rfl (H.ldI 1 rfl (ad1 p1 8) rfl ?_)))))
  refine H.ldI 0 rfl (ad1 p 9) rfl (H.ldI 1 rfl (ad1 p1 9) rfl (H.ldI 0 rfl (ad1 p 10) rfl (H.ldI 1 rfl (ad1 p1 10) rfl ?_)))
  refine H.ldS 0 rfl (ad1 p 11) rfl (H.ldS 1 rfl (ad1 p1 11) rfl (H.ldL 0 rfl (ad1 p 12) rfl (H.ldL 1 rfl (ad1 p1 12) rfl ?_)))
  have hnum : (decide (q.n0 = r.n0) && decide (q.n1 = r.n1) && decide (q.n2 = r.n2) && decide (q.n3 = r.n3) && decide (q.n4 = r.n4) && decide (q.n5 = r.n5) && decide (q.n6 = r.n6) && decide (q.n7 = r.n7) && decide (q.n8 = r.n8) && decide (q.n9 = r.n9) && decide (q.n10 = r.n10)) = decide (q.nums = r.nums) := by
    unfold AskV.nums
    simp only [List.cons.injEq, and_true, Bool.decide_and, Bool.and_assoc]
  rw [hnum]
  unfold sameAsk
  refine ite_intro (fun h => ?_) (fun h => ?_)
  · simp only [Bool.and_eq_true] at h
    rw [h.1, h.2, Bool.true_and, Bool.true_and]
    refine call_of (law0_SameBytes_ok q.by_ r.by_ lb mb _ (hb.mod0 H.mod) (hb'.mod0 H.mod) (by omega)) ?_
    rintro _ w6 ⟨rfl, m6⟩
    have H := H.frame m6
    refine asB_b (H.ldL 0 rfl (ad1 p 13) rfl (H.ldL 1 rfl (ad1 p1 13) rfl (ite_intro (fun h2 => ?_) (fun h2 => ?_))))
    · rw [h2, Bool.true_and]
      refine call_of (law0_SameBytes_ok q.tok r.tok lt mt _ (ht.mod0 H.mod) (ht'.mod0 H.mod) (by omega)) ?_
      rintro _ w7 ⟨rfl, m7⟩
      exact asB_b ⟨rfl, (H.frame m7).mod⟩
    · rw [h2]
      exact ⟨rfl, H.mod⟩
  · refine H.ldL 0 rfl (ad1 p 13) rfl (H.ldL 1 rfl (ad1 p1 13) rfl ⟨?_, H.mod⟩)
    rw [← Bool.and_assoc, h]
    rfl
theorem law0_GreatAsk_ok (q : AskV) (w : World) : Ok Pr f_law0_GreatAsk [.agg ⟨q.cells⟩] w fun v w' => ∃ b, v = .bool b ∧ Mod [] w w' ∧ (b = false → q.name.size ≤ 400 ∧ q.by_.n ≤ 3000 ∧ q.tok.n ≤ 200) := by
  refine V_law0_GreatAsk_of ?_
  unfold V_law0_GreatAsk
  refine (Mine.start w).nw fun p w1 H _ => ?_
  refine H.ldS 0 rfl (ad1 p 11) rfl (H.ldL 0 rfl (ad1 p 12) rfl (H.ldL 0 rfl (ad1 p 13) rfl ⟨_, rfl, H.mod, fun h => ?_⟩))
  simp only [Bool.or_eq_false_iff, decide_eq_false_iff_not] at h
  omega
/-! ### the document's -/
/-! ### what a reading refuses by its size -/
def askZ : AskV := ⟨0, 0, 0, 0, 0, 0, 0, 0, 0, 0, 0, S_empty, ⟨none, 0, 0⟩, ⟨none, 0, 0⟩⟩
theorem zc_Ask : zc Pr t_api_Ask = askZ.cells := by kernel_rfl
theorem ask_Read_size (x : SlV) (hs : x.n < 2420 ∨ 6000 < x.n) (w : World) : Ok Pr f_ask_Read [.slice x.a x.n x.c] w fun v w' => ∃ er, v = .tuple ⟨[.agg ⟨askZ.cells⟩, .slice none 0 0, .slice none 0 0, er]⟩ ∧ IsErr w w' er 3 ∧ Mod [] w w' := by
  refine V_ask_Read_of ?_
  unfold V_ask_Read
  rw [zc_Ask]
  refine (Mine.start w).nw fun p w1 H _ => call_of (sign_Sizes_ok 1 _) ?_
  rintro _ w2 ⟨rfl, m2⟩
  have H := H.frame m2
  refine ⟨_, rfl, _, rfl, _, rfl, _, rfl, rfl, ite_true ?_ ?_⟩
  · have e : (sgS 1 : Int) = 2420 := rfl
    rw [e]
    simp only [Bool.or_eq_true, decide_eq_true_eq]
    omega
  · refine call_of (ask_fault_ok 3 (by decide) _) ?_
    rintro e w3 ⟨h3, m3⟩
    have H := H.gotE m3 h3
    refine H.sT_api_Ask 0 rfl rfl fun w4 H => H.ld_api_Ask 0 rfl ⟨e, rfl, ⟨H.err 1 rfl, fun b hb => (H.own 1 _ rfl b hb).resolve_left (by simp)⟩, H.mod⟩
end Go.Proofs.YtdnhoebcomffoaaGreatDoor
end
section
set_option linter.unusedVariables false
set_option linter.unusedSimpArgs false
/- VERIFYING: the program's. -/
namespace Go.Proofs.YtdnhoebcomffoaaGreatDoor
open Go Go.Ev
set_option maxRecDepth 20000
set_option linter.unusedVariables false
theorem zc_vec1 : zc Pr t_s_s_int = [.slice none 0 0] := by kernel_rfl
theorem bod_ver_1 : bodied Pr f_sign_Verify_1 = true := by kernel_rfl
theorem bod_chunk_1 : bodied Pr f_slices_Chunk_byte_byte_1 = true := by kernel_rfl
def useF (g : Int) (h f : List Int) : List Int := (List.range f.length).map fun i => use g (h.getD i 0) (f.getD i 0)
theorem use_below {g : Int} (hg : GG g) (h f : List Int) (hl : f.length = 256) : (useF g h f).length = 256 ∧ ∀ x ∈ useF g h f, 0 ≤ x ∧ x < mOf g := by
  unfold useF
  refine ⟨by rw [List.length_map, List.length_range, hl], fun x hx => ?_⟩
  obtain ⟨i, _, rfl⟩ := List.mem_map.1 hx
  have hr := prt_rng (x := f.getD i 0) hg
  have hm := mOf_rng hg
  generalize f.getD i 0 = y at *
  generalize h.getD i 0 = z at *
  unfold use
  split
  · split
    · exact ⟨Int.emod_nonneg _ (by omega), Int.emod_lt_of_pos _ (by omega)⟩
    · exact ⟨Int.emod_nonneg _ (by omega), Int.emod_lt_of_pos _ (by omega)⟩
  · omega
theorem ver_1_tells {w : World} {a b : Addr} {g : Int} (hg : GG g) (h7 : w.cell? (Addr.add a 7) = some (.int .i64 g)) {t : SlV} {HH X : List (List Int)} (hb : w.cell? b = some (.slice t.a t.n t.c)) (ht : Pols w t HH) (hT : ∀ f ∈ HH, f.length = 256) (hX : Pos X) (hTX : HH.length = X.length)
    (i : Nat) (y : SlV) (w' : World) (hi : i < X.length) (m : Mod [] w w') (hy : Nums w' y (X.getD i [])) :
    callV Pr (.func (.func f_sign_Verify_1) ⟨[]⟩ ⟨[.pointer (some a), .pointer (some b)]⟩) [.int .i64 (i : Int), .slice y.a y.n y.c] w' fun v w'' => ∃ z : SlV, v = .slice z.a z.n z.c ∧ Boxed w' w'' fun w => Nums w z (useF g (HH.getD i []) (X.getD i [])) := by
  refine callV_of bod_ver_1 (V_sign_Verify_1_of ?_)
  unfold V_sign_Verify_1
  have hyl := hy.len
  have px := hX.get hi
  have hlt := hT _ (mem_getD (i := i) (by omega) [])
  have hl := px.len
  unfold useF
  refine (Mine.start w').mkN elt_i64' zc_i64 (n := (X.getD i []).length) (by omega) (by omega) (by omega) fun z w2 H2 hzn => ?_
  obtain ⟨G, hG⟩ : ∃ G : Nat → Int, G = fun k => use g ((HH.getD i []).getD k 0) ((X.getD i []).getD k 0) := ⟨_, rfl⟩
  rw [← hG]
  rw [List.nil_append, ← part_zero G] at H2
  refine loop1_up 0 (X.getD i []).length (fun k w'' => Mine w' [] w'' [.row t_int 1 z (i64s (part G (X.getD i []).length k))]) rfl (by omega) H2 ?_ ?_
  · intro again k w3 _ hk H3 hag
    have H4 := H3.drew
    have mm := m.trans H4.mod
    refine ite_true (decide_eq_true (by omega)) ((hy.mod0 H3.mod).ld (i := k) hk rfl ⟨_, mm.cell0 h7, _, mm.cell0 hb, (ht.mod0 mm).ld (i := i) (by omega) rfl fun u hu => hu.ld (i := k) (by omega) rfl (call_of (round_Use_ok g _ _ hg _) ?_)⟩)
    rintro _ w5 ⟨rfl, hw⟩
    subst hw
    refine asI_i (H4.stN 0 (i := k) rfl (by rw [part_len _ (by omega)]; omega) rfl fun w6 H6 => ⟨⟨by omega, by omega⟩, hag w6 ?_⟩)
    rw [← part_set G hk (by rw [hG])]
    exact H6
  · intro again w3 H3
    rw [part_all] at H3
    exact ite_false (decide_eq_false (by omega)) ⟨z, rfl, Boxed.of_own (H3.fresh0 0 rfl) H3.mod fun w2 h => h.nums⟩
/-- what is multiplied one by one -/
def mulPart (U : List Int) (i : Nat) : List Int := (U.take i).map (fun x => x * 8192) ++ U.drop i
theorem mulPart_len (U : List Int) (i : Nat) : (mulPart U i).length = U.length := by unfold mulPart; simp only [List.length_append, List.length_map, List.length_take, List.length_drop]; omega
theorem mulPart_get (U : List Int) {i : Nat} (h : i < U.length) : (mulPart U i).getD i 0 = U.getD i 0 := by
  unfold mulPart
  rw [List.getD_eq_getElem?_getD, List.getElem?_append_right (by simp; omega)]
  simp only [List.length_map, List.length_take, Nat.min_eq_left (Nat.le_of_lt h), Nat.sub_self, List.getElem?_drop, Nat.add_zero]
  rw [List.getD_eq_getElem?_getD]
theorem mulPart_set (U : List Int) {i : Nat} (h : i < U.length) : (mulPart U i).set i (U.getD i 0 * 8192) = mulPart U (i + 1) := by
  unfold mulPart
  have hl : ((U.take i).map fun x => x * 8192).length = i := by simp; omega
  rw [List.set_append_right _ _ (by omega), hl, Nat.sub_self, List.drop_eq_getElem_cons h, List.set_cons_zero, take_succ_getD _ _ h 0, List.map_append, List.append_assoc]
  rfl
def t1At (vk : List B8) (r : Nat) : List Int := (unpack 10 (((vk.drop 32).drop (320 * r)).take 320)).map fun x => x * 8192
open Classical in
theorem sign_Verify_ok (set : Int) (xv xn xm xs : SlV) (vk note m sig : List B8) (h1 : vk.length ≤ 100000) (h2 : note.length ≤ 100000) (h3 : m.length ≤ 100000) (h4 : sig.length ≤ 100000) (w : World) (hv : Bytes w xv vk) (hn : Bytes w xn note) (hm : Bytes w xm m) (hs : Bytes w xs sig) :
    Ok Pr f_sign_Verify [.int .i64 set, .slice xv.a xv.n xv.c, .slice xn.a xn.n xn.c, .slice xm.a xm.n xm.c, .slice xs.a xs.n xs.c] w fun v w' => IsErr w w' v (verC set vk note m sig) ∧ Mod [] w w' := by
  by_cases his : isSet set = true
  case neg =>
    have hf : isSet set = false := by simpa using his
    have e : verC set vk note m sig = 2 := by unfold verC; rw [if_neg his]
    rw [e]
    exact sign_Verify_noset set hf xv xn xm xs w
  obtain ⟨z1, -, z3⟩ := sizes_eq his
  have hvl := hv.len
  have hsl := hs.len
  have hG := goodS his
  have hX := goodX his
  have hbl := blen_g (goodG1 his)
  have bC := ballC_of his
  obtain ⟨vkn, hvkn⟩ : ∃ n : Nat, n = vkS set := ⟨_, rfl⟩
  obtain ⟨sgn, hsgn⟩ : ∃ n : Nat, n = sgS set := ⟨_, rfl⟩
  have hver : verC set vk note m sig = if vk.length = vkn ∧ sig.length = sgn ∧ note.length ≤ 255 then
      (if uAll (vB (layS set) sig) (layS set).omega (layS set).k then
        (if normL (vZ (layS set) sig) < ((layS set).g1 : Int) - (layS set).beta ∧ vCH set (layS set) vk note m sig = sig.take (layS set).c then 0 else 7)
      else 4) else 3 := by unfold verC; rw [if_pos his, hvkn, hsgn]
  rw [← hvkn] at z1
  rw [← hsgn] at z3
  have hvch : vCH set (layS set) vk note m sig = spOut 136 31 (muL (spOut 136 31 vk 64) note m ++ highB (layS set).g2 (useL (layS set).g2 (unL (vB (layS set) sig) (layS set).omega (layS set).k) (vW set (layS set) vk sig))) ((layS set).c : Int) := by unfold vCH; rfl
  rw [hver]
  generalize vCH set (layS set) vk note m sig = VCH at *
  refine V_sign_Verify_of ?_
  unfold V_sign_Verify
  rw [zc_lSet, zc_vec1]
  refine call_of (lay_Of_ok set w) ?_
  rintro _ w1 ⟨rfl, m1⟩
  rw [his]
  obtain ⟨s, hS⟩ : ∃ s, layS set = s := ⟨_, rfl⟩
  simp only [hS] at hG hX hbl bC hver hvch z1 z3 ⊢
  refine ⟨_, rfl, as_lSet ⟨_, rfl, rfl, ((Mine.start w).frame m1).nw fun p w2 H _ => H.sT_lay_Set 0 rfl rfl fun w3 H => ite_false rfl (call_of (sign_Digest_ok xv xn xm vk note m (by omega) (by omega) (by omega) _ (hv.mod0 H.mod) (hn.mod0 H.mod) (hm.mod0 H.mod)) ?_)⟩⟩
  rintro _ w4 ⟨u, er, rfl, hu, he, hno, m4⟩
  have H := H.got2 m4 hu he hno
  obtain ⟨mu, hmu⟩ : ∃ mu, mu = muL (spOut 136 31 vk 64) note m := ⟨_, rfl⟩
  rw [← hmu] at H hvch
  have fin : ∀ {w' w2 : World} {L : List Res} {e : Value} {c : Int}, Mine w [] w' L → IsErr w' w2 e c → Mod [] w' w2 → IsErr w w2 e c ∧ Mod [] w w2 := fun H h m => ⟨h.from H.mod.size, (H.frame m).mod⟩
  refine ⟨_, rfl, u, rfl, rfl, join0_of fun go hgo => call_of (lay_Sizes_ok set w4) ?_⟩
  rintro _ w5 ⟨rfl, m5⟩
  rw [← hvkn, ← hsgn]
  have H := H.frame m5
  refine ⟨_, rfl, _, rfl, _, rfl, _, rfl, rfl, join1_of fun go1 hgo1 => ?_⟩
  have bad : (¬ (vk.length = vkn ∧ sig.length = sgn ∧ note.length ≤ 255)) → go1 true w5 := fun hb => by
    rw [if_neg hb] at hgo1
    refine hgo1 _ _ (ite_true rfl (call_of (sign_fault_ok 3 (by decide) w5) ?_))
    rintro e w6 ⟨h6, m6⟩
    exact fin H h6 m6
  by_cases hb1 : vk.length = vkn ∧ sig.length = sgn
  case neg =>
    refine ite_true ?_ (bad fun h => hb1 ⟨h.1, h.2.1⟩)
    have hh : ¬ (xv.n = vkn ∧ xs.n = sgn) := by rw [← hvl, ← hsl]; exact hb1
    by_cases hc : xv.n = vkn
    · have : ¬ xs.n = sgn := fun h => hh ⟨hc, h⟩
      simp; omega
    · simp; omega
  refine ite_false (by rw [← hvl, ← hsl, hb1.1, hb1.2]; simp) ((H.err 2 rfl).isNil ?_)
  by_cases hb2 : note.length ≤ 255
  case neg =>
    have : digC note.length = 3 := by unfold digC; rw [if_neg hb2]
    rw [this]
    exact bad fun h => hb2 h.2.2
  have hd0 : digC note.length = 0 := by unfold digC; rw [if_pos hb2]
  rw [if_pos hb2, hd0] at H
  rw [hd0]
  rw [if_pos ⟨hb1.1, hb1.2, hb2⟩] at hgo hgo1
  refine hgo1 _ _ (ite_false rfl (hgo _ ?_))
  have hk0 := hG.k0
  have hk8 := hG.k
  have hl0 := hG.l0
  have hl7 := hG.l
  have hc64 := hG.c
  have hg1 : s.g1 ≤ 524288 ∧ 131072 ≤ s.g1 := by rcases hX.g1 with h | h <;> omega
  have hmd : maskD s = 18 ∨ maskD s = 20 := by unfold maskD; split <;> simp
  have e32 : 32 * s.l * maskD s = 32 * maskD s * s.l := Nat.mul_right_comm _ _ _
  refine H.ldI 0 rfl (ad1 p 8) rfl (hs.h s.c rfl (by omega) fun xc hxc kc _ => ?_)
  have H := H.drew
  refine H.ldI 0 rfl (ad1 p 6) rfl ⟨⟨by omega, by omega⟩, H.ldI 0 rfl (ad1 p 6) rfl (H.ldI 0 rfl (ad1 p 1) rfl (H.ldI 0 rfl (ad1 p 8) rfl (hs.l s.c rfl (by omega) fun xz hxz kz _ => ?_)))⟩
  rw [show (s.g1 : Int) - 1 = ((s.g1 - 1 : Nat) : Int) by omega]
  refine call_of (sign_polys_ok (s.g1 - 1) s.g1 s.l (by omega) (by omega) (by omega) (by omega) xz (sig.drop s.c) (by rw [hbl, List.length_drop]; omega) _ (kz.mod0 H.mod)) ?_
  rintro _ w6 ⟨yz, xh, rfl, hyz, hxh⟩
  rw [hbl] at hyz hxh
  obtain ⟨fz, H⟩ := H.gotBox hyz
  have kh : Bytes w xh (vB s sig) := hxh _ kz
  have nB : (vB s sig).length = s.omega + s.k := by unfold vB; rw [List.length_drop, List.length_drop]; omega
  have pZ : Pos (vZ s sig) := polysL_pos (by omega) (by rw [List.length_drop]; omega)
  have nZ : (vZ s sig).length = s.l := by unfold vZ polysL; rw [List.length_map, List.length_range]
  refine ⟨_, rfl, yz, rfl, xh, rfl, rfl, call_of (lay_Unhint_ok set his s hS.symm xh (vB s sig) nB _ (kh.mod0 H.mod)) ?_⟩
  rintro _ w7 ⟨yh, e7, rfl, he7, m7, hyh⟩
  by_cases hu : uAll (vB s sig) s.omega s.k
  case neg =>
    have e : unC (vB s sig) s.omega s.k = 4 := by unfold unC; rw [if_neg hu]
    rw [e] at he7
    rw [if_neg hu]
    refine ⟨_, rfl, yh, rfl, rfl, (H.frame m7).nw fun p1 w8 H hp1 => H.st 4 (i := 0) rfl rfl (Nat.lt_succ_self 0) rfl fun w9 H => he7.1.isNil (ite_true rfl (call_of (sign_fault_ok 4 (by decide) w9) ?_))⟩
    rintro e w10 ⟨h, m⟩
    exact fin H h m
  have e : unC (vB s sig) s.omega s.k = 0 := by unfold unC; rw [if_pos hu]
  rw [e] at he7
  rw [if_pos hu] at *
  obtain ⟨fh, H⟩ := H.gotBox (hyh e)
  obtain ⟨HH, hHH⟩ : ∃ HH, HH = unL (vB s sig) s.omega s.k := ⟨_, rfl⟩
  rw [← hHH] at H hvch
  have nHH : HH.length = s.k := by rw [hHH]; unfold unL; simp
  have lHH : ∀ f ∈ HH, f.length = 256 := by
    rw [hHH]; unfold unL
    intro f hf
    obtain ⟨r, _, rfl⟩ := List.mem_map.1 hf
    exact length_unF _ _ _
  refine ⟨_, rfl, yh, rfl, rfl, H.nw fun p1 w8 H hp1 => H.st 5 (i := 0) rfl rfl (Nat.lt_succ_self 0) rfl fun w9 H => he7.1.isNil (ite_false rfl ?_)⟩
  have H : Mine w [] w9 [.blk p s.cells t_lay_Set, .row t_uint8 1 u (u8s mu), Res.err er 0, .box fz fun w => Pols w yz (vZ s sig), .box fh fun w => Pols w yh HH, .blk p1 [.slice yh.a yh.n yh.c] t_s_s_int] := H
  have H := H.drew
  have hbe := hX.beta
  refine H.ldI 0 rfl (ad1 p 6) rfl (H.ldI 0 rfl (ad1 p 4) rfl ⟨⟨by omega, by omega⟩, call_of (wave_Norm_ok yz (vZ s sig) (by omega) pZ _ (H.box 3 rfl)) ?_⟩)
  rintro _ w10 ⟨rfl, m10⟩
  have k1 : ∀ j, kept (Addr.add ⟨p, 0, none⟩ j) 1 w9.drew w10 := fun j => kept_of m10 (by rw [add_block]; exact (H.blk 0 rfl).lt) (by simp)
  have H := H.frame m10
  refine asI_i ⟨k1 4, k1 6, ?_⟩
  by_cases hnm : normL (vZ s sig) < (s.g1 : Int) - s.beta
  case neg =>
    rw [if_neg fun h => hnm h.1]
    refine ite_true (decide_eq_true (by omega)) (call_of (sign_fault_ok 7 (by decide) w10) ?_)
    rintro e w11 ⟨h, m⟩
    exact fin H h m
  have nC : (sig.take s.c).length = s.c := by rw [List.length_take]; omega
  refine ite_false (decide_eq_false (by omega)) (call_of (sift_Ball_all set xc (sig.take s.c) _ (kc.mod0 H.mod)) ?_)
  rw [nC, bC]
  rintro _ w11 ⟨yB, eB, rfl, hyB, -, -, m11⟩
  have H := H.got m11 hyB
  have pB : Po (ballL set (sig.take s.c)) := (ballL_okay (by rw [nC]; exact bC)).1
  generalize hB : ballL set (sig.take s.c) = B at *
  refine ⟨_, rfl, yB, rfl, rfl, H.nw fun p2 w12 H hp2 => hv.l 32 rfl (by omega) fun xt hxt kt _ => call_of (slices_Chunk_ok xt 320 (by omega) w12) ?_⟩
  rintro _ w13 ⟨b, c, rfl, Hc⟩
  have H := H.join Hc
  have H : Mine w [] w13 [.blk p s.cells t_lay_Set, .row t_uint8 1 u (u8s mu), Res.err er 0, .box fz fun w => Pols w yz (vZ s sig), .box fh fun w => Pols w yh HH, .blk p1 [.slice yh.a yh.n yh.c] t_s_s_int, .row t_int 1 yB (i64s B), .blk p2 [.slice none 0 0] t_s_s_int, .blk b [.slice xt.a xt.n xt.c] t_s_uint8, .blk c [.int .i64 ((320 : Nat) : Int)] t_int] := H
  have hkn : s.k * 320 = 320 * s.k := Nat.mul_comm _ _
  refine range_of (A := Fin s.k) rfl bod_chunk_1 [b, c] ?_ (fun w1 m => chunk_seq (x := xt) (k := 320) (N := s.k) (by omega) (by omega) kt.cap (by omega) ((H.blk 8 rfl).mod0 m) ((H.blk 9 rfl).mod0 m)) H
    (fun pre M N' => ∃ out xs fp, M = [.blk p s.cells t_lay_Set, .row t_uint8 1 u (u8s mu), Res.err er 0, .box fz fun w => Pols w yz (vZ s sig), .box fh fun w => Pols w yh HH, .blk p1 [.slice yh.a yh.n yh.c] t_s_s_int, .row t_int 1 yB (i64s B), .blk p2 [.slice out.a out.n out.c] t_s_s_int, .blk b [.slice xt.a xt.n xt.c] t_s_uint8, .blk c [.int .i64 ((320 : Nat) : Int)] t_int] ∧
      N' = [.row t_s_int 1 out (xs.map SlV.v), .box fp fun w => Elems Nums w xs (pre.map fun i => t1At vk i.val)])
    (fun _ _ _ => False) ?_ ?_ ?_ (fun _ _ _ _ _ _ h _ => h.elim)
  · intro d hd
    rcases List.mem_cons.1 hd with rfl | hd
    · exact (H.blk 8 rfl).lt
    · rw [List.mem_singleton.1 hd]; exact (H.blk 9 rfl).lt
  · intro W o HW
    obtain ⟨xs, fp, HW⟩ : Col Nums t_s_int w [] _ W ⟨none, 0, 0⟩ [] := Col.start HW
    rw [RL_app] at HW
    exact ⟨_, _, ⟨⟨none, 0, 0⟩, xs, fp, rfl, rfl⟩, HW⟩
  · rintro pre i W o M N' K Kr ⟨out, xs, fp, rfl, rfl⟩ hlen HW hK hKr
    have hik : i.val * 320 + 320 ≤ xt.n := by have := i.isLt; omega
    have kp := chunk_bytes (kt.mod0 HW.mod) (k := 320) (i := i.val) (by omega) hik
    rw [Nat.mul_comm i.val 320] at kp
    have e1 : t1At vk i.val = (unpack 10 (((vk.drop 32).drop (320 * i.val)).take 320)).map fun x => x * 8192 := rfl
    have hpl : (((vk.drop 32).drop (320 * i.val)).take 320).length = 320 := by rw [List.length_take, List.length_drop, List.length_drop]; omega
    have hT : (pre ++ [i]).map (fun j : Fin s.k => t1At vk j.val) = pre.map (fun j : Fin s.k => t1At vk j.val) ++ [t1At vk i.val] := by rw [List.map_append]; rfl
    rw [hT] at hK
    have hTl : (pre.map (fun j : Fin s.k => t1At vk j.val)).length ≤ 8 := by rw [List.length_map]; omega
    generalize pre.map (fun j : Fin s.k => t1At vk j.val) = T at *
    generalize t1At vk i.val = A at *
    generalize ((vk.drop 32).drop (320 * i.val)).take 320 = part at *
    refine call_of (bits_Unpack_ok 10 (by omega) (by omega) (chunkAt xt 320 i.val) part (by omega) W kp) ?_
    rintro _ w18 ⟨y, rfl, hy, m18⟩
    have D := (Mine.start W).got m18 hy
    have hU : (unpack 10 part).length = 256 ∧ ∀ x ∈ unpack 10 part, 0 ≤ x ∧ x < 1024 := ⟨by rw [length_unpack]; omega, fun x hx => unpack_lt 10 part x hx⟩
    generalize unpack 10 part = U at *
    have hyn := (D.nums 0 rfl).len
    refine asSl_s (loop1_up 0 256 (fun j w' => Mine W [] w' [.row t_int 1 y (i64s (mulPart U j))]) rfl (by omega) (by unfold mulPart; simpa using D) ?_ ?_)
    · intro again j w19 _ hj D hag
      have hg := hU.2 _ (mem_getD (l := U) (i := j) (by omega) 0)
      refine ite_true (decide_eq_true (by omega)) ((D.nums 0 rfl).ld (i := j) (by rw [mulPart_len]; omega) rfl ?_)
      rw [mulPart_get U (by omega)]
      refine ⟨⟨by omega, by omega⟩, D.stN 0 (i := j) rfl (by rw [mulPart_len]; omega) rfl fun w20 D => ⟨⟨by omega, by omega⟩, hag w20 ?_⟩⟩
      rw [← mulPart_set U (by omega)]
      exact D
    · intro again w19 D
      have hM : mulPart U 256 = A := by unfold mulPart; rw [e1, ← hU.1, List.take_length, List.drop_length, List.append_nil]
      rw [hM] at D
      have HW' := HW.frame D.mod
      refine ite_false (decide_eq_false (by omega)) (HW'.ldL 7 rfl rfl rfl ?_)
      have C : Col Nums t_s_int w [] (RL w13.heap.size o [.blk p s.cells t_lay_Set, .row t_uint8 1 u (u8s mu), Res.err er 0, .box fz fun w => Pols w yz (vZ s sig), .box fh fun w => Pols w yh HH, .blk p1 [.slice yh.a yh.n yh.c] t_s_s_int, .row t_int 1 yB (i64s B), .blk p2 [.slice out.a out.n out.c] t_s_s_int, .blk b [.slice xt.a xt.n xt.c] t_s_uint8, .blk c [.int .i64 ((320 : Nat) : Int)] t_int] []) W out T := ⟨xs, fp, by rw [RL_app]; exact HW⟩
      refine C.add (l := A) (D.boxed fun w2 h => Own.nums (h 0 _ rfl)) elt_vec ?_ fun out' w22 C' => ?_
      · omega
      obtain ⟨xs', fp', C'⟩ := C'
      rw [RL_app] at C'
      refine C'.st 7 (i := 0) rfl rfl (Nat.lt_succ_self 0) rfl fun w23 C2 => hK w23 _ _ ?_ ⟨out', xs', fp', rfl, rfl⟩ C2
      intro d hd
      rcases List.mem_cons.1 hd with rfl | hd
      · exact (C2.blk 8 rfl).trans (HW.blk 8 rfl).symm
      · rw [List.mem_singleton.1 hd]; exact (C2.blk 9 rfl).trans (HW.blk 9 rfl).symm
  · rintro pre W o M N' hpre ⟨out, xs, fp, rfl, rfl⟩ HW
    have eT : pre.map (fun i : Fin s.k => t1At vk i.val) = vT1 s vk := by
      have : pre.map (fun i : Fin s.k => t1At vk i.val) = (pre.map (·.val)).map (t1At vk) := by rw [List.map_map]; rfl
      rw [this, hpre]; rfl
    rw [eT] at HW
    have nT : (vT1 s vk).length = s.k := by unfold vT1; simp
    have pT : Pos (vT1 s vk) := by
      intro f hf
      unfold vT1 at hf
      obtain ⟨r, hr, rfl⟩ := List.mem_map.1 hf
      have hr := List.mem_range.1 hr
      have hl : (((vk.drop 32).drop (320 * r)).take 320).length = 320 := by rw [List.length_take, List.length_drop, List.length_drop]; omega
      refine ⟨by rw [List.length_map, length_unpack, hl], fun x hx => ?_⟩
      obtain ⟨z, hz, rfl⟩ := List.mem_map.1 hx
      have := unpack_lt 10 _ z hz
      omega
    have H := HW.drew
    have H : Mine w [] W.drew [.blk p s.cells t_lay_Set, .row t_uint8 1 u (u8s mu), Res.err er 0, .box fz fun w => Pols w yz (vZ s sig), .box fh fun w => Pols w yh HH, .blk p1 [.slice yh.a yh.n yh.c] t_s_s_int, .row t_int 1 yB (i64s B), .blk p2 [.slice out.a out.n out.c] t_s_s_int, .blk b [.slice xt.a xt.n xt.c] t_s_uint8, .blk c [.int .i64 ((320 : Nat) : Int)] t_int,
      .box [w13.heap.size] (fun V => V.heap[w13.heap.size]? = some (.deferred (some []))), .box [w13.heap.size + 1] (fun V => V.heap[w13.heap.size + 1]? = o), .row t_s_int 1 out (xs.map SlV.v), .box fp fun w => Elems Nums w xs (vT1 s vk)] := H
    have hout : Pols W.drew out (vT1 s vk) := vec_pols ⟨xs, H.rowSl 12 rfl, H.box 13 rfl⟩
    have hvr : (vk.take 32).length = 32 := by rw [List.length_take]; omega
    refine H.ld_lay_Set 0 rfl (hv.h 32 rfl (by omega) fun xr hxr kr _ => H.ldL 7 rfl rfl rfl (call_of (sign_matrix_ok s (by omega) (by omega) xr (vk.take 32) _ (kr.mod0 H.mod)) ?_))
    rintro _ w20 ⟨yA, rfl, hyA⟩
    have kp : ∀ {L : List Res} {w1 w2 : World}, Mine w [] w1 L → L[7]? = some (.blk p2 [.slice out.a out.n out.c] t_s_s_int) → Mod [] w1 w2 → kept ⟨p2, 0, none⟩ 1 w1 w2 := fun H h m => kept_of m (H.blk 7 h).lt (by simp)
    obtain ⟨fA, H2⟩ := H.gotBox hyA
    have lA : (matL s.k s.l (vk.take 32)).length = s.k := length_matL _ _ _
    have hrows := matL_rows (k := s.k) (l := s.l) hvr
    refine asSl_s ⟨kp H rfl hyA.mod, call_of (sign_apply_ok yA yz (matL s.k s.l (vk.take 32)) (vZ s sig) (by omega) (by omega) (by omega) (fun r h => by rw [nZ]; exact hrows r h) pZ _ (H2.box 14 rfl) (H2.box 3 rfl)) ?_⟩
    rintro _ w21 ⟨yW, rfl, hyW⟩
    obtain ⟨fW, H3⟩ := H2.gotBox hyW
    have pW : Pos (applyL (matL s.k s.l (vk.take 32)) (vZ s sig)) := applyL_pos _ _
    have nW : (applyL (matL s.k s.l (vk.take 32)) (vZ s sig)).length = s.k := by unfold applyL; rw [List.length_map, lA]
    refine asSl_s ⟨kp H2 rfl hyW.mod, call_of (sign_scaled_ok yB out B (vT1 s vk) (by omega) pB pT _ (H3.nums 6 rfl) (hout.mod0 (hyA.mod.trans hyW.mod))) ?_⟩
    rintro _ w22 ⟨yS, rfl, hyS⟩
    obtain ⟨fS, H4⟩ := H3.gotBox hyS
    have pS : Pos (scaledL B (vT1 s vk)) := scaledL_pos _ _
    have nS : (scaledL B (vT1 s vk)).length = s.k := (length_eachL _ _).trans nT
    refine asSl_s (call_of (sign_less_ok yW yS _ _ (by omega) (by omega) pW pS _ (H4.box 15 rfl) (H4.box 16 rfl)) ?_)
    rintro _ w23 ⟨yL, rfl, hyL⟩
    have eW : vW set s vk sig = lessL (applyL (matL s.k s.l (vk.take 32)) (vZ s sig)) (scaledL B (vT1 s vk)) := by unfold vW; rw [hB]
    rw [← eW] at hyL
    have pX : Pos (vW set s vk sig) := by rw [eW]; exact lessL_pos _ _
    have nX : (vW set s vk sig).length = s.k := by rw [eW]; exact (length_eachL _ _).trans nW
    generalize vW set s vk sig = X at *
    obtain ⟨fL, H5⟩ := H4.gotBox hyL
    have h7 : w23.cell? (Addr.add ⟨p, 0, none⟩ 7) = some (.int .i64 s.g2) := by rw [ad1, (H5.blk 0 rfl).cell]; rfl
    have hh1 : w23.cell? ⟨p1, 0, none⟩ = some (.slice yh.a yh.n yh.c) := H5.cell 5 rfl rfl rfl
    refine asSl_s (call_of (sign_each_ok _ (fun r f => useF s.g2 (HH.getD r []) f) yL X (by omega) w23 (H5.box 17 rfl) fun i y w' hi m hy => ver_1_tells hX.g2 h7 hh1 (H5.box 4 rfl) lHH pX (by omega) i y w' hi m hy) ?_)
    rintro _ w24 ⟨yU, rfl, hyU⟩
    change Boxed _ _ (fun w => Pols w yU (useL s.g2 HH X)) at hyU
    obtain ⟨fU, H6⟩ := H5.gotBox hyU
    have nU : (useL s.g2 HH X).length = s.k := (length_eachL _ _).trans nX
    have bU : Below (mOf s.g2) (useL s.g2 HH X) := eachL_all (p := fun f => f.length = 256 ∧ ∀ x ∈ f, 0 ≤ x ∧ x < mOf s.g2) fun i hi => use_below hX.g2 _ _ (pX.get hi).len
    have hbl2 : (highB s.g2 (useL s.g2 HH X)).length ≤ 1000000 := by
      obtain ⟨_, _, _, _, _, hw⟩ := hiW_blen hX.g2
      rw [high_len _ fun f hf => (bU f hf).1, nU]
      have : 32 * hiW s.g2 * s.k ≤ 32 * hiW s.g2 * 8 := Nat.mul_le_mul_left _ hk8
      omega
    generalize useL s.g2 HH X = UU at *
    refine asSl_s (call_of (lay_High_ok set his yU UU (by rw [hS]; exact nU) (by rw [hS]; exact bU) _ (H6.box 18 rfl)) ?_)
    rintro _ w25 ⟨yb, rfl, hyb, m25⟩
    rw [hS] at hyb
    have H7 := H6.got m25 hyb
    generalize highB s.g2 UU = HB at *
    have hml : mu.length ≤ 1000000 := by
      rw [hmu]; unfold muL
      have := spOut_len 136 31 (spOut 136 31 vk 64 ++ ([0, BitVec.ofNat 8 note.length] ++ (note ++ m))) 64 (by omega)
      rw [show ((64 : Nat) : Int) = 64 from rfl] at this
      omega
    refine ⟨_, rfl, yb, rfl, rfl, H7.ldI 0 rfl (ad1 p 8) rfl (H7.nw fun p4 w26 H8 _ => ?_)⟩
    refine call_of (sponge_Shake256_ok _ ⟨some ⟨p4, 0, none⟩, 2, 2⟩ [mu, HB] _ (Parts.of2b (H8.blk 20 rfl) (by simp) (H8.bytes 1 rfl) (off_nil _) (H8.bytes 19 rfl) (off_nil _)) (small2b rfl hml hbl2)) ?_
    rintro _ w27 ⟨yc, rfl, hyc, m27⟩
    rw [show [mu, HB].flatten = mu ++ HB by simp, ← hvch] at hyc
    have H9 := H8.got m27 hyc
    refine asSl_s (call_of (bytes_Equal_ok yc xc VCH (sig.take s.c) w27 (H9.bytes 21 rfl) (kc.mod0 H9.mod)) ?_)
    rintro _ w28 ⟨rfl, hw28⟩
    subst hw28
    refine asB_b (ite_intro (fun hne => ?_) (fun heq => ?_))
    · have hne : ¬ VCH = sig.take s.c := by simpa using hne
      rw [if_neg fun h => hne h.2]
      refine call_of (sign_fault_ok 7 (by decide) w28) ?_
      rintro e w29 ⟨h29, m29⟩
      have H10 := H9.gotE m29 h29
      refine Mine.retD H10 10 rfl fun w30 m30 H11 => ?_
      exact ⟨H11.isErr 22 rfl, H11.mod⟩
    · have heq : VCH = sig.take s.c := by simpa using heq
      rw [if_pos ⟨hnm, heq⟩]
      refine Mine.retD H9 10 rfl fun w30 m30 H11 => ?_
      exact ⟨IsErr.zero _ _, H11.mod⟩
end Go.Proofs.YtdnhoebcomffoaaGreatDoor
end
section
set_option linter.unusedVariables false
set_option linter.unusedSimpArgs false
/- THE STATEMENTS ON SIGNING: what is signed is taken. -/
namespace Go.Proofs.YtdnhoebcomffoaaGreatDoor
open Go Go.Ev
set_option maxRecDepth 20000
set_option linter.unusedVariables false
theorem signed_len {set : Int} {F note m rnd : List B8} (h : keyC set F.length = 0) (hs : sgC set (skL set F) note m rnd = 0) : (sgL set (skL set F) note m rnd).length = sgS set := by
  have h1 := signed_taken h hs
  unfold verC at h1
  split at h1
  · split at h1
    · rename_i h2; exact h2.2.1
    · exact absurd h1 (by decide)
  · exact absurd h1 (by decide)
theorem signed_code {set : Int} {F note m rnd : List B8} (h : keyC set F.length = 0) (hr : rnd.length = 32) (hn : note.length ≤ 255) : sgC set (skL set F) note m rnd = 0 ∨ sgC set (skL set F) note m rnd = 5 := by
  obtain ⟨his, -⟩ := keyC_zero h
  obtain ⟨-, q2, -, -, q5⟩ := parts_made h
  have hop : openC set (skL set F).length = 0 := by
    unfold openC
    rw [if_pos his, if_pos (by rw [q2]; exact (skS_skN his).symm)]
  unfold sgC
  rw [if_pos hop, if_pos ⟨hr, hn⟩, if_pos q5]
  split
  · exact .inl rfl
  · exact .inr rfl
end Go.Proofs.YtdnhoebcomffoaaGreatDoor
end
section
set_option linter.unusedVariables false
set_option linter.unusedSimpArgs false
/- READERS OF BYTES: what is left, or that something was wrong: the program's and the document's. -/
namespace Go.Proofs.YtdnhoebcomffoaaGreatDoor
open Go Go.Ev
set_option maxRecDepth 20000
set_option linter.unusedVariables false
/-- bytes as one word -/
def wd (l : List B8) : B64 := l.foldl (fun a x => (a <<< 8) ||| x.setWidth 64) 0
theorem wd_append (l : List B8) (x : B8) : wd (l ++ [x]) = (wd l <<< 8) ||| x.setWidth 64 := by simp [wd]
def numOf (l : List B8) : Int := IntKind.wrap .i64 ((wd l).toNat : Int)
/-- the next number, and what is left; none: something was wrong -/
def rNum (lo hi : Int) : Option (List B8) → Int × Option (List B8)
  | none => (0, none)
  | some l => if l.length < 8 then (0, none) else if numOf (l.take 8) < lo ∨ hi < numOf (l.take 8) then (0, none) else (numOf (l.take 8), some (l.drop 8))
/-- the next bytes, so many -/
def rTake (n : Int) : Option (List B8) → List B8 × Option (List B8)
  | none => ([], none)
  | some l => if (l.length : Int) < n then ([], none) else (l.take n.toNat, some (l.drop n.toNat))
theorem rTake_some (n : Int) (l : List B8) : rTake n (some l) = if (l.length : Int) < n then ([], none) else (l.take n.toNat, some (l.drop n.toNat)) := rfl
theorem rNum_some (lo hi : Int) (l : List B8) : rNum lo hi (some l) = if l.length < 8 then (0, none) else if numOf (l.take 8) < lo ∨ hi < numOf (l.take 8) then (0, none) else (numOf (l.take 8), some (l.drop 8)) := rfl
def rBytes (most : Int) (s : Option (List B8)) : List B8 × Option (List B8) := rTake (rNum 0 most s).1 (rNum 0 most s).2
def rEnd : Option (List B8) → Bool
  | none => false
  | some l => decide (l = [])
theorem rNum_pos {lo hi : Int} (h : 0 ≤ lo) (s : Option (List B8)) : 0 ≤ (rNum lo hi s).1 := by
  unfold rNum
  split
  · exact Int.le_refl 0
  · split
    · exact Int.le_refl 0
    · split
      · exact Int.le_refl 0
      · rename_i h1
        have : ¬ numOf _ < lo := fun h2 => h1 (.inl h2)
        show 0 ≤ numOf _
        omega
/-- a slice of a slice, whatever the world -/
structure Tail (B : SlV) (full : List B8) (x : SlV) (l : List B8) : Prop where
  byt : ∀ w, Bytes w B full → Bytes w x l
  within : Within x B
  cap : B.n ≤ B.c → x.n ≤ x.c ∧ x.c ≤ B.c
  shape : ∀ g, B.a = some ⟨g, 0, none⟩ → B.n ≤ B.c → x.n ≤ x.c ∧ ((x.a = none ∧ x.c = 0) ∨ ∃ off, x.a = some ⟨g, off, none⟩ ∧ off + x.c ≤ B.c)
theorem Tail.self (B : SlV) (full : List B8) : Tail B full B full := ⟨fun _ h => h, ⟨Nat.le_refl _, fun a ha => ⟨a, ha, rfl⟩⟩, fun h => ⟨h, Nat.le_refl _⟩, fun g hg hn => ⟨hn, .inr ⟨0, hg, by omega⟩⟩⟩
theorem Tail.nil (B : SlV) (full : List B8) : Tail B full ⟨none, 0, 0⟩ [] := ⟨fun w _ => Bytes.nil w, ⟨Nat.zero_le _, fun a ha => by cases ha⟩, fun _ => ⟨Nat.le_refl _, Nat.zero_le _⟩, fun g hg hn => ⟨Nat.le_refl _, .inl ⟨rfl, rfl⟩⟩⟩
theorem Within.trans {x y z : SlV} (h : Within x y) (k : Within y z) : Within x z := ⟨Nat.le_trans h.1 k.1, fun a ha => by
  obtain ⟨b, hb, e1⟩ := h.2 a ha
  obtain ⟨c, hc, e2⟩ := k.2 b hb
  exact ⟨c, hc, e1.trans e2⟩⟩
/-- a reader's state -/
def RdS (B : SlV) (full : List B8) (x : SlV) (bad : Bool) : Option (List B8) → Prop
  | none => bad = true
  | some l => bad = false ∧ Tail B full x l
theorem Tail.drop {B : SlV} {full : List B8} {x : SlV} {l : List B8} (h : Tail B full x l) (k : Nat) (hk : k ≤ x.n) : Tail B full ⟨sub x.a k x.c 1, x.n - k, x.c - k⟩ (l.drop k) := by
  refine ⟨fun w hB => ?_, Within.trans (Within.part x k _ _ _ _ (by omega)) h.within, fun hn => by have := h.cap hn; exact ⟨by show x.n - k ≤ x.c - k; omega, by show x.c - k ≤ B.c; omega⟩, fun g hg hn => ?_⟩
  rotate_left
  · obtain ⟨h1, h2⟩ := h.shape g hg hn
    refine ⟨by show x.n - k ≤ x.c - k; omega, ?_⟩
    unfold sub
    rcases h2 with ⟨h2, h3⟩ | ⟨off, h2, h3⟩
    · refine .inl ⟨?_, by show x.c - k = 0; omega⟩
      show (if x.c = k then x.a else _) = none
      rw [h2]
      split <;> rfl
    · by_cases hk2 : x.c = k
      · refine .inr ⟨off, ?_, by show off + (x.c - k) ≤ B.c; omega⟩
        show (if x.c = k then x.a else _) = _
        rw [if_pos hk2, h2]
      · refine .inr ⟨off + k, ?_, by show off + k + (x.c - k) ≤ B.c; omega⟩
        show (if x.c = k then x.a else _) = _
        rw [if_neg hk2, h2]
        show some (Addr.add ⟨g, off, none⟩ (k * 1)) = _
        rw [Nat.mul_one, Addr.add_lit]
  have h1 := h.byt w hB
  have := Sl.part h1 (by omega) k x.n hk (Nat.le_refl _)
  rw [List.take_of_length_le (by rw [List.length_drop, Sl.len h1, Nat.sub_mul]; exact Nat.le_refl _)] at this
  simp only [Nat.mul_one, u8s_drop] at this
  exact this
theorem Tail.head {B : SlV} {full : List B8} {x : SlV} {l : List B8} (h : Tail B full x l) (k : Nat) (hk : k ≤ x.n) : Tail B full ⟨x.a, k, k⟩ (l.take k) := by
  refine ⟨fun w hB => ?_, Within.trans ⟨hk, fun a ha => ⟨a, ha, rfl⟩⟩ h.within, fun hn => by have := h.cap hn; exact ⟨Nat.le_refl _, by show k ≤ B.c; omega⟩, fun g hg hn => ?_⟩
  rotate_left
  · obtain ⟨h1, h2⟩ := h.shape g hg hn
    refine ⟨Nat.le_refl _, ?_⟩
    rcases h2 with ⟨h2, h3⟩ | ⟨off, h2, h3⟩
    · exact .inl ⟨h2, by show k = 0; omega⟩
    · exact .inr ⟨off, h2, by show off + k ≤ B.c; omega⟩
  have h1 := h.byt w hB
  have hl := h1.len
  refine ⟨?_, Nat.le_refl _, fun h0 => h1.pre (Nat.lt_of_lt_of_le h0 hk), fun i v hv => ?_⟩
  · simp only [length_u8s, List.length_take]
    show min k l.length = k * 1
    omega
  · rw [← u8s_take, List.getElem?_take] at hv
    split at hv
    · exact h1.cell i v hv
    · cases hv
/-- what a reading leaves -/
def RdAt (w w' : World) (b : Nat) (t : TypeId) (B : SlV) (full : List B8) (s : Option (List B8)) : Prop :=
  ∃ (x : SlV) (bad : Bool), Blk w' b [x.v, .bool bad] t ∧ RdS B full x bad s ∧ Mod [b] w w'
theorem code_Reader_take_ok (b : Nat) (B : SlV) (full : List B8) (x : SlV) (bad : Bool) (s : Option (List B8)) (n : Int) (h0 : 0 ≤ n) (w : World) (hb : Blk w b [x.v, .bool bad] t_code_Reader) (hs : RdS B full x bad s) (hB : Bytes w B full) :
    Ok Pr f_code_Reader_take [.pointer (some ⟨b, 0, none⟩), .int .i64 n] w fun v w' => ∃ y : SlV, v = .slice y.a y.n y.c ∧ Tail B full y (rTake n s).1 ∧ RdAt w w' b t_code_Reader B full (rTake n s).2 := by
  refine V_code_Reader_take_of ?_
  unfold V_code_Reader_take
  have H := Mine.start1 (r := .blk b [x.v, .bool bad] t_code_Reader) hb
  obtain ⟨m, rfl⟩ : ∃ m : Nat, n = (m : Int) := ⟨n.toNat, by omega⟩
  refine join0_of fun go hgo => join1_of fun go1 hgo1 => ite_false rfl ?_
  have no : (rTake (m : Int) s) = ([], none) → go1 true w := by
    intro e
    rw [e] at hgo
    refine hgo1 true w (ite_true rfl (ite_true rfl (H.st 0 rfl (ad1 b 1) (by simp) rfl fun w' H => ?_)))
    rw [e]
    exact ⟨⟨none, 0, 0⟩, rfl, Tail.nil _ _, x, true, H.blk 0 rfl, rfl, H.mod⟩
  refine H.ldB 0 rfl (ad1 b 1) rfl ?_
  cases s with
  | none =>
    have hs : bad = true := hs
    subst hs
    exact ite_true rfl (no rfl)
  | some l =>
    obtain ⟨rfl, ht⟩ := hs
    have hx := ht.byt w hB
    have hxl := hx.len
    have hcap := Sl.cap hx
    refine ite_false rfl (H.ldL 0 rfl (ad1 b 0) rfl ?_)
    by_cases hc : (l.length : Int) < (m : Int)
    · rw [decide_eq_true (show ((x.n : Nat) : Int) < (m : Int) by omega)]
      exact no (by rw [rTake_some, if_pos hc])
    · have e : rTake (m : Int) (some l) = (l.take m, some (l.drop m)) := by rw [rTake_some, if_neg hc]; rfl
      rw [decide_eq_false (show ¬ ((x.n : Nat) : Int) < (m : Int) by omega)]
      refine hgo1 false w (ite_false rfl (hgo w (H.ldL 0 rfl (ad1 b 0) rfl ⟨⟨by omega, by omega, by omega⟩, H.ldL 0 rfl (ad1 b 0) rfl ⟨⟨by omega, by omega⟩, ?_⟩⟩)))
      refine H.st 0 rfl (ad1 b 0) (by simp) rfl fun w' H => ?_
      rw [e]
      simp only [Int.toNat_natCast] at H ⊢
      exact ⟨_, rfl, ht.head m (by omega), _, false, H.blk 0 rfl, ⟨rfl, ht.drop m (by omega)⟩, H.mod⟩
theorem wrap_u64_8 (x : B8) : IntKind.wrap .u64 (x.toNat : Int) = ((x.setWidth 64 : B64).toNat : Int) := by
  have := x.isLt
  rw [wrap_u64, BitVec.toNat_setWidth]
  omega
theorem wd_step (l : List B8) (i : Nat) (hi : i < l.length) : orI .u64 (shl .u64 ((wd (l.take i)).toNat : Int) 8) (IntKind.wrap .u64 ((l.getD i 0).toNat : Int)) = ((wd (l.take (i + 1))).toNat : Int) := by
  rw [take_succ_getD _ _ hi 0, wd_append, wrap_u64_8, show (8 : Int) = ((8 : Nat) : Int) from rfl, shl64, or64]
theorem code_Reader_Number_ok (b : Nat) (B : SlV) (full : List B8) (x : SlV) (bad : Bool) (s : Option (List B8)) (lo hi : Int) (w : World) (hb : Blk w b [x.v, .bool bad] t_code_Reader) (hs : RdS B full x bad s) (hB : Bytes w B full) (ho : off [b] B) :
    Ok Pr f_code_Reader_Number [.pointer (some ⟨b, 0, none⟩), .int .i64 lo, .int .i64 hi] w fun v w' => v = .int .i64 (rNum lo hi s).1 ∧ RdAt w w' b t_code_Reader B full (rNum lo hi s).2 := by
  refine V_code_Reader_Number_of ?_
  unfold V_code_Reader_Number
  refine call_of (code_Reader_take_ok b B full x bad s 8 (by omega) w hb hs hB) ?_
  rintro _ w1 ⟨y, rfl, hy, x1, bad1, hb1, hs1, m1⟩
  have hB1 := hB.mod m1 ho
  have hy1 := hy.byt w1 hB1
  have hyl := hy1.len
  refine asSl_s ?_
  have stop : ∀ {X : Prop}, rTake 8 s = ([], none) → rNum lo hi s = (0, none) → iteP (decide (((y.n : Nat) : Int) = 0)) (Value.int .i64 0 = .int .i64 (rNum lo hi s).1 ∧ RdAt w w1 b t_code_Reader B full (rNum lo hi s).2) X := by
    intro X e e2
    rw [e] at hyl hs1
    have h0 : y.n = 0 := by simpa using hyl.symm
    refine ite_true (decide_eq_true (by omega)) ?_
    rw [e2]
    exact ⟨rfl, x1, bad1, hb1, hs1, m1⟩
  cases s with
  | none => exact stop rfl rfl
  | some l =>
    by_cases hc : l.length < 8
    · exact stop (by rw [rTake_some, if_pos (by omega)]) (by rw [rNum_some, if_pos hc])
    have e : rTake 8 (some l) = (l.take 8, some (l.drop 8)) := by rw [rTake_some, if_neg (by omega)]; rfl
    rw [e] at hy1 hyl hs1
    have e2 : rNum lo hi (some l) = if numOf (l.take 8) < lo ∨ hi < numOf (l.take 8) then (0, none) else (numOf (l.take 8), some (l.drop 8)) := by rw [rNum_some, if_neg hc]
    rw [e2]
    have h8 : (l.take 8).length = 8 := by rw [List.length_take]; omega
    simp only at hy1 hyl hs1
    generalize l.take 8 = a at *
    generalize l.drop 8 = r at *
    refine ite_false (decide_eq_false (by omega)) ?_
    refine loop2_up 0 8 (fun i (word : Int) w' => word = ((wd (a.take i)).toNat : Int) ∧ w' = w1) rfl (by omega) ⟨rfl, rfl⟩ ?_ ?_
    · rintro again i word _ _ hi ⟨rfl, rfl⟩ hag
      refine ite_true (decide_eq_true (by omega)) (hy1.ld (by omega) ?_)
      show again _ _ _
      rw [wd_step _ _ (by omega), wrap_i64 (by omega) (by omega)]
      exact hag _ _ ⟨rfl, rfl⟩
    · rintro again word _ ⟨rfl, rfl⟩
      rw [List.take_of_length_le (by omega)]
      refine ite_false (decide_eq_false (by omega)) (ite_intro (fun h => ?_) (fun h => ?_))
      · have h : numOf a < lo ∨ hi < numOf a := by simpa [numOf] using h
        rw [if_pos h]
        have H := Mine.start1 (r := .blk b [x1.v, .bool bad1] t_code_Reader) hb1
        exact H.st 0 rfl (ad1 b 1) (by simp) rfl fun w3 H => ⟨rfl, x1, true, H.blk 0 rfl, rfl, m1.trans H.mod⟩
      · have h : ¬ (numOf a < lo ∨ hi < numOf a) := by
          simp only [Bool.or_eq_false_iff, decide_eq_false_iff_not] at h
          exact fun h2 => h2.elim h.1 h.2
        rw [if_neg h]
        exact ⟨rfl, x1, bad1, hb1, hs1, m1⟩
theorem code_Reader_Bytes_ok (b : Nat) (B : SlV) (full : List B8) (x : SlV) (bad : Bool) (s : Option (List B8)) (most : Int) (w : World) (hb : Blk w b [x.v, .bool bad] t_code_Reader) (hs : RdS B full x bad s) (hB : Bytes w B full) (ho : off [b] B) :
    Ok Pr f_code_Reader_Bytes [.pointer (some ⟨b, 0, none⟩), .int .i64 most] w fun v w' => ∃ y : SlV, v = .slice y.a y.n y.c ∧ Tail B full y (rBytes most s).1 ∧ RdAt w w' b t_code_Reader B full (rBytes most s).2 := by
  refine V_code_Reader_Bytes_of ?_
  unfold V_code_Reader_Bytes
  refine call_of (code_Reader_Number_ok b B full x bad s 0 most w hb hs hB ho) ?_
  rintro _ w1 ⟨rfl, x1, bad1, hb1, hs1, m1⟩
  refine asI_i (call_of (code_Reader_take_ok b B full x1 bad1 _ _ (rNum_pos (by omega) s) w1 hb1 hs1 (hB.mod m1 ho)) ?_)
  rintro _ w2 ⟨y, rfl, hy, x2, bad2, hb2, hs2, m2⟩
  exact asSl_s ⟨y, rfl, hy, x2, bad2, hb2, hs2, m1.trans m2⟩
theorem code_Reader_Text_ok (b : Nat) (B : SlV) (full : List B8) (x : SlV) (bad : Bool) (s : Option (List B8)) (most : Int) (w : World) (hb : Blk w b [x.v, .bool bad] t_code_Reader) (hs : RdS B full x bad s) (hB : Bytes w B full) (ho : off [b] B) :
    Ok Pr f_code_Reader_Text [.pointer (some ⟨b, 0, none⟩), .int .i64 most] w fun v w' => v = .string (strOf (rBytes most s).1) ∧ RdAt w w' b t_code_Reader B full (rBytes most s).2 := by
  refine V_code_Reader_Text_of ?_
  unfold V_code_Reader_Text
  refine call_of (code_Reader_Bytes_ok b B full x bad s most w hb hs hB ho) ?_
  rintro _ w1 ⟨y, rfl, hy, hr⟩
  have m : Mod [b] w w1 := by obtain ⟨_, _, _, _, m⟩ := hr; exact m
  exact asSl_s (b2s_of (hy.byt w1 (hB.mod m ho)) ⟨rfl, hr⟩)
theorem code_Reader_End_ok (b : Nat) (B : SlV) (full : List B8) (x : SlV) (bad : Bool) (s : Option (List B8)) (w : World) (hb : Blk w b [x.v, .bool bad] t_code_Reader) (hs : RdS B full x bad s) (hB : Bytes w B full) :
    Ok Pr f_code_Reader_End [.pointer (some ⟨b, 0, none⟩)] w fun v w' => IsErr w w' v (if rEnd s = true then 0 else 4) ∧ Mod [] w w' := by
  refine V_code_Reader_End_of ?_
  unfold V_code_Reader_End
  have hc : ∀ (i : Nat) (v : Value), ([x.v, .bool bad] : List Value)[i]? = some v → w.cell? ⟨b, i, none⟩ = some v := fun i v hv => by rw [hb.cell i]; exact hv
  refine ite_false rfl (join1_of fun go hgo => ⟨bad, hc 1 _ rfl, ?_⟩)
  have no : rEnd s = false → go true w := fun e => by
    rw [e] at hgo
    refine hgo true w (ite_true rfl (nw_blk fun p w' hp h1 h2 _ => ⟨?_, h2⟩))
    rw [if_neg (by decide)]
    exact IsErr.mk h1 (by omega) (by decide)
  cases s with
  | none =>
    have hs : bad = true := hs
    subst hs
    exact ite_true rfl (no rfl)
  | some l =>
    obtain ⟨rfl, ht⟩ := hs
    have hxl := (ht.byt w hB).len
    refine ite_false rfl ⟨x, hc 0 _ rfl, ?_⟩
    by_cases hl : l = []
    · subst hl
      have h0 : x.n = 0 := by simpa using hxl.symm
      show go (decide ((0 : Int) < ((x.n : Nat) : Int))) w
      rw [decide_eq_false (show ¬ (0 : Int) < ((x.n : Nat) : Int) by omega)]
      exact hgo false w (ite_false rfl ⟨IsErr.zero _ _, Mod.refl _ _⟩)
    · have h0 : 0 < l.length := List.length_pos_iff.2 hl
      show go (decide ((0 : Int) < ((x.n : Nat) : Int))) w
      rw [decide_eq_true (show (0 : Int) < ((x.n : Nat) : Int) by omega)]
      exact no (decide_eq_false hl)
end Go.Proofs.YtdnhoebcomffoaaGreatDoor
end
section
set_option linter.unusedVariables false
set_option linter.unusedSimpArgs false
/- READERS OF BYTES: the document's. -/
namespace Go.Proofs.YtdnhoebcomffoaaGreatDoor
open Go Go.Ev
set_option maxRecDepth 20000
set_option linter.unusedVariables false
theorem _root_.Go.Ev.Own.mono' {w : World} {a b : Nat} {e : TypeId} {sz : Nat} {s : SlV} {vs : List Value} (h : Own w a e sz s vs) (hb : b ≤ a) : Own w b e sz s vs :=
  ⟨h.1, h.2.imp id fun ⟨g, cap, cur, h1, h2, h3⟩ => ⟨g, cap, cur, h1, Nat.le_trans hb h2, h3⟩⟩
end Go.Proofs.YtdnhoebcomffoaaGreatDoor
end
section
set_option linter.unusedVariables false
set_option linter.unusedSimpArgs false
/- REQUESTS THAT ARE READ: by the program's ranges or by the document's: it comes to the same. -/
namespace Go.Proofs.YtdnhoebcomffoaaGreatDoor
open Go Go.Ev
set_option maxRecDepth 20000
set_option linter.unusedVariables false
def Rds (a b c d : Int × Int) (l : List B8) (q : AskV) (lb lt : List B8) (s : Option (List B8)) : Prop :=
  ∃ s1 s2 s3 s4 s5 s6 s7 s8 s9 s10 s11 sa sb nm, rNum a.1 a.2 (some l) = (q.n0, s1) ∧ rNum b.1 b.2 s1 = (q.n1, s2) ∧ rNum c.1 c.2 s2 = (q.n2, s3) ∧ rNum d.1 d.2 s3 = (q.n3, s4) ∧ rNum d.1 d.2 s4 = (q.n4, s5) ∧ rNum d.1 d.2 s5 = (q.n5, s6) ∧
    rNum d.1 d.2 s6 = (q.n6, s7) ∧ rNum d.1 d.2 s7 = (q.n7, s8) ∧ rNum d.1 d.2 s8 = (q.n8, s9) ∧ rNum d.1 d.2 s9 = (q.n9, s10) ∧ rNum d.1 d.2 s10 = (q.n10, s11) ∧ rBytes 300 s11 = (nm, sa) ∧ q.name = strOf nm ∧ rBytes 2000 sa = (lb, sb) ∧ rBytes 100 sb = (lt, s)
def mxC : Int := 1099511627776
end Go.Proofs.YtdnhoebcomffoaaGreatDoor
end
section
set_option linter.unusedVariables false
set_option linter.unusedSimpArgs false
/- A REQUEST'S BODY IS READ: the program's. -/
namespace Go.Proofs.YtdnhoebcomffoaaGreatDoor
open Go Go.Ev
set_option maxRecDepth 20000
set_option linter.unusedVariables false
theorem code_New_ok (x : SlV) (l : List B8) (hl : l.length ≤ 1000000) (w : World) (hx : Bytes w x l) : Ok Pr f_code_New [.slice x.a x.n x.c] w fun v w' =>
    ∃ (b : Nat) (B : SlV), v = .pointer (some ⟨b, 0, none⟩) ∧ Own w' w.heap.size t_uint8 1 B (u8s l) ∧ Blk w' b [B.v, .bool false] t_code_Reader ∧ w.heap.size ≤ b ∧ b ∉ B.row ∧ Mod [] w w' := by
  refine V_code_New_of ?_
  unfold V_code_New
  refine call_of (slices_Clone_byte_ok x l (by omega) w hx) ?_
  rintro _ w1 ⟨y, rfl, hy, m⟩
  have H := (Mine.start w).got m hy
  refine asSl_s (H.nw fun p w2 H hp => ?_)
  refine ⟨p, y, rfl, H.fresh0 0 rfl, H.blk 1 rfl, ?_, fun hc => H.apart 0 1 _ _ (by omega) rfl rfl p hc (by simp [Res.blk]), H.mod⟩
  exact (H.own 1 _ rfl p (by simp [Res.blk])).resolve_left (by simp)
/-- a reading under way: what is owned -/
def RQ (w0 w : World) (p b p1 : Nat) (B : SlV) (full : List B8) (s : Option (List B8)) (E : List Res) : Prop :=
  ∃ (x : SlV) (bad : Bool), Mine w0 [] w (.blk p askZ.cells t_api_Ask :: .row t_uint8 1 B (u8s full) :: .blk b [x.v, .bool bad] t_code_Reader :: .blk p1 [.pointer (some ⟨b, 0, none⟩)] t_p_code_Reader :: E) ∧ RdS B full x bad s
section
variable {w0 w : World} {p b p1 : Nat} {B : SlV} {full : List B8} {s s' : Option (List B8)} {E : List Res}
theorem RQ.off {w : World} {x : SlV} {bad : Bool} (H : Mine w0 [] w (.blk p askZ.cells t_api_Ask :: .row t_uint8 1 B (u8s full) :: .blk b [x.v, .bool bad] t_code_Reader :: .blk p1 [.pointer (some ⟨b, 0, none⟩)] t_p_code_Reader :: E)) : off [b] B := fun h0 a ha hc => by
  have hc : a.block = b := by simpa using hc
  have hr : b ∈ B.row := by unfold SlV.row; rw [ha]; show b ∈ [a.block]; rw [hc]; simp
  exact H.apart 1 2 _ _ (by omega) rfl rfl b hr (by simp [Res.blk])
theorem RQ.drew (h : RQ w0 w p b p1 B full s E) : RQ w0 w.drew p b p1 B full s E := by
  obtain ⟨x, bad, H, hs⟩ := h
  exact ⟨x, bad, H.drew, hs⟩
theorem RQ.kept {w' : World} {E' : List Res} {s' : Option (List B8)} (h : RQ w0 w p b p1 B full s E) (h' : RQ w0 w' p b p1 B full s' E') : Ev.kept ⟨p1, 0, none⟩ 1 w w' := by
  obtain ⟨x, bad, H, hs⟩ := h
  obtain ⟨x', bad', H', hs'⟩ := h'
  exact keptB (H.blk 3 rfl) (H'.blk 3 rfl) rfl
theorem RQ.ldP (h : RQ w0 w p b p1 B full s E) {K : Option Addr → Prop} (hK : K (some ⟨b, 0, none⟩)) : Ev.ldP ⟨p1, 0, none⟩ w K := by
  obtain ⟨x, bad, H, hs⟩ := h
  exact H.ldP 3 rfl rfl rfl hK
theorem RQ.next {w' : World} {v : Value} (h : RQ w0 w p b p1 B full s E) (hB : True) (hr : RdAt w w' b t_code_Reader B full s') : RQ w0 w' p b p1 B full s' E := by
  obtain ⟨x, bad, H, hs⟩ := h
  obtain ⟨x', bad', hb, hs', m⟩ := hr
  exact ⟨x', bad', H.upd (r' := .blk b [x'.v, .bool bad'] t_code_Reader) 2 rfl m (fun c hc => .inl hc) hb (fun c hc => .inl hc), hs'⟩
theorem RQ.num {lo hi n : Int} (h : RQ w0 w p b p1 B full s E) (e : rNum lo hi s = (n, s')) {K : Int → World → Prop} (hK : ∀ w', RQ w0 w' p b p1 B full s' E → Ev.kept ⟨p1, 0, none⟩ 1 w w' → K n w') :
    callK Pr f_code_Reader_Number [.pointer (some ⟨b, 0, none⟩), .int .i64 lo, .int .i64 hi] w fun v w' => asI .i64 v fun t => K t w' := by
  obtain ⟨x, bad, H, hs⟩ := id h
  refine call_of (code_Reader_Number_ok b B full x bad s lo hi w (H.blk 2 rfl) hs (H.bytes 1 rfl) (RQ.off H)) ?_
  rintro _ w' ⟨rfl, hr⟩
  rw [e] at hr ⊢
  have h' := h.next (v := .nilIface) trivial hr
  exact asI_i (hK w' h' (h.kept h'))
theorem RQ.clo {n : Int} (h : RQ w0 w p b p1 B full s E) (e : rNum 0 1099511627776 s = (n, s')) {K : Int → World → Prop} (hK : ∀ w', RQ w0 w' p b p1 B full s' E → Ev.kept ⟨p1, 0, none⟩ 1 w w' → K n w') :
    callK Pr f_ask_read_1 [.pointer (some ⟨p1, 0, none⟩)] w fun v w' => asI .i64 v fun t => K t w' := by
  have ok : Ok Pr f_ask_read_1 [.pointer (some ⟨p1, 0, none⟩)] w fun v w' => v = .int .i64 n ∧ RQ w0 w' p b p1 B full s' E := by
    refine V_ask_read_1_of ?_
    unfold V_ask_read_1
    exact h.ldP (h.num e fun w' h' _ => ⟨rfl, h'⟩)
  refine call_of ok ?_
  rintro _ w' ⟨rfl, h'⟩
  exact asI_i (hK w' h' (h.kept h'))
theorem RQ.nw (h : RQ w0 w p b p1 B full s []) {K : Addr → World → Prop} (hK : ∀ a w', RQ w0 w' p b p1 B full s [.blk a askZ.cells t_api_Ask] → Ev.kept ⟨p1, 0, none⟩ 1 w w' → K ⟨a, 0, none⟩ w') : Ev.nw t_api_Ask askZ.cells w K := by
  obtain ⟨x, bad, H, hs⟩ := id h
  refine H.nw fun a w' H' _ => ?_
  have h' : RQ w0 w' p b p1 B full s [.blk a askZ.cells t_api_Ask] := ⟨x, bad, H', hs⟩
  exact hK a w' h' (h.kept h')
theorem RQ.bytes {most : Int} {o : List B8} (h : RQ w0 w p b p1 B full s E) (e : rBytes most s = (o, s')) {K : SlV → World → Prop} (hK : ∀ y w', RQ w0 w' p b p1 B full s' E → Tail B full y o → Ev.kept ⟨p1, 0, none⟩ 1 w w' → K y w') :
    callK Pr f_code_Reader_Bytes [.pointer (some ⟨b, 0, none⟩), .int .i64 most] w fun v w' => asSl v fun t => K t w' := by
  obtain ⟨x, bad, H, hs⟩ := id h
  refine call_of (code_Reader_Bytes_ok b B full x bad s most w (H.blk 2 rfl) hs (H.bytes 1 rfl) (RQ.off H)) ?_
  rintro _ w' ⟨y, rfl, hy, hr⟩
  rw [e] at hr hy
  have h' := h.next (v := .nilIface) trivial hr
  exact asSl_s (hK y w' h' hy (h.kept h'))
theorem RQ.text {most : Int} {o : List B8} (h : RQ w0 w p b p1 B full s E) (e : rBytes most s = (o, s')) {K : ByteArray → World → Prop} (hK : ∀ w', RQ w0 w' p b p1 B full s' E → Ev.kept ⟨p1, 0, none⟩ 1 w w' → K (strOf o) w') :
    callK Pr f_code_Reader_Text [.pointer (some ⟨b, 0, none⟩), .int .i64 most] w fun v w' => asStr v fun t => K t w' := by
  obtain ⟨x, bad, H, hs⟩ := id h
  refine call_of (code_Reader_Text_ok b B full x bad s most w (H.blk 2 rfl) hs (H.bytes 1 rfl) (RQ.off H)) ?_
  rintro _ w' ⟨rfl, hr⟩
  rw [e] at hr ⊢
  have h' := h.next (v := .nilIface) trivial hr
  exact ⟨_, rfl, hK w' h' (h.kept h')⟩
end
theorem zc_pR : zc Pr t_p_code_Reader = [.pointer none] := by kernel_rfl
theorem ask_read_ok (x : SlV) (l : List B8) (hl : l.length ≤ 100000) (w : World) (hx : Bytes w x l) : Ok Pr f_ask_read [.slice x.a x.n x.c] w fun v w' =>
    ∃ (q : AskV) (lb lt : List B8) (s : Option (List B8)) (B : SlV), v = .tuple ⟨[.agg ⟨q.cells⟩, .bool (rEnd s && mayAsk q)]⟩ ∧ Rds (1, 6) (1, mxC) (1, 13) (0, mxC) l q lb lt s ∧ Own w' w.heap.size t_uint8 1 B (u8s l) ∧ Tail B l q.by_ lb ∧ Tail B l q.tok lt ∧ Mod [] w w' := by
  refine V_ask_read_of ?_
  unfold V_ask_read
  rw [zc_Ask, zc_pR]
  refine (Mine.start w).nw fun p w1 H _ => call_of (code_New_ok x l (by omega) _ (hx.mod0 H.mod)) ?_
  rintro _ w2 ⟨b, B, rfl, hB, hR, hge, hd, m⟩
  have H := H.push2 m (r := .row t_uint8 1 B (u8s l)) (s := .blk b [B.v, .bool false] t_code_Reader) (hB.mono' (Nat.zero_le _)) hR (fun c hc => (hB.row_ge c hc).1) (fun c hc => by rw [List.mem_singleton.1 hc]; exact hge) (fun c hc hcb => hd (by rw [← List.mem_singleton.1 hcb]; exact hc))
  refine asP_p (H.nw fun p1 w3 H _ => H.st 3 rfl rfl (by simp) rfl fun w4 H => ?_)
  have h0 : RQ w w4 p b p1 B l (some l) [] := ⟨B, false, H, rfl, Tail.self B l⟩
  obtain ⟨v0, s1, e1⟩ : ∃ v s', rNum 1 6 (some l) = (v, s') := ⟨_, _, rfl⟩
  obtain ⟨v1, s2, e2⟩ : ∃ v s', rNum 1 1099511627776 s1 = (v, s') := ⟨_, _, rfl⟩
  obtain ⟨v2, s3, e3⟩ : ∃ v s', rNum 1 13 s2 = (v, s') := ⟨_, _, rfl⟩
  obtain ⟨v3, s4, e4⟩ : ∃ v s', rNum 0 1099511627776 s3 = (v, s') := ⟨_, _, rfl⟩
  obtain ⟨v4, s5, e5⟩ : ∃ v s', rNum 0 1099511627776 s4 = (v, s') := ⟨_, _, rfl⟩
  obtain ⟨v5, s6, e6⟩ : ∃ v s', rNum 0 1099511627776 s5 = (v, s') := ⟨_, _, rfl⟩
  obtain ⟨v6, s7, e7⟩ : ∃ v s', rNum 0 1099511627776 s6 = (v, s') := ⟨_, _, rfl⟩
  obtain ⟨v7, s8, e8⟩ : ∃ v s', rNum 0 1099511627776 s7 = (v, s') := ⟨_, _, rfl⟩
  obtain ⟨v8, s9, e9⟩ : ∃ v s', rNum 0 1099511627776 s8 = (v, s') := ⟨_, _, rfl⟩
  obtain ⟨v9, s10, e10⟩ : ∃ v s', rNum 0 1099511627776 s9 = (v, s') := ⟨_, _, rfl⟩
  obtain ⟨v10, s11, e11⟩ : ∃ v s', rNum 0 1099511627776 s10 = (v, s') := ⟨_, _, rfl⟩
  obtain ⟨nm, sa, ea⟩ : ∃ v s', rBytes 300 s11 = (v, s') := ⟨_, _, rfl⟩
  obtain ⟨lb, sb, eb⟩ : ∃ v s', rBytes 2000 sa = (v, s') := ⟨_, _, rfl⟩
  obtain ⟨lt, sc, ec⟩ : ∃ v s', rBytes 100 sb = (v, s') := ⟨_, _, rfl⟩
  refine join1_of fun go hgo => ?_
  have last : ∀ a w', RQ w w' p b p1 B l s11 [.blk a askZ.cells t_api_Ask] → sT_api_Ask ⟨a, 0, none⟩ v0 v1 v2 v3 v4 v5 v6 v7 v8 v9 v10 S_empty ⟨none, 0, 0⟩ ⟨none, 0, 0⟩ w' (fun w'' => go ⟨a, 0, none⟩ w'') := by
    rintro a w5 ⟨x5, bad5, H, hs5⟩
    refine H.sT_api_Ask 4 rfl rfl fun w6 H => hgo _ w6 ?_
    have h6 : RQ w w6 p b p1 B l s11 [.blk a (⟨v0, v1, v2, v3, v4, v5, v6, v7, v8, v9, v10, S_empty, ⟨none, 0, 0⟩, ⟨none, 0, 0⟩⟩ : AskV).cells t_api_Ask] := ⟨x5, bad5, H, hs5⟩
    have h6 := h6.drew
    refine h6.ldP (h6.ldP (h6.ldP (h6.text ea fun w7 h7 k7 => ⟨k7, k7, h7.bytes eb fun y2 w8 h8 t2 k8 => ⟨k8, h8.bytes ec fun y3 w9 h9 t3 k9 => ?_⟩⟩)))
    obtain ⟨x9, bad9, H, hs9⟩ := h9
    refine H.st 4 rfl (ad1 a 11) (by simp) rfl fun w10 H => H.st 4 rfl (ad1 a 12) (by simp) rfl fun w11 H => H.st 4 rfl (ad1 a 13) (by simp) rfl fun w12 H => ?_
    obtain ⟨q, hq⟩ : ∃ q : AskV, q = ⟨v0, v1, v2, v3, v4, v5, v6, v7, v8, v9, v10, strOf nm, y2, y3⟩ := ⟨_, rfl⟩
    have H : Mine w [] w12 [.blk p askZ.cells t_api_Ask, .row t_uint8 1 B (u8s l), .blk b [x9.v, .bool bad9] t_code_Reader, .blk p1 [.pointer (some ⟨b, 0, none⟩)] t_p_code_Reader, .blk a q.cells t_api_Ask] := by
      rw [hq]; exact H
    have hrd : Rds (1, 6) (1, mxC) (1, 13) (0, mxC) l q lb lt sc := by
      rw [hq]
      exact ⟨s1, s2, s3, s4, s5, s6, s7, s8, s9, s10, s11, sa, sb, nm, e1, e2, e3, e4, e5, e6, e7, e8, e9, e10, e11, ea, rfl, eb, ec⟩
    have ty : Tail B l q.by_ lb := by rw [hq]; exact t2
    have tt : Tail B l q.tok lt := by rw [hq]; exact t3
    have H := H.drew
    refine H.ld_api_Ask 4 rfl (H.ldP 3 rfl rfl rfl (call_of (code_Reader_End_ok b B l x9 bad9 sc _ (H.blk 2 rfl) hs9 (H.bytes 1 rfl)) ?_))
    rintro er w13 ⟨he, m13⟩
    have H13 := H.frame m13
    refine ⟨keptB (H.blk 4 rfl) (H13.blk 4 rfl) rfl, he.1.isNil (H13.ld_api_Ask 4 rfl ?_)⟩
    cases hend : rEnd sc with
    | true =>
      refine ite_true rfl (call_of (ask_May_ok q _) ?_)
      rintro _ w14 ⟨rfl, m14⟩
      have H14 := H13.frame m14
      refine asB_b ⟨keptB (H13.blk 4 rfl) (H14.blk 4 rfl) rfl, H14.sT_api_Ask 0 rfl rfl fun w15 H15 => H15.ld_api_Ask 0 rfl ?_⟩
      exact ⟨q, lb, lt, sc, B, by rw [hend, Bool.true_and], hrd, H15.fresh0 1 rfl, ty, tt, H15.mod⟩
    | false =>
      refine ite_false rfl ⟨keptB (H13.blk 4 rfl) (H13.blk 4 rfl) rfl, H13.sT_api_Ask 0 rfl rfl fun w15 H15 => H15.ld_api_Ask 0 rfl ?_⟩
      exact ⟨q, lb, lt, sc, B, by rw [hend, Bool.false_and], hrd, H15.fresh0 1 rfl, ty, tt, H15.mod⟩
  clear hgo
  have hq0 := h0.drew
  refine hq0.ldP ?_
  refine hq0.ldP ?_
  refine hq0.ldP ?_
  refine ⟨?_, ?_⟩
  · refine RQ.num hq0 e1 fun w101 hq1 hk1 => ?_
    refine ⟨hk1, ?_⟩
    refine ⟨hk1, ?_⟩
    refine ⟨?_, ?_⟩
    · refine RQ.num hq1 e2 fun w102 hq2 hk2 => ?_
      refine ⟨hk2, ?_⟩
      refine ⟨?_, ?_⟩
      · refine RQ.num hq2 e3 fun w103 hq3 hk3 => ?_
        refine ⟨?_, ?_⟩
        · refine RQ.clo hq3 e4 fun w104 hq4 hk4 => ?_
          refine ⟨?_, ?_⟩
          · refine RQ.clo hq4 e5 fun w105 hq5 hk5 => ?_
            refine ⟨?_, ?_⟩
            · refine RQ.clo hq5 e6 fun w106 hq6 hk6 => ?_
              refine ⟨?_, ?_⟩
              · refine RQ.clo hq6 e7 fun w107 hq7 hk7 => ?_
                refine ⟨?_, ?_⟩
                · refine RQ.clo hq7 e8 fun w108 hq8 hk8 => ?_
                  refine ⟨?_, ?_⟩
                  · refine RQ.clo hq8 e9 fun w109 hq9 hk9 => ?_
                    refine ⟨?_, ?_⟩
                    · refine RQ.clo hq9 e10 fun w110 hq10 hk10 => ?_
                      refine ⟨?_, ?_⟩
                      · refine RQ.clo hq10 e11 fun w111 hq11 hk11 => ?_
                        refine RQ.nw hq11 fun a w112 hq12 hk12 => ?_
                        refine ⟨hk12, ?_⟩
                        refine ⟨hk12, ?_⟩
                        refine ⟨hk12, ?_⟩
                        exact last _ _ hq12
                      · refine RQ.nw hq10 fun a w113 hq13 hk13 => ?_
                        refine ⟨hk13, ?_⟩
                        refine ⟨hk13, ?_⟩
                        refine ⟨hk13, ?_⟩
                        refine RQ.clo hq13 e11 fun w114 hq14 hk14 => ?_
                        exact last _ _ hq14
                    · refine RQ.nw hq9 fun a w115 hq15 hk15 => ?_
                      refine ⟨hk15, ?_⟩
                      refine ⟨hk15, ?_⟩
                      refine ⟨hk15, ?_⟩
                      refine RQ.clo hq15 e10 fun w116 hq16 hk16 => ?_
                      refine RQ.clo hq16 e11 fun w117 hq17 hk17 => ?_
                      exact last _ _ hq17
                  · refine RQ.nw hq8 fun a w118 hq18 hk18 => ?_
                    refine ⟨hk18, ?_⟩
                    refine ⟨hk18, ?_⟩
                    refine ⟨hk18, ?_⟩
                    refine RQ.clo hq18 e9 fun w119 hq19 hk19 => ?_
                    refine RQ.clo hq19 e10 fun w120 hq20 hk20 => ?_
                    refine RQ.clo hq20 e11 fun w121 hq21 hk21 => ?_
                    exact last _ _ hq21
                · refine RQ.nw hq7 fun a w122 hq22 hk22 => ?_
                  refine ⟨hk22, ?_⟩
                  refine ⟨hk22, ?_⟩
                  refine ⟨hk22, ?_⟩
                  refine RQ.clo hq22 e8 fun w123 hq23 hk23 => ?_
                  refine RQ.clo hq23 e9 fun w124 hq24 hk24 => ?_
                  refine RQ.clo hq24 e10 fun w125 hq25 hk25 => ?_
                  refine RQ.clo hq25 e11 fun w126 hq26 hk26 => ?_
                  exact last _ _ hq26
              · refine RQ.nw hq6 fun a w127 hq27 hk27 => ?_
                refine ⟨hk27, ?_⟩
                refine ⟨hk27, ?_⟩
                refine ⟨hk27, ?_⟩
                refine RQ.clo hq27 e7 fun w128 hq28 hk28 => ?_
                refine RQ.clo hq28 e8 fun w129 hq29 hk29 => ?_
                refine RQ.clo hq29 e9 fun w130 hq30 hk30 => ?_
                refine RQ.clo hq30 e10 fun w131 hq31 hk31 => ?_
                refine RQ.clo hq31 e11 fun w132 hq32 hk32 => ?_
                exact last _ _ hq32
            · refine RQ.nw hq5 fun a w133 hq33 hk33 => ?_
              refine ⟨hk33, ?_⟩
              refine ⟨hk33, ?_⟩
              refine ⟨hk33, ?_⟩
              refine RQ.clo hq33 e6 fun w134 hq34 hk34 => ?_
              refine RQ.clo hq34 e7 fun w135 hq35 hk35 => ?_
              refine RQ.clo hq35 e8 fun w136 hq36 hk36 => ?_
              refine RQ.clo hq36 e9 fun w137 hq37 hk37 => ?_
              refine RQ.clo hq37 e10 fun w138 hq38 hk38 => ?_
              refine RQ.clo hq38 e11 fun w139 hq39 hk39 => ?_
              exact last _ _ hq39
          · refine RQ.nw hq4 fun a w140 hq40 hk40 => ?_
            refine ⟨hk40, ?_⟩
            refine ⟨hk40, ?_⟩
            refine ⟨hk40, ?_⟩
            refine RQ.clo hq40 e5 fun w141 hq41 hk41 => ?_
            refine RQ.clo hq41 e6 fun w142 hq42 hk42 => ?_
            refine RQ.clo hq42 e7 fun w143 hq43 hk43 => ?_
            refine RQ.clo hq43 e8 fun w144 hq44 hk44 => ?_
            refine RQ.clo hq44 e9 fun w145 hq45 hk45 => ?_
            refine RQ.clo hq45 e10 fun w146 hq46 hk46 => ?_
            refine RQ.clo hq46 e11 fun w147 hq47 hk47 => ?_
            exact last _ _ hq47
        · refine RQ.nw hq3 fun a w148 hq48 hk48 => ?_
          refine ⟨hk48, ?_⟩
          refine ⟨hk48, ?_⟩
          refine ⟨hk48, ?_⟩
          refine RQ.clo hq48 e4 fun w149 hq49 hk49 => ?_
          refine RQ.clo hq49 e5 fun w150 hq50 hk50 => ?_
          refine RQ.clo hq50 e6 fun w151 hq51 hk51 => ?_
          refine RQ.clo hq51 e7 fun w152 hq52 hk52 => ?_
          refine RQ.clo hq52 e8 fun w153 hq53 hk53 => ?_
          refine RQ.clo hq53 e9 fun w154 hq54 hk54 => ?_
          refine RQ.clo hq54 e10 fun w155 hq55 hk55 => ?_
          refine RQ.clo hq55 e11 fun w156 hq56 hk56 => ?_
          exact last _ _ hq56
      · refine RQ.nw hq2 fun a w157 hq57 hk57 => ?_
        refine ⟨hk57, ?_⟩
        refine ⟨hk57, ?_⟩
        refine ⟨hk57, ?_⟩
        refine RQ.num hq57 e3 fun w158 hq58 hk58 => ?_
        refine RQ.clo hq58 e4 fun w159 hq59 hk59 => ?_
        refine RQ.clo hq59 e5 fun w160 hq60 hk60 => ?_
        refine RQ.clo hq60 e6 fun w161 hq61 hk61 => ?_
        refine RQ.clo hq61 e7 fun w162 hq62 hk62 => ?_
        refine RQ.clo hq62 e8 fun w163 hq63 hk63 => ?_
        refine RQ.clo hq63 e9 fun w164 hq64 hk64 => ?_
        refine RQ.clo hq64 e10 fun w165 hq65 hk65 => ?_
        refine RQ.clo hq65 e11 fun w166 hq66 hk66 => ?_
        exact last _ _ hq66
    · refine RQ.nw hq1 fun a w167 hq67 hk67 => ?_
      refine ⟨hk67, ?_⟩
      refine ⟨hk67, ?_⟩
      refine ⟨hk67, ?_⟩
      refine RQ.num hq67 e2 fun w168 hq68 hk68 => ?_
      refine ⟨hk68, ?_⟩
      refine RQ.num hq68 e3 fun w169 hq69 hk69 => ?_
      refine RQ.clo hq69 e4 fun w170 hq70 hk70 => ?_
      refine RQ.clo hq70 e5 fun w171 hq71 hk71 => ?_
      refine RQ.clo hq71 e6 fun w172 hq72 hk72 => ?_
      refine RQ.clo hq72 e7 fun w173 hq73 hk73 => ?_
      refine RQ.clo hq73 e8 fun w174 hq74 hk74 => ?_
      refine RQ.clo hq74 e9 fun w175 hq75 hk75 => ?_
      refine RQ.clo hq75 e10 fun w176 hq76 hk76 => ?_
      refine RQ.clo hq76 e11 fun w177 hq77 hk77 => ?_
      exact last _ _ hq77
  · refine RQ.nw hq0 fun a w178 hq78 hk78 => ?_
    refine ⟨hk78, ?_⟩
    refine ⟨hk78, ?_⟩
    refine ⟨hk78, ?_⟩
    refine RQ.num hq78 e1 fun w179 hq79 hk79 => ?_
    refine ⟨hk79, ?_⟩
    refine ⟨hk79, ?_⟩
    refine RQ.num hq79 e2 fun w180 hq80 hk80 => ?_
    refine ⟨hk80, ?_⟩
    refine RQ.num hq80 e3 fun w181 hq81 hk81 => ?_
    refine RQ.clo hq81 e4 fun w182 hq82 hk82 => ?_
    refine RQ.clo hq82 e5 fun w183 hq83 hk83 => ?_
    refine RQ.clo hq83 e6 fun w184 hq84 hk84 => ?_
    refine RQ.clo hq84 e7 fun w185 hq85 hk85 => ?_
    refine RQ.clo hq85 e8 fun w186 hq86 hk86 => ?_
    refine RQ.clo hq86 e9 fun w187 hq87 hk87 => ?_
    refine RQ.clo hq87 e10 fun w188 hq88 hk88 => ?_
    refine RQ.clo hq88 e11 fun w189 hq89 hk89 => ?_
    exact last _ _ hq89
end Go.Proofs.YtdnhoebcomffoaaGreatDoor
end
section
set_option linter.unusedVariables false
set_option linter.unusedSimpArgs false
/- THE STATEMENTS' OWN CODE answers true: chapter 15, bodies. -/
namespace Go.Proofs.YtdnhoebcomffoaaGreatDoor
open Go Go.Ev
set_option maxRecDepth 20000
set_option linter.unusedVariables false
def askOne : AskV := ⟨1, 2, 9, 0, 1, 0, 0, 0, 0, 0, 0, S_empty, ⟨none, 0, 0⟩, ⟨none, 0, 0⟩⟩
theorem law15_one_ok (w : World) : Ok Pr f_law15_one [] w fun v w' => v = .agg ⟨askOne.cells⟩ ∧ Mod [] w w' := by
  refine V_law15_one_of ?_
  unfold V_law15_one
  rw [zc_Ask]
  exact (Mine.start w).nw fun p w1 H _ => H.sT_api_Ask 0 rfl rfl fun w2 H => H.ld_api_Ask 0 rfl ⟨rfl, H.mod⟩
theorem as_Ask {q : AskV} {K : Int → Int → Int → Int → Int → Int → Int → Int → Int → Int → Int → ByteArray → SlV → SlV → Prop} (h : K q.n0 q.n1 q.n2 q.n3 q.n4 q.n5 q.n6 q.n7 q.n8 q.n9 q.n10 q.name q.by_ q.tok) : as_api_Ask (.agg ⟨q.cells⟩) K := as_api_Ask_of h
theorem may_one : mayAsk askOne = true := by decide +kernel
theorem may_zero : mayAsk askZ = false := by decide +kernel
theorem length_bodyAsk (q : AskV) (lb lt : List B8) : (bodyAsk q lb lt).length = 112 + q.name.size + lb.length + lt.length := by
  unfold bodyAsk laids laid
  simp only [List.length_append, List.map_cons, List.map_nil, List.flatten_cons, List.flatten_nil, length_be, length_bes, length_bOf, List.append_nil, length_nums]
  omega
theorem bodyL_yes {q : AskV} (h : mayAsk q = true) (lb lt : List B8) : bodyL q lb lt = bodyAsk q lb lt ∧ bodyC q = 0 := by
  constructor
  · unfold bodyL; rw [if_pos h]
  · unfold bodyC; rw [if_pos h]
theorem bodyL_no {q : AskV} (h : mayAsk q = false) (lb lt : List B8) : bodyL q lb lt = [] ∧ bodyC q = 2 := by
  constructor
  · unfold bodyL; rw [h]; rfl
  · unfold bodyC; rw [h]; rfl
theorem same_self (q : AskV) (lb lt : List B8) : sameAsk q lb lt q lb lt = true := by unfold sameAsk; simp
theorem law15_awake_ok (w : World) (hg : Laid w) : Ok Pr f_law15_awake [] w fun v w' => v = .bool true ∧ Mod [] w w' := by
  refine V_law15_awake_of ?_
  unfold V_law15_awake
  rw [zc_Ask]
  refine call_of (law15_one_ok w) ?_
  rintro _ w1 ⟨rfl, m1⟩
  have H := (Mine.start w).frame m1
  refine as_Ask (q := askOne) (call_of (ask_Body_ok askOne [] [] _ (Bytes.nil _) (Bytes.nil _)) ?_)
  rintro _ w2 ⟨y, er, rfl, hy, he, hn, m2⟩
  obtain ⟨e1, e2⟩ := bodyL_yes may_one [] []
  rw [e1] at hy
  rw [e2] at he hn
  have H := H.got2 m2 hy he hn
  refine ⟨_, rfl, y, rfl, rfl, ?_⟩
  refine call_of (ask_Read_size ⟨none, 0, 0⟩ (.inl (by show 0 < 2420; omega)) _) ?_
  rintro _ w3 ⟨er2, rfl, he2, m3⟩
  have H := H.gotE m3 he2
  refine ⟨_, rfl, as_Ask (q := askZ) ⟨⟨none, 0, 0⟩, rfl, ⟨none, 0, 0⟩, rfl, rfl, ?_⟩⟩
  refine H.nw fun p w4 H _ => H.sT_api_Ask 3 rfl rfl fun w5 H => ?_
  have hyl := hy.bytes.len
  rw [length_bodyAsk] at hyl
  refine ite_true (by rw [← hyl]; rfl) ((H.err 1 rfl).isNil (ite_true rfl ?_))
  refine call_of (law0_Num_err er2 3 _ (hg.mine H (by simp)) (H.err 2 rfl)) ?_
  rintro _ w6 ⟨rfl, m6⟩
  have H := H.frame m6
  refine asI_i (ite_true rfl (call_of (law15_one_ok _) ?_))
  rintro _ w7 ⟨rfl, m7⟩
  have H := H.frame m7
  refine as_Ask (q := askOne) (call_of (ask_May_ok askOne _) ?_)
  rintro _ w8 ⟨rfl, m8⟩
  have H := H.frame m8
  rw [may_one]
  refine asB_b (ite_true rfl (call_of (ask_May_ok askZ _) ?_))
  rintro _ w9 ⟨rfl, m9⟩
  have H := H.frame m9
  rw [may_zero]
  refine asB_b (ite_true rfl (call_of (law15_one_ok _) ?_))
  rintro _ w10 ⟨rfl, m10⟩
  have H := H.frame m10
  refine as_Ask (q := askOne) (call_of (law15_one_ok _) ?_)
  rintro _ w11 ⟨rfl, m11⟩
  have H := H.frame m11
  refine as_Ask (q := askOne) (call_of (ask_Same_ok askOne [] [] askOne [] [] _ (Bytes.nil _) (Bytes.nil _) (Bytes.nil _) (Bytes.nil _)) ?_)
  rintro _ w12 ⟨rfl, m12⟩
  rw [same_self]
  exact asB_b ⟨rfl, (H.frame m12).mod⟩
theorem awake15_of {w0 w : World} {L : List Res} (hg : Laid w0) (H : Mine w0 [] w L) : callK Pr f_law15_awake [] w fun v w' => asB v fun t => (Value.bool t = .bool true ∧ Mod [] w0 w') := by
  refine call_of (law15_awake_ok w (hg.mine H (by simp))) ?_
  rintro _ w1 ⟨rfl, m⟩
  exact asB_b ⟨rfl, (H.frame m).mod⟩
end Go.Proofs.YtdnhoebcomffoaaGreatDoor
end
section
set_option linter.unusedVariables false
set_option linter.unusedSimpArgs false
/- A REQUEST, ITS BODY AND ITS SIGNATURE ARE READ: the program's and the document's. -/
namespace Go.Proofs.YtdnhoebcomffoaaGreatDoor
open Go Go.Ev
set_option maxRecDepth 20000
set_option linter.unusedVariables false
theorem _root_.Go.Ev.Mine.pick {w0 w : World} {S : List Nat} {L L' : List Res} (H : Mine w0 S w L) (f : Nat → Nat) (h : ∀ j r, L'[j]? = some r → L[f j]? = some r) (hi : ∀ i, i < L'.length → ∀ j, j < L'.length → f i = f j → i = j) : Mine w0 S w L' :=
  ⟨H.mod, fun k r hk => H.ok _ r (h k r hk), fun k r hk => H.own _ r (h k r hk), fun j k r s hjk hj hk =>
    H.apart (f j) (f k) r s (fun e => hjk (hi j (List.getElem?_eq_some_iff.1 hj).1 k (List.getElem?_eq_some_iff.1 hk).1 e)) (h j r hj) (h k s hk)⟩
theorem lt_of {A : Type} {x : A} {K : A → Prop} (h : K x) : lt x K := h
/-- what is told of bytes -/
def Out (a b c d : Int × Int) (l : List B8) (q : AskV) (lb lt o1 o2 : List B8) (e : Int) : Prop :=
  ((l.length < 2420 ∨ 6000 < l.length) ∧ q = askZ ∧ lb = [] ∧ lt = [] ∧ o1 = [] ∧ o2 = [] ∧ e = 3) ∨
  (¬ (l.length < 2420 ∨ 6000 < l.length) ∧ ∃ q' lb' lt' s, Rds a b c d (l.take (l.length - 2420)) q' lb' lt' s ∧ q'.by_.n = lb'.length ∧ q'.tok.n = lt'.length ∧
    (((rEnd s && mayAsk q') = false ∧ q = askZ ∧ lb = [] ∧ lt = [] ∧ o1 = [] ∧ o2 = [] ∧ e = 4) ∨
     ((rEnd s && mayAsk q') = true ∧ q = q' ∧ lb = lb' ∧ lt = lt' ∧ o1 = l.take (l.length - 2420) ∧ o2 = l.drop (l.length - 2420) ∧ e = 0)))
theorem ask_Read_ok (x : SlV) (l : List B8) (w : World) (hx : Bytes w x l) : Ok Pr f_ask_Read [.slice x.a x.n x.c] w fun v w' => ∃ (q : AskV) (er : Value) (y1 y2 B B2 : SlV) (fB fB2 lb lt o1 o2 : List B8) (c : Int),
    v = .tuple ⟨[.agg ⟨q.cells⟩, .slice y1.a y1.n y1.c, .slice y2.a y2.n y2.c, er]⟩ ∧ Mine w [] w' [.row t_uint8 1 B (u8s fB), .row t_uint8 1 B2 (u8s fB2), Res.err er c] ∧ Tail B fB q.by_ lb ∧ Tail B fB q.tok lt ∧ Tail B2 fB2 y1 o1 ∧ Tail B2 fB2 y2 o2 ∧
    fB.length ≤ 6000 ∧ fB2.length ≤ 6000 ∧ Out (1, 6) (1, mxC) (1, 13) (0, mxC) l q lb lt o1 o2 c := by
  have hxl := hx.len
  by_cases hs : l.length < 2420 ∨ 6000 < l.length
  · refine Ok.mono (ask_Read_size x (by omega) w) ?_
    rintro _ w' ⟨er, rfl, he, m⟩
    have H := ((Mine.start w).got m (Own.nil w' w.heap.size t_uint8 1))
    have H := H.got (Mod.refl [] w') (Own.nil w' w'.heap.size t_uint8 1)
    have H2 := (Mine.start w).gotE m he
    have H : Mine w [] w' [.row t_uint8 1 ⟨none, 0, 0⟩ (u8s []), .row t_uint8 1 ⟨none, 0, 0⟩ (u8s []), Res.err er 3] := H.add (H2.ok 0 _ rfl) (H2.own 0 _ rfl) fun k s hk b hb => by
      match k with
      | 0 => simp at hk; subst hk; simp [Res.row, SlV.row] at hb
      | 1 => simp at hk; subst hk; simp [Res.row, SlV.row] at hb
      | k + 2 => simp at hk
    exact ⟨askZ, er, ⟨none, 0, 0⟩, ⟨none, 0, 0⟩, ⟨none, 0, 0⟩, ⟨none, 0, 0⟩, [], [], [], [], [], [], 3, rfl, H, Tail.nil _ _, Tail.nil _ _, Tail.nil _ _, Tail.nil _ _, by simp, by simp, .inl ⟨hs, rfl, rfl, rfl, rfl, rfl, rfl⟩⟩
  · refine V_ask_Read_of ?_
    unfold V_ask_Read
    rw [zc_Ask]
    refine (Mine.start w).nw fun p w1 H _ => call_of (sign_Sizes_ok 1 _) ?_
    rintro _ w2 ⟨rfl, m2⟩
    have H := H.frame m2
    have e : (sgS 1 : Int) = 2420 := rfl
    rw [e]
    refine ⟨_, rfl, _, rfl, _, rfl, _, rfl, rfl, ite_false ?_ ?_⟩
    · rw [Bool.or_eq_false_iff, decide_eq_false_iff_not, decide_eq_false_iff_not]
      omega
    refine call_of (slices_Clone_byte_ok x l (by omega) _ (hx.mod0 H.mod)) ?_
    rintro _ w5 ⟨B2, rfl, hB2, m5⟩
    have H := H.got m5 hB2
    have h2 := H.bytes (s := B2) (bs := l) 1 rfl
    have h2l := h2.len
    have h2c := Sl.cap h2
    refine asSl_s ⟨⟨by omega, by omega⟩, lt_of ?_⟩
    obtain ⟨cut, hcut⟩ : ∃ cut : Nat, cut = l.length - 2420 := ⟨_, rfl⟩
    have hci : ((B2.n : Nat) : Int) - 2420 = (cut : Int) := by omega
    rw [hci]
    refine h2.h cut rfl (by omega) fun z hz hzb hzw => ?_
    refine call_of (ask_read_ok z (l.take cut) (by rw [List.length_take]; omega) _ hzb) ?_
    rintro _ w6 ⟨q, lb, lt, s, B, rfl, hrd, hB, hty, htt, m6⟩
    have H := H.got m6 hB
    have hby := (hty.byt _ (H.bytes 2 rfl)).len
    have htk := (htt.byt _ (H.bytes 2 rfl)).len
    refine ⟨_, rfl, as_Ask (q := q) ⟨_, rfl, rfl, H.nw fun p1 w7 H _ => H.sT_api_Ask 3 rfl rfl fun w8 H => ?_⟩⟩
    have hfl : (l.take cut).length ≤ 6000 := by rw [List.length_take]; omega
    cases hok : (rEnd s && mayAsk q) with
    | false =>
      refine ite_true rfl (call_of (ask_fault_ok 4 (by decide) _) ?_)
      rintro er w9 ⟨h9, m9⟩
      have H := H.gotE m9 h9
      refine H.sT_api_Ask 0 rfl rfl fun w10 H => H.ld_api_Ask 0 rfl ?_
      refine ⟨askZ, er, ⟨none, 0, 0⟩, ⟨none, 0, 0⟩, B, B2, l.take cut, l, [], [], [], [], 4, rfl, ?_, Tail.nil _ _, Tail.nil _ _, Tail.nil _ _, Tail.nil _ _, hfl, by omega, .inr ⟨hs, q, lb, lt, s, by rw [← hcut]; exact hrd, hby.symm, htk.symm, .inl ⟨hok, rfl, rfl, rfl, rfl, rfl, rfl⟩⟩⟩
      refine H.pick (fun j => [2, 1, 4].getD j 0) (fun j r hj => ?_) (show ∀ i, i < 3 → ∀ j, j < 3 → ([2, 1, 4] : List Nat).getD i 0 = ([2, 1, 4] : List Nat).getD j 0 → i = j by decide)
      match j with
      | 0 => exact hj
      | 1 => exact hj
      | 2 => exact hj
      | j + 3 => simp at hj
    | true =>
      have H := H.drew
      refine ite_false rfl (H.ld_api_Ask 3 rfl ⟨⟨by omega, by omega, by omega⟩, ⟨⟨by omega, by omega⟩, H.sT_api_Ask 0 rfl rfl fun w10 H => H.ld_api_Ask 0 rfl ?_⟩⟩)
      have H := H.gotE (Mod.refl [] w10) (IsErr.zero w10 w10)
      simp only [Int.toNat_natCast]
      have ht1 : Tail B2 l ⟨B2.a, cut, cut⟩ (l.take cut) := (Tail.self B2 l).head cut (by omega)
      have ht2 : Tail B2 l ⟨sub B2.a cut B2.c 1, B2.n - cut, B2.c - cut⟩ (l.drop cut) := (Tail.self B2 l).drop cut (by omega)
      refine ⟨q, .nilIface, _, _, B, B2, l.take cut, l, lb, lt, l.take cut, l.drop cut, 0, rfl, ?_, hty, htt, ht1, ht2, hfl, by omega, .inr ⟨hs, q, lb, lt, s, by rw [← hcut]; exact hrd, hby.symm, htk.symm, .inr ⟨hok, rfl, rfl, rfl, by rw [hcut], by rw [hcut], rfl⟩⟩⟩
      refine H.pick (fun j => [2, 1, 4].getD j 0) (fun j r hj => ?_) (show ∀ i, i < 3 → ∀ j, j < 3 → ([2, 1, 4] : List Nat).getD i 0 = ([2, 1, 4] : List Nat).getD j 0 → i = j by decide)
      match j with
      | 0 => exact hj
      | 1 => exact hj
      | 2 => exact hj
      | j + 3 => simp at hj
end Go.Proofs.YtdnhoebcomffoaaGreatDoor
end
section
set_option linter.unusedVariables false
set_option linter.unusedSimpArgs false
/- THE STATEMENT 'AskBack': what was signed is read again. -/
namespace Go.Proofs.YtdnhoebcomffoaaGreatDoor
open Go Go.Ev
set_option maxRecDepth 20000
set_option linter.unusedVariables false
theorem wd_be (x : B64) : ∀ k, k ≤ 8 → wd ((List.range k).map fun k => (x >>> (56 - 8 * k)).setWidth 8) = x >>> (64 - 8 * k)
  | 0, _ => by
    show (0 : B64) = _
    apply BitVec.eq_of_toNat_eq
    have := x.isLt
    simp [BitVec.toNat_ushiftRight, Nat.shiftRight_eq_div_pow]
    omega
  | k + 1, h => by
    rw [List.range_succ, List.map_append, List.map_cons, List.map_nil, wd_append, wd_be x k (by omega)]
    apply BitVec.eq_of_getLsbD_eq
    intro i hi
    simp only [BitVec.getLsbD_or, BitVec.getLsbD_shiftLeft, BitVec.getLsbD_setWidth, BitVec.getLsbD_ushiftRight, hi, decide_true, Bool.true_and]
    by_cases h8 : i < 8
    · simp [h8, show 64 - 8 * (k + 1) = 56 - 8 * k by omega]
    · simp [h8, show 64 - 8 * k + (i - 8) = 64 - 8 * (k + 1) + i by omega]
theorem numOf_be {n : Int} (h : -9223372036854775808 ≤ n ∧ n ≤ 9223372036854775807) : numOf (be n) = n := by
  unfold numOf
  have : wd (be n) = BitVec.ofInt 64 n := by
    have := wd_be (BitVec.ofInt 64 n) 8 (Nat.le_refl _)
    simpa [be] using this
  rw [this, BitVec.toNat_ofInt, show ((2 ^ 64 : Nat) : Int) = 18446744073709551616 from rfl]
  have h0 := Int.emod_nonneg n (show (18446744073709551616 : Int) ≠ 0 by decide)
  rw [Int.toNat_of_nonneg h0]
  have e : IntKind.wrap .i64 (n % 18446744073709551616) = if n % 18446744073709551616 % 18446744073709551616 ≥ 9223372036854775808 then n % 18446744073709551616 % 18446744073709551616 - 18446744073709551616 else n % 18446744073709551616 % 18446744073709551616 := by
    simp [IntKind.wrap, IntKind.signed, IntKind.bits]
  rw [e]
  split <;> omega
theorem rNum_be {lo hi n : Int} (h : lo ≤ n ∧ n ≤ hi) (hn : -9223372036854775808 ≤ n ∧ n ≤ 9223372036854775807) (r : List B8) : rNum lo hi (some (be n ++ r)) = (n, some r) := by
  have e : (be n ++ r).take 8 = be n := List.take_left' (length_be n)
  have e2 : (be n ++ r).drop 8 = r := List.drop_left' (length_be n)
  rw [rNum_some, if_neg (by rw [List.length_append, length_be]; omega), e, e2, numOf_be hn, if_neg (by omega)]
theorem rBytes_laid {m : Int} {p : List B8} (h : (p.length : Int) ≤ m) (hp : p.length ≤ 1000000) (r : List B8) : rBytes m (some (laid p ++ r)) = (p, some r) := by
  unfold rBytes laid
  rw [List.append_assoc, rNum_be (by omega) (by omega), rTake_some, if_neg (by rw [List.length_append]; omega)]
  simp
theorem Rds.body {q q' : AskV} {lb lt lb' lt' : List B8} {s : Option (List B8)} (hm : mayAsk q = true) (h1 : lb.length = q.by_.n) (h2 : lt.length = q.tok.n)
    (h : Rds (1, 6) (1, mxC) (1, 13) (0, mxC) (bodyAsk q lb lt) q' lb' lt' s) : q'.nums = q.nums ∧ q'.name = q.name ∧ lb' = lb ∧ lt' = lt ∧ s = some [] := by
  obtain ⟨s1, s2, s3, s4, s5, s6, s7, s8, s9, s10, s11, sa, sb, nm, e1, e2, e3, e4, e5, e6, e7, e8, e9, e10, e11, ea, en, eb, et⟩ := h
  have hm' := hm
  unfold mayAsk AskV.rest within2 at hm
  simp only [List.all_cons, List.all_nil, Bool.and_true, Bool.and_eq_true, decide_eq_true_eq] at hm
  obtain ⟨⟨a1, a2⟩, ⟨b1, b2⟩, ⟨c1, c2⟩, ⟨⟨d31, d32⟩, ⟨d41, d42⟩, ⟨d51, d52⟩, ⟨d61, d62⟩, ⟨d71, d72⟩, ⟨d81, d82⟩, ⟨d91, d92⟩, d101, d102⟩, hs, h3, h4⟩ := hm
  have hx : mxC = 1099511627776 := rfl
  have eB : bodyAsk q lb lt = be q.n0 ++ (be q.n1 ++ (be q.n2 ++ (be q.n3 ++ (be q.n4 ++ (be q.n5 ++ (be q.n6 ++ (be q.n7 ++ (be q.n8 ++ (be q.n9 ++ (be q.n10 ++ (laid (bOf q.name) ++ (laid lb ++ (laid lt ++ []))))))))))))) := by
    unfold bodyAsk AskV.nums bes laids
    simp
  rw [eB] at e1
  rw [rNum_be (by omega) (by omega)] at e1
  obtain ⟨f1, rfl⟩ := Prod.mk.inj e1
  rw [rNum_be (by omega) (by omega)] at e2
  obtain ⟨f2, rfl⟩ := Prod.mk.inj e2
  rw [rNum_be (by omega) (by omega)] at e3
  obtain ⟨f3, rfl⟩ := Prod.mk.inj e3
  rw [rNum_be (by omega) (by omega)] at e4
  obtain ⟨f4, rfl⟩ := Prod.mk.inj e4
  rw [rNum_be (by omega) (by omega)] at e5
  obtain ⟨f5, rfl⟩ := Prod.mk.inj e5
  rw [rNum_be (by omega) (by omega)] at e6
  obtain ⟨f6, rfl⟩ := Prod.mk.inj e6
  rw [rNum_be (by omega) (by omega)] at e7
  obtain ⟨f7, rfl⟩ := Prod.mk.inj e7
  rw [rNum_be (by omega) (by omega)] at e8
  obtain ⟨f8, rfl⟩ := Prod.mk.inj e8
  rw [rNum_be (by omega) (by omega)] at e9
  obtain ⟨f9, rfl⟩ := Prod.mk.inj e9
  rw [rNum_be (by omega) (by omega)] at e10
  obtain ⟨f10, rfl⟩ := Prod.mk.inj e10
  rw [rNum_be (by omega) (by omega)] at e11
  obtain ⟨f11, rfl⟩ := Prod.mk.inj e11
  have hnl := length_bOf q.name
  rw [rBytes_laid (by omega) (by omega)] at ea
  obtain ⟨fa, rfl⟩ := Prod.mk.inj ea
  rw [rBytes_laid (by omega) (by omega)] at eb
  obtain ⟨fb, rfl⟩ := Prod.mk.inj eb
  rw [rBytes_laid (by omega) (by omega)] at et
  obtain ⟨ft, rfl⟩ := Prod.mk.inj et
  refine ⟨?_, by rw [en, ← fa, strOf_bOf], fb.symm, ft.symm, rfl⟩
  unfold AskV.nums
  rw [← f1, ← f2, ← f3, ← f4, ← f5, ← f6, ← f7, ← f8, ← f9, ← f10, ← f11]
/-- what was laid and signed is read as it was -/
theorem Out.body {q q' : AskV} {lb lt lb' lt' o1 o2 sig : List B8} {e : Int} (hm : mayAsk q = true) (h1 : lb.length = q.by_.n) (h2 : lt.length = q.tok.n) (hs : sig.length = 2420)
    (h : Out (1, 6) (1, mxC) (1, 13) (0, mxC) (bodyAsk q lb lt ++ sig) q' lb' lt' o1 o2 e) : q'.nums = q.nums ∧ q'.name = q.name ∧ lb' = lb ∧ lt' = lt ∧ o1 = bodyAsk q lb lt ∧ o2 = sig ∧ e = 0 := by
  have hl := length_bodyAsk q lb lt
  have hm' := hm
  unfold mayAsk at hm'
  simp only [Bool.and_eq_true, decide_eq_true_eq] at hm'
  obtain ⟨-, -, -, -, b1, b2, b3⟩ := hm'
  have hL : (bodyAsk q lb lt ++ sig).length = (bodyAsk q lb lt).length + 2420 := by rw [List.length_append, hs]
  have ht : (bodyAsk q lb lt ++ sig).take ((bodyAsk q lb lt ++ sig).length - 2420) = bodyAsk q lb lt := List.take_left' (by omega)
  have hd : (bodyAsk q lb lt ++ sig).drop ((bodyAsk q lb lt ++ sig).length - 2420) = sig := List.drop_left' (by omega)
  rcases h with ⟨hc, -⟩ | ⟨hc, r, mb, mt, s, hr, g1, g2, h⟩
  · omega
  · rw [ht] at hr
    obtain ⟨k1, k2, rfl, rfl, rfl⟩ := hr.body hm h1 h2
    have hmr : mayAsk r = true := by
      obtain ⟨n0, n1, n2, n3, n4, n5, n6, n7, n8, n9, n10, nm, bb, tt⟩ := r
      obtain ⟨m0, m1, m2, m3, m4, m5, m6, m7, m8, m9, m10, mm, cb, ct⟩ := q
      simp only [AskV.nums, List.cons.injEq, and_true] at k1
      obtain ⟨rfl, rfl, rfl, rfl, rfl, rfl, rfl, rfl, rfl, rfl, rfl⟩ := k1
      simp only at k2 g1 g2 h1 h2
      subst k2
      unfold mayAsk AskV.rest at hm ⊢
      simp only at hm ⊢
      rw [g1, g2, h1, h2]
      exact hm
    rcases h with ⟨k, -⟩ | ⟨-, rfl, rfl, rfl, rfl, rfl, rfl⟩
    · rw [hmr] at k; cases k
    · exact ⟨k1, k2, rfl, rfl, ht, hd, rfl⟩
def note10 : List B8 := [99, 104, 97, 116, 101, 108, 97, 105, 110, 101]
/-- what signing a request gives -/
def asC (q : AskV) (lb lt K R : List B8) : Int := if mayAsk q = true then sgC 1 K note10 (bodyAsk q lb lt) R else 2
theorem note_bytes {w0 w : World} {L : List Res} (H : Mine w0 [] w L) (k : Nat) {p : Nat} {t : TypeId} (hk : L[k]? = some (.fz p [.int .u8 99, .int .u8 104, .int .u8 97, .int .u8 116, .int .u8 101, .int .u8 108, .int .u8 97, .int .u8 105, .int .u8 110, .int .u8 101] t)) : Bytes w ⟨some ⟨p, 0, none⟩, 10, 10⟩ note10 :=
  Fz.sl (H.get k hk) 1 10 10 (by simp) (by omega)
theorem ask_Signed_ok (q : AskV) (lb lt K R : List B8) (xk xr : SlV) (hl : q.name.size ≤ 400 ∧ lb.length ≤ 3000 ∧ lt.length ≤ 200) (hr : R.length ≤ 100000) (w : World) (hb : Bytes w q.by_ lb) (ht : Bytes w q.tok lt) (hk : Bytes w xk K) (hx : Bytes w xr R) :
    Ok Pr f_ask_Signed [.agg ⟨q.cells⟩, .slice xk.a xk.n xk.c, .slice xr.a xr.n xr.c] w fun v w' => Gave2 t_uint8 1 w w' v (u8s (if asC q lb lt K R = 0 then bodyAsk q lb lt ++ sgL 1 K note10 (bodyAsk q lb lt) R else [])) (asC q lb lt K R) := by
  refine V_ask_Signed_of ?_
  unfold V_ask_Signed
  refine (Mine.start w).nw fun p w1 H _ => H.ld_api_Ask 0 rfl (call_of (ask_Body_ok q lb lt _ (hb.mod0 H.mod) (ht.mod0 H.mod)) ?_)
  rintro _ w2 ⟨y, er, rfl, hy, he, hno, m2⟩
  have H := H.got2 m2 hy he hno
  have hbl := length_bodyAsk q lb lt
  refine ⟨_, rfl, y, rfl, rfl, (H.err 2 rfl).isNil ?_⟩
  cases hm : mayAsk q with
  | false =>
    obtain ⟨e1, e2⟩ := bodyL_no hm lb lt
    have e3 : asC q lb lt K R = 2 := by unfold asC; rw [hm]; rfl
    rw [e2] at H ⊢
    rw [e3]
    refine ite_true rfl ?_
    exact Gave2.no (H.isErr 2 rfl) H.mod
  | true =>
    obtain ⟨e1, e2⟩ := bodyL_yes hm lb lt
    have e3 : asC q lb lt K R = sgC 1 K note10 (bodyAsk q lb lt) R := by unfold asC; rw [if_pos hm]
    rw [e1, e2] at H
    rw [e2, e3]
    generalize bodyAsk q lb lt = BD at *
    refine ite_false rfl (H.nw fun p1 w3 H _ => H.strish 3 rfl fun w4 H => ?_)
    refine call_of (sign_Sign_ok 1 xk ⟨some ⟨p1, 0, none⟩, 10, 10⟩ y xr K note10 BD R (by show 10 ≤ 100000; omega) (by omega) hr _ (hk.mod0 H.mod) (note_bytes H 3 rfl) (H.bytes 1 rfl) (hx.mod0 H.mod)) ?_
    rintro _ w5 ⟨u, ef, rfl, hu, hef, hnu, m5⟩
    have H := H.got2 m5 hu hef hnu
    have hsl : (sgL 1 K note10 BD R).length ≤ 1000000 := Nat.le_trans (sgL_len _ _ _ _ _) (by omega)
    generalize sgC 1 K note10 BD R = C at *
    generalize sgL 1 K note10 BD R = SG at *
    have H : Mine w [] w5 [.blk p q.cells t_api_Ask, .row t_uint8 1 y (u8s BD), Res.err er 0, .fz p1 [.int .u8 99, .int .u8 104, .int .u8 97, .int .u8 116, .int .u8 101, .int .u8 108, .int .u8 97, .int .u8 105, .int .u8 110, .int .u8 101] t_uint8, .row t_uint8 1 u (u8s SG), Res.err ef C] := H
    have hyn := (H.bytes 1 rfl).len
    have hun := (H.bytes 4 rfl).len
    refine ⟨_, rfl, u, rfl, rfl, (H.err 5 rfl).isNil ?_⟩
    by_cases h0 : C = 0
    · rw [if_pos h0, h0, decide_eq_true rfl]
      refine ite_false rfl (H.app8 1 elt_u8 rfl (H.bytes 4 rfl) (by omega) fun z w6 H hz => ?_)
      exact Gave2.yes (H.fresh0 1 rfl) H.mod
    · rw [if_neg h0, decide_eq_false h0]
      exact ite_true rfl (Gave2.no (H.isErr 5 rfl) H.mod)
theorem AskBack_ok (q : AskV) (lb lt : List B8) (seed : B8) (w : World) (hg : Laid w) (hb : Bytes w q.by_ lb) (ht : Bytes w q.tok lt) :
    Ok Pr f_law15_AskBack [.agg ⟨q.cells⟩, .int .u8 (seed.toNat : Int)] w fun v w' => v = .bool true ∧ Mod [] w w' := by
  refine V_law15_AskBack_of ?_
  unfold V_law15_AskBack
  rw [zc_Ask]
  have hbl := hb.len
  have htl := ht.len
  refine (Mine.start w).nw fun p w1 H _ => H.ld_api_Ask 0 rfl (call_of (law0_GreatAsk_ok q w1) ?_)
  rintro _ w2 ⟨b, rfl, m2, hsm⟩
  have H := H.frame m2
  refine asB_b (ite_intro (fun _ => awake15_of hg H) (fun hbf => ?_))
  obtain ⟨s1, s2, s3⟩ := hsm hbf
  refine H.mkU elt_u8 (by kernel_rfl) (n := 32) rfl rfl (by omega) fun y w3 H hyn => ?_
  have H : Mine w [] w3 [.blk p q.cells t_api_Ask, .row t_uint8 1 y (u8s (List.replicate 32 0))] := H
  refine ⟨⟨(H.bytes 1 rfl).some (by omega), by omega, by omega⟩, H.st8 1 (i := 0) seed rfl rfl (by simp) rfl fun w4 H => ?_⟩
  obtain ⟨F, hF⟩ : ∃ F, F = (List.replicate 32 (0 : B8)).set 0 seed := ⟨_, rfl⟩
  have H : Mine w [] w4 [.blk p q.cells t_api_Ask, .row t_uint8 1 y (u8s F)] := by rw [hF]; exact H
  have hfl : F.length = 32 := by rw [hF]; simp
  refine call_of (sign_Keys_ok 1 y F _ (H.bytes 1 rfl)) ?_
  rintro _ w5 ⟨yv, yk, er, rfl, H2⟩
  have H := H.join H2
  have hC : keyC 1 F.length = 0 := by rw [hfl]; rfl
  have hvl : (vkL 1 F).length = 1312 := by rw [(parts_made hC).1]; decide
  rw [hC] at H
  have H : Mine w [] w5 [.blk p q.cells t_api_Ask, .row t_uint8 1 y (u8s F), .row t_uint8 1 yv (u8s (vkL 1 F)), .row t_uint8 1 yk (u8s (skL 1 F)), Res.err er 0] := H
  refine ⟨_, rfl, yv, rfl, yk, rfl, rfl, (H.err 4 rfl).isNil (ite_false rfl (H.ld_api_Ask 0 rfl (call_of (ask_Signed_ok q lb lt (skL 1 F) F yk y ⟨s1, by omega, by omega⟩ (by omega) _ (hb.mod0 H.mod) (ht.mod0 H.mod) (H.bytes 3 rfl) (H.bytes 1 rfl)) ?_)))⟩
  rintro _ w6 ⟨z, ef, rfl, hz, hef, hno, m6⟩
  have H := H.got2 m6 hz hef hno
  have htk := fun h => signed_taken (note := note10) (m := bodyAsk q lb lt) (rnd := F) hC h
  have hln := fun h => signed_len (note := note10) (m := bodyAsk q lb lt) (rnd := F) hC h
  have hcd := signed_code (note := note10) (m := bodyAsk q lb lt) hC hfl (by decide)
  have e1 : sgS 1 = 2420 := rfl
  rw [e1] at hln
  have hA : asC q lb lt (skL 1 F) F = if mayAsk q = true then sgC 1 (skL 1 F) note10 (bodyAsk q lb lt) F else 2 := rfl
  generalize skL 1 F = K at *
  generalize vkL 1 F = V at *
  generalize sgC 1 K note10 (bodyAsk q lb lt) F = C at *
  generalize sgL 1 K note10 (bodyAsk q lb lt) F = SG at *
  generalize asC q lb lt K F = A at *
  have H : Mine w [] w6 [.blk p q.cells t_api_Ask, .row t_uint8 1 y (u8s F), .row t_uint8 1 yv (u8s V), .row t_uint8 1 yk (u8s K), Res.err er 0, .row t_uint8 1 z (u8s (if A = 0 then bodyAsk q lb lt ++ SG else [])), Res.err ef A] := H
  refine ⟨_, rfl, z, rfl, rfl, H.ld_api_Ask 0 rfl (call_of (ask_May_ok q w6) ?_)⟩
  rintro _ w7 ⟨rfl, m7⟩
  have H := H.frame m7
  refine asB_b ?_
  cases hm : mayAsk q with
  | false =>
    rw [hm] at hA
    have hA : A = 2 := hA
    subst hA
    have hzn := (H.bytes 5 rfl).len
    rw [if_neg (by decide)] at hzn
    refine ite_true rfl (ite_true (decide_eq_true (by simp at hzn; omega)) (call_of (law0_Num_err ef 2 _ (hg.mine H (by simp)) (H.err 6 rfl)) ?_))
    rintro _ w8 ⟨rfl, m8⟩
    exact asI_i (ite_true rfl (awake15_of hg (H.frame m8)))
  | true =>
    rw [hm, if_pos rfl] at hA
    subst hA
    refine ite_false rfl ((H.err 6 rfl).isNil ?_)
    rcases hcd with rfl | rfl
    case inr =>
      refine ite_true rfl (call_of (law0_Num_err ef 5 _ (hg.mine H (by simp)) (H.err 6 rfl)) ?_)
      rintro _ w8 ⟨rfl, m8⟩
      exact asI_i (ite_true rfl (awake15_of hg (H.frame m8)))
    rw [if_pos rfl] at H
    have hSG := hln rfl
    have hbd := length_bodyAsk q lb lt
    refine ite_false rfl (call_of (ask_Read_ok z _ _ (H.bytes 5 rfl)) ?_)
    rintro _ w8 ⟨q', e8, y1, y2, B, B2, fB, fB2, lb', lt', o1, o2, c, rfl, HR, t1, t2, t3, t4, g1, g2, hout⟩
    obtain ⟨k1, k2, j1, j2, j3, j4, j5⟩ := hout.body hm hbl htl hSG
    rw [j1] at t1
    rw [j2] at t2
    rw [j3] at t3
    rw [j4] at t4
    rw [j5] at HR
    have H := H.join HR
    refine ⟨_, rfl, as_Ask ⟨y1, rfl, y2, rfl, rfl, H.nw fun p1 w9 H _ => H.sT_api_Ask 10 rfl rfl fun w10 H => H.ld_api_Ask 0 rfl (call_of (ask_Body_ok q lb lt _ (hb.mod0 H.mod) (ht.mod0 H.mod)) ?_)⟩⟩
    rintro _ w11 ⟨u, eu, rfl, hu, heu, hnu, m11⟩
    obtain ⟨b1, b2⟩ := bodyL_yes hm lb lt
    rw [b1] at hu
    rw [b2] at heu
    have H := H.got m11 hu
    refine ⟨_, rfl, u, rfl, rfl, (H.err 9 rfl).isNil (ite_true rfl (heu.1.isNil (H.ld_api_Ask 10 rfl (H.ld_api_Ask 0 rfl (ite_true rfl (call_of (law0_SameAsk_ok q' lb lt q lb lt (by omega) (by omega) _ (t1.1 _ (H.bytes 7 rfl)) (t2.1 _ (H.bytes 7 rfl)) (hb.mod0 H.mod) (ht.mod0 H.mod)) ?_))))))⟩
    have hsame : sameAsk q' lb lt q lb lt = true := by unfold sameAsk; rw [k1, k2]; simp
    rw [hsame]
    rintro _ w12 ⟨rfl, m12⟩
    have H := H.frame m12
    refine asB_b (ite_true rfl (call_of (law0_SameBytes_same y1 u (bodyAsk q lb lt) _ (t3.1 _ (H.bytes 8 rfl)) (H.bytes 11 rfl) (by omega)) ?_))
    rintro _ w13 ⟨rfl, m13⟩
    have H := H.frame m13
    refine asB_b (ite_true rfl (H.nw fun p2 w14 H _ => H.strish 12 rfl fun w15 H => ?_))
    refine call_of (sign_Verify_ok 1 yv ⟨some ⟨p2, 0, none⟩, 10, 10⟩ y1 y2 V note10 (bodyAsk q lb lt) SG (by omega) (by show 10 ≤ 100000; omega) (by omega) (by omega) _ (H.bytes 2 rfl) (note_bytes H 12 rfl) (t3.1 _ (H.bytes 8 rfl)) (t4.1 _ (H.bytes 8 rfl))) ?_
    rw [htk rfl]
    rintro e w16 ⟨h16, m16⟩
    exact h16.1.isNil (ite_true rfl (awake15_of hg (H.frame m16)))
end Go.Proofs.YtdnhoebcomffoaaGreatDoor
end
