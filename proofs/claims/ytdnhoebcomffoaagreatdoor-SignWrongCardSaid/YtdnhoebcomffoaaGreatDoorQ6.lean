/- Texts of this claim, packed: what the last one leans on. -/
import Derived.Test.YtdnhoebcomffoaaGreatDoorQ5
import Derived.Test.YtdnhoebcomffoaaGreatDoorQ3
import Derived.Test.YtdnhoebcomffoaaGreatDoorQ4
import Derived.Test.YtdnhoebcomffoaaGreatDoorQ2
section
set_option linter.unusedVariables false
set_option linter.unusedSimpArgs false
/- HINTS that may be read are laid as they were; the document's way of reading them. -/
namespace Go.Proofs.YtdnhoebcomffoaaGreatDoor
open Go Go.Ev
set_option maxRecDepth 20000
set_option linter.unusedVariables false
/-- rising -/
def Rise (l : List B8) : Prop := l.Pairwise fun a c => a.toNat < c.toNat
theorem rise_filter (n : Nat) : ∀ (l : List B8), Rise l → l.filter (fun c => decide (c.toNat < n + 1)) = l.filter (fun c => decide (c.toNat < n)) ++ l.filter fun c => decide (c.toNat = n)
  | [], _ => rfl
  | a :: l, h => by
    obtain ⟨h1, h2⟩ := List.pairwise_cons.1 h
    have ih := rise_filter n l h2
    rcases Nat.lt_trichotomy a.toNat n with h3 | h3 | h3
    · rw [List.filter_cons_of_pos (by simpa using Nat.lt_succ_of_lt h3), List.filter_cons_of_pos (by simpa using h3), List.filter_cons_of_neg (by simp; omega), ih]; rfl
    · have e : ∀ (p : B8 → Bool), (∀ c : B8, p c = true → c.toNat ≤ n) → l.filter p = [] := fun p hp => List.filter_eq_nil_iff.2 fun c hc hpc => by have := h1 c hc; have := hp c hpc; omega
      rw [List.filter_cons_of_pos (by simp; omega), List.filter_cons_of_neg (by simp; omega), List.filter_cons_of_pos (by simpa using h3), e _ (by simp; omega), e _ (by simp; omega), e _ (by simp; omega)]; rfl
    · have e : ∀ (p : B8 → Bool), (∀ c : B8, p c = true → c.toNat ≤ n) → l.filter p = [] := fun p hp => List.filter_eq_nil_iff.2 fun c hc hpc => by have := h1 c hc; have := hp c hpc; omega
      rw [List.filter_cons_of_neg (by simp; omega), List.filter_cons_of_neg (by simp; omega), List.filter_cons_of_neg (by simp; omega), e _ (by simp; omega), e _ (by simp; omega), e _ (by simp; omega)]; rfl
theorem rise_one (n : Nat) (hn : n < 256) : ∀ (l : List B8), Rise l → l.filter (fun c => decide (c.toNat = n)) = if ∃ c ∈ l, c.toNat = n then [BitVec.ofNat 8 n] else []
  | [], _ => by simp
  | a :: l, h => by
    obtain ⟨h1, h2⟩ := List.pairwise_cons.1 h
    have ih := rise_one n hn l h2
    by_cases h3 : a.toNat = n
    · have : l.filter (fun c => decide (c.toNat = n)) = [] := List.filter_eq_nil_iff.2 fun c hc hpc => by have := h1 c hc; have := of_decide_eq_true hpc; omega
      rw [List.filter_cons_of_pos (by simpa using h3), this, if_pos ⟨a, by simp, h3⟩]
      have : a = BitVec.ofNat 8 n := by rw [← h3]; simp
      rw [this]
    · rw [List.filter_cons_of_neg (by simpa using h3), ih]
      by_cases h4 : ∃ c ∈ l, c.toNat = n
      · rw [if_pos h4, if_pos (by obtain ⟨c, hc, e⟩ := h4; exact ⟨c, by simp [hc], e⟩)]
      · rw [if_neg h4, if_neg (by rintro ⟨c, hc, e⟩; rcases List.mem_cons.1 hc with rfl | hc; exact h3 e; exact h4 ⟨c, hc, e⟩)]
theorem setAll_get (l : List B8) (j : Nat) (hj : j < 256) : (setAll l).getD j 0 = if ∃ c ∈ l, c.toNat = j then 1 else 0 := by
  unfold setAll
  suffices h : ∀ (l : List B8) (acc : List Int), acc.length = 256 → (l.foldl (fun acc c => acc.set c.toNat 1) acc).getD j 0 = if ∃ c ∈ l, c.toNat = j then 1 else acc.getD j 0 by
    rw [h l _ (by simp)]
    have : (List.replicate 256 (0 : Int)).getD j 0 = 0 := by rw [List.getD_eq_getElem?_getD, List.getElem?_replicate, if_pos hj]; rfl
    rw [this]
  intro l
  induction l with
  | nil => intro acc h; simp
  | cons a r ih =>
    intro acc h
    rw [List.foldl_cons, ih _ (by simpa using h)]
    by_cases h1 : ∃ c ∈ r, c.toNat = j
    · rw [if_pos h1, if_pos (by obtain ⟨c, hc, e⟩ := h1; exact ⟨c, by simp [hc], e⟩)]
    · rw [if_neg h1]
      by_cases h2 : a.toNat = j
      · rw [if_pos ⟨a, by simp, h2⟩, h2]; simp [List.getD_eq_getElem?_getD, h, hj]
      · rw [if_neg (by rintro ⟨c, hc, e⟩; rcases List.mem_cons.1 hc with rfl | hc; exact h2 e; exact h1 ⟨c, hc, e⟩)]
        simp [List.getD_eq_getElem?_getD, List.getElem?_set, h2]
theorem ones_setAll {l : List B8} (h : Rise l) (n : Nat) (hn : n ≤ 256) : onesTo (setAll l) n = l.filter fun c => decide (c.toNat < n) := by
  induction n with
  | zero =>
    have : l.filter (fun c => decide (c.toNat < 0)) = [] := List.filter_eq_nil_iff.2 fun c _ hc => by simp at hc
    rw [this]; rfl
  | succ n ih =>
    rw [onesTo_succ, ih (by omega), rise_filter n l h, rise_one n (by omega) l h, setAll_get l n (by omega)]
    congr 1
    by_cases h1 : ∃ c ∈ l, c.toNat = n
    · rw [if_pos h1, if_pos h1, if_pos rfl]
    · rw [if_neg h1, if_neg h1, if_neg (by decide)]
theorem ones_back {l : List B8} (h : Rise l) : onesTo (setAll l) 256 = l := by
  rw [ones_setAll h 256 (Nat.le_refl _)]
  exact List.filter_eq_self.2 fun c _ => by have := c.isLt; simpa using this
theorem rise_seg {b : List B8} {a e : Nat} (he : e ≤ b.length) (h : uUp b a e) : Rise ((b.drop a).take (e - a)) := by
  unfold Rise
  rw [List.pairwise_iff_getElem]
  have key : ∀ (d i : Nat), a ≤ i → i + d + 1 < e → (b.getD i 0).toNat < (b.getD (i + d + 1) 0).toNat := by
    intro d
    induction d with
    | zero => intro i hi hd; exact h (i + 1) (by omega) (by omega)
    | succ d ih =>
      intro i hi hd
      have h1 := ih i hi (by omega)
      have h2 := h (i + (d + 1) + 1) (by omega) (by omega)
      rw [Nat.add_sub_cancel] at h2
      exact Nat.lt_trans h1 h2
  intro i j hi hj hij
  simp only [List.length_take, List.length_drop] at hi hj
  simp only [List.getElem_take, List.getElem_drop]
  have := key (j - i - 1) (a + i) (by omega) (by omega)
  rw [show a + i + (j - i - 1) + 1 = a + j by omega] at this
  simpa [List.getD_eq_getElem?_getD, show a + i < b.length by omega, show a + j < b.length by omega] using this
/-- hints that may be read are laid as they were -/
theorem hint_forth {s : LayS} {b : List B8} (hom : s.omega ≤ 80) (hl : b.length = s.omega + s.k) (h : uAll b s.omega s.k) : hintC s (unL b s.omega s.k) = 0 ∧ hintB s (unL b s.omega s.k) = b := by
  obtain ⟨hg, hz⟩ := h
  have nU : (unL b s.omega s.k).length = s.k := by unfold unL; simp
  have hle : ∀ r, r ≤ s.k → uAt b s.omega r ≤ s.omega := fun r hr => by
    rcases Nat.eq_zero_or_pos r with h0 | h0
    · rw [h0]; exact Nat.zero_le _
    · have := (hg (r - 1) (by omega)).2.1
      rwa [show r - 1 + 1 = r by omega] at this
  have hp : ∀ r, r ≤ s.k → plc (unL b s.omega s.k) r = b.take (uAt b s.omega r) := by
    intro r
    induction r with
    | zero => intro _; show [] = b.take 0; simp
    | succ r ih =>
      intro hr
      obtain ⟨g1, g2, g3⟩ := hg r (by omega)
      have e : (unL b s.omega s.k).getD r [] = setAll ((b.drop (uAt b s.omega r)).take (uAt b s.omega (r + 1) - uAt b s.omega r)) := by
        unfold unL
        rw [List.getD_eq_getElem?_getD, List.getElem?_map, List.getElem?_range (by omega)]
        show unF _ _ _ = _
        refine unF_seg _ _ _ _ (by simp only [List.length_take, List.length_drop]; omega) fun m hm => ?_
        simp [List.getD_eq_getElem?_getD, List.getElem?_take, hm, List.getElem?_drop]
      rw [plc_succ, ih (by omega), e, ones_back (rise_seg (by omega) g3)]
      conv => rhs; rw [show uAt b s.omega (r + 1) = uAt b s.omega r + (uAt b s.omega (r + 1) - uAt b s.omega r) by omega, List.take_add]
  have hk := hp s.k (Nat.le_refl _)
  have hkl : (plc (unL b s.omega s.k) (unL b s.omega s.k).length).length = uAt b s.omega s.k := by
    rw [nU, hk, List.length_take]; have := hle s.k (Nat.le_refl _); omega
  refine ⟨by unfold hintC; rw [if_pos (by rw [hkl]; exact hle _ (Nat.le_refl _))], ?_⟩
  unfold hintB
  rw [hkl, nU, hk]
  have hkle := hle s.k (Nat.le_refl _)
  have e1 : List.replicate (s.omega - uAt b s.omega s.k) (0 : B8) = (b.drop (uAt b s.omega s.k)).take (s.omega - uAt b s.omega s.k) := by
    refine (List.eq_replicate_iff.2 ⟨by simp only [List.length_take, List.length_drop]; omega, fun c hc => ?_⟩).symm
    rw [List.any_eq_false] at hz
    have := hz c hc
    unfold nz8 at this
    simp only [Bool.not_eq_true, Bool.not_eq_false', decide_eq_true_eq] at this
    exact BitVec.eq_of_toNat_eq (by simpa using this)
  have e2 : endsL (unL b s.omega s.k) s.k = b.drop s.omega := by
    unfold endsL
    refine List.ext_getElem (by simp [hl]) fun i h1 h2 => ?_
    simp only [List.length_map, List.length_range] at h1
    simp only [List.getElem_map, List.getElem_range, List.getElem_drop]
    have h3 := hle (i + 1) h1
    rw [hp (i + 1) h1, List.length_take]
    have h4 : uAt b s.omega (i + 1) = (b.getD (s.omega + i) 0).toNat := by unfold uAt; rw [if_neg (by omega)]; rfl
    rw [show min (min (uAt b s.omega (i + 1)) b.length) 255 = uAt b s.omega (i + 1) by omega, h4]
    have : b.getD (s.omega + i) 0 = b[s.omega + i] := by simp [List.getD_eq_getElem?_getD, show s.omega + i < b.length by omega]
    rw [this]; simp
  rw [e1, e2, ← List.append_assoc, ← List.take_add, show uAt b s.omega s.k + (s.omega - uAt b s.omega s.k) = s.omega by omega, List.take_append_drop]
/-- how far the document reads -/
def uEnd (b : List B8) (om : Nat) : Nat → Nat
  | 0 => 0
  | i + 1 => max (uEnd b om i) (min (b.getD (om + i) 0).toNat om)
def uRd (b : List B8) (om k : Nat) : List (List Int) := (List.range k).map fun r => unF b (uEnd b om r) (uEnd b om (r + 1))
theorem uEnd_at {b : List B8} {om k : Nat} (h : uAll b om k) : ∀ r, r ≤ k → uEnd b om r = uAt b om r
  | 0, _ => rfl
  | r + 1, hr => by
    obtain ⟨g1, g2, -⟩ := h.1 r (by omega)
    have e : uAt b om (r + 1) = (b.getD (om + r) 0).toNat := by unfold uAt; rw [if_neg (by omega)]; rfl
    show max (uEnd b om r) (min (b.getD (om + r) 0).toNat om) = _
    rw [uEnd_at h r (by omega), ← e]
    omega
theorem uRd_un {b : List B8} {om k : Nat} (h : uAll b om k) : uRd b om k = unL b om k := by
  unfold uRd unL
  refine List.map_congr_left fun r hr => ?_
  have hr := List.mem_range.1 hr
  rw [uEnd_at h r (by omega), uEnd_at h (r + 1) hr]
theorem unF_bits (b : List B8) (a e : Nat) : ∀ x ∈ unF b a e, 0 ≤ x ∧ x < 2 := by
  unfold unF
  suffices h : ∀ (l : List Nat) (acc : List Int), (∀ x ∈ acc, 0 ≤ x ∧ x < 2) → ∀ x ∈ l.foldl (fun f m => f.set (b.getD (a + m) 0).toNat 1) acc, 0 ≤ x ∧ x < 2 from h _ _ fun x hx => by rw [(List.mem_replicate.1 hx).2]; omega
  intro l
  induction l with
  | nil => intro acc h; exact h
  | cons m r ih =>
    intro acc h
    refine ih _ fun x hx => ?_
    rcases List.mem_or_eq_of_mem_set hx with h1 | h1
    · exact h x h1
    · rw [h1]; omega
theorem uRd_below (b : List B8) (om k : Nat) : Below 2 (uRd b om k) := by
  intro f hf
  unfold uRd at hf
  obtain ⟨r, _, rfl⟩ := List.mem_map.1 hf
  exact ⟨length_unF _ _ _, unF_bits _ _ _⟩
/-- what the document reads may be just when it is laid as it was -/
theorem uRd_iff {s : LayS} {b : List B8} (hom : s.omega ≤ 80) (hl : b.length = s.omega + s.k) : uAll b s.omega s.k ↔ (hintC s (uRd b s.omega s.k) = 0 ∧ hintB s (uRd b s.omega s.k) = b) := by
  refine ⟨fun h => ?_, fun ⟨h1, h2⟩ => ?_⟩
  · rw [uRd_un h]; exact hint_forth hom hl h
  · have n : (uRd b s.omega s.k).length = s.k := by unfold uRd; simp
    have := hint_good hom h1
    rwa [h2, n] at this
end Go.Proofs.YtdnhoebcomffoaaGreatDoor
end
section
set_option linter.unusedVariables false
set_option linter.unusedSimpArgs false
/- READING HINTS: the document's. -/
namespace Go.Proofs.YtdnhoebcomffoaaGreatDoor
open Go Go.Ev
set_option maxRecDepth 20000
set_option linter.unusedVariables false
open Classical in
theorem ref11_Unhint_ok (set : Int) (his : isSet set = true) (s : LayS) (hs : s = layS set) (x : SlV) (b : List B8) (hl : b.length = s.omega + s.k) (w : World) (hx : Bytes w x b) :
    Ok Pr f_ref11_Unhint [.int .i64 set, .slice x.a x.n x.c] w fun v w' => ∃ y : SlV, v = .tuple ⟨[.slice y.a y.n y.c, .int .i64 (unC b s.omega s.k)]⟩ ∧ Mod [] w w' ∧ (unC b s.omega s.k = 0 → Boxed w w' fun w => Pols w y (unL b s.omega s.k)) := by
  refine V_ref11_Unhint_of ?_
  unfold V_ref11_Unhint
  rw [zc_refSet]
  have hG := goodS his
  have hX := goodX his
  refine call_of (ref11_Of_ok set w) ?_
  rintro _ w1 ⟨rfl, m1⟩
  rw [his, ← hs]
  rw [← hs] at hG hX
  have hk8 := hG.k
  have hom := hX.omega
  have hxl := hx.len
  have hiff := uRd_iff hom hl
  have hun : uAll b s.omega s.k → uRd b s.omega s.k = unL b s.omega s.k := uRd_un
  have hbel := uRd_below b s.omega s.k
  have hR : hintR s (uRd b s.omega s.k) = if hintC s (uRd b s.omega s.k) = 0 then hintB s (uRd b s.omega s.k) else [] := rfl
  refine ⟨_, rfl, as_rSet ⟨_, rfl, rfl, ((Mine.start w).frame m1).nw fun p w2 H _ => H.sT_ref11_Set 0 rfl rfl fun w3 H => ite_false rfl (H.ldI 0 rfl (ad1 p 5) rfl (H.ldI 0 rfl (ad1 p 0) rfl ⟨⟨by omega, by omega⟩, ite_false (by rw [decide_eq_true (show ((x.n : Nat) : Int) = (s.omega : Int) + (s.k : Int) by omega)]; rfl) ?_⟩))⟩⟩
  have H : Mine w [] w3 [.blk p s.cells t_ref11_Set] := H
  have hsucc : ∀ i, uRd b s.omega (i + 1) = uRd b s.omega i ++ [unF b (uEnd b s.omega i) (uEnd b s.omega (i + 1))] := fun i => range_succ_map _ _
  have hlen : ∀ i, (uRd b s.omega i).length = i := fun i => by unfold uRd; simp
  have hE : ∀ i, uEnd b s.omega (i + 1) = max (uEnd b s.omega i) (min (b.getD (s.omega + i) 0).toNat s.omega) := fun _ => rfl
  have hEle : ∀ i, uEnd b s.omega i ≤ s.omega := by
    intro i
    induction i with
    | zero => exact Nat.zero_le _
    | succ i ih => rw [hE]; omega
  refine loop3_up 0 s.k (fun i out n w' => n = (uEnd b s.omega i : Int) ∧ Col Nums t_s_int w [] [.blk p s.cells t_ref11_Set] w' out (uRd b s.omega i)) rfl (by omega) ⟨rfl, Col.start H⟩ ?_ ?_
  · rintro again i out n w4 _ hi ⟨rfl, C⟩ hag
    have h1 := hEle i
    have h2 := hEle (i + 1)
    have h3 := hE i
    have h4 : uEnd b s.omega i ≤ uEnd b s.omega (i + 1) := by omega
    rw [hsucc] at hag
    generalize uEnd b s.omega (i + 1) = e2 at *
    generalize uEnd b s.omega i = e1 at *
    have hCl := hlen i
    generalize uRd b s.omega i = T at *
    have H4 := C.front
    refine H4.ldI 0 rfl (ad1 p 0) rfl (ite_true (decide_eq_true (by omega)) ?_)
    refine (Mine.start w4).mkN elt_i64' zc_i64 (n := 256) rfl rfl (by omega) fun f w5 D hfn => ?_
    have D : Mine w4 [] w5 [.row t_int 1 f (i64s (List.replicate 256 0))] := D
    refine loop1_of (fun z w' => ∃ n : Nat, z = (n : Int) ∧ e1 ≤ n ∧ n ≤ e2 ∧ Mine w4 [] w' [.row t_int 1 f (i64s (unF b e1 n))]) (fun z _ => e2 - z.toNat) ⟨e1, rfl, Nat.le_refl _, h4, by
      have : unF b e1 e1 = List.replicate 256 0 := by unfold unF; rw [Nat.sub_self]; rfl
      rw [this]; exact D⟩ ?_
    rintro again1 _ w6 ⟨n, rfl, hn1, hn2, D⟩ hag1
    have H6 := H4.frame D.mod
    have hx6 := hx.mod0 H6.mod
    refine H6.ldI 0 rfl (ad1 p 5) rfl ⟨⟨by omega, by omega⟩, ?_⟩
    rw [show (s.omega : Int) + (i : Int) = ((s.omega + i : Nat) : Int) by omega]
    refine hx6.ld (i := s.omega + i) (by omega) ?_
    have hb8 := (b.getD (s.omega + i) 0).isLt
    generalize b.getD (s.omega + i) 0 = be at *
    refine ⟨⟨by omega, by omega⟩, H6.ldI 0 rfl (ad1 p 5) rfl (ite_intro (fun hc => ?_) (fun hc => ?_))⟩
    · simp only [Bool.and_eq_true, decide_eq_true_eq] at hc
      refine hx6.ld (i := n) (by omega) ?_
      have hb := (b.getD n 0).isLt
      refine D.stN 0 (i := (b.getD n 0).toNat) rfl (by rw [length_unF]; omega) rfl fun w7 D => ⟨⟨by omega, by omega⟩, hag1 _ w7 ⟨n + 1, by simp, by omega, by omega, ?_⟩ (by omega)⟩
      rw [unF_succ b hn1]
      exact D
    · have hn : n = e2 := by
        rw [Bool.and_eq_false_iff, decide_eq_false_iff_not, decide_eq_false_iff_not] at hc
        omega
      subst hn
      refine C.add (l := unF b e1 n) (D.boxed fun w2 h => Own.nums (h 0 _ rfl)) elt_vec (by omega) fun out' w7 C => ⟨⟨by omega, by omega⟩, hag out' _ w7 ⟨rfl, C⟩⟩
  · rintro again out n w4 ⟨-, C⟩
    have H4 := C.front
    refine H4.ldI 0 rfl (ad1 p 0) rfl (ite_false (decide_eq_false (by omega)) ?_)
    have hk := hlen s.k
    have hC : unC b s.omega s.k = if uAll b s.omega s.k then 0 else 4 := rfl
    have hbx := C.boxed
    generalize uRd b s.omega s.k = HH at *
    have hP : Pols w4 out HH := vec_pols C.vec
    refine call_of (ref11_Hints_ok set his out HH (by rw [← hs]; exact hk) hbel _ hP) ?_
    rw [← hs]
    rintro _ w5 ⟨y, rfl, hy, m5⟩
    have H5 := (Mine.start w4).got m5 hy
    rw [hC]
    have hmod : Mod [] w w5 := hbx.mod.trans m5
    have fin : Boxed w w5 fun w => Pols w out HH := by
      obtain ⟨m, fp, h1, h2⟩ := hbx
      refine ⟨m.trans m5, fp, h1, (Res.box fp fun w => Pols w out HH).stab w4 w5 (fun c hc => m5.block c (h2.1 c hc) (by simp)) ⟨h2.1, fun w' hw' => vec_pols (h2.2 w' hw')⟩⟩
    refine ⟨_, rfl, y, rfl, _, rfl, rfl, join1_of fun go hgo => ?_⟩
    have bad : ¬ uAll b s.omega s.k → go true w5 := fun h => by
      rw [if_neg h] at hgo
      exact hgo _ _ (ite_true rfl ⟨⟨none, 0, 0⟩, rfl, hmod, fun h => absurd h (by decide)⟩)
    by_cases h0 : hintC s HH = 0
    · refine ite_false (by simp [h0]) (b2s_of (H5.bytes 0 rfl) (b2s_of (hx.mod0 hmod) ?_))
      rw [if_pos h0] at hR
      rw [hR]
      by_cases h1 : hintB s HH = b
      · have hu := hiff.2 ⟨h0, h1⟩
        rw [h1, decide_eq_true rfl]
        rw [if_pos hu] at hgo
        refine hgo _ _ (ite_false rfl ⟨out, rfl, hmod, fun _ => ?_⟩)
        rw [← hun hu]; exact fin
      · rw [decide_eq_false fun h => h1 (strOf_inj.1 h)]
        exact bad fun h => h1 (hiff.1 h).2
    · exact ite_true (by simp [h0]) (bad fun h => h0 (hiff.1 h).1)
end Go.Proofs.YtdnhoebcomffoaaGreatDoor
end
section
set_option linter.unusedVariables false
set_option linter.unusedSimpArgs false
/- VERIFYING: the document's. -/
namespace Go.Proofs.YtdnhoebcomffoaaGreatDoor
open Go Go.Ev
set_option maxRecDepth 20000
set_option maxHeartbeats 1000000
set_option linter.unusedVariables false
theorem ref13_Verify_noset (set : Int) (hs : isSet set = false) (a b c d : SlV) (w : World) : Ok Pr f_ref13_Verify [.int .i64 set, .slice a.a a.n a.c, .slice b.a b.n b.c, .slice c.a c.n c.c, .slice d.a d.n d.c] w fun v w' => v = .int .i64 2 ∧ Mod [] w w' := by
  refine V_ref13_Verify_of ?_
  unfold V_ref13_Verify
  rw [zc_refSet]
  refine call_of (ref11_Of_ok set w) ?_
  rintro _ w1 ⟨rfl, m1⟩
  have H := (Mine.start w).frame m1
  rw [hs]
  generalize layS set = s at *
  exact ⟨_, rfl, as_rSet ⟨_, rfl, rfl, H.nw fun p w2 H _ => H.sT_ref11_Set 0 rfl rfl fun w3 H => ite_true rfl ⟨rfl, H.mod⟩⟩⟩
theorem mod_small {x : Int} (h : 0 ≤ x ∧ x < 8380417) : x % 8380417 = x := Int.emod_eq_of_lt h.1 h.2
/-- rows of numbers, each one's own -/
def rowsR (xs : List SlV) (ls : List (List Int)) : List Res := List.zipWith (fun x l => Res.row t_int 1 x (i64s l)) xs ls
theorem rowsR_get {xs : List SlV} {ls : List (List Int)} {i : Nat} {x : SlV} {l : List Int} (h1 : xs[i]? = some x) (h2 : ls[i]? = some l) : (rowsR xs ls)[i]? = some (.row t_int 1 x (i64s l)) := by
  unfold rowsR; rw [List.getElem?_zipWith, h1, h2]
theorem rowsR_set {xs : List SlV} {ls : List (List Int)} {i : Nat} {x : SlV} {l : List Int} (h1 : xs[i]? = some x) : (rowsR xs ls).set i (.row t_int 1 x (i64s l)) = rowsR xs (ls.set i l) := by
  unfold rowsR
  refine List.ext_getElem? fun j => ?_
  rw [List.getElem?_set, List.getElem?_zipWith, List.getElem?_zipWith, List.getElem?_set]
  by_cases h : i = j
  · subst h
    rw [if_pos rfl, if_pos rfl, h1, List.length_zipWith]
    have hx := (List.getElem?_eq_some_iff.1 h1).1
    by_cases hl : i < ls.length
    · rw [if_pos (by omega), if_pos hl]
    · rw [if_neg (by omega), if_neg hl]
  · rw [if_neg h, if_neg h]
theorem rowsR_snoc {xs : List SlV} {ls : List (List Int)} (h : xs.length = ls.length) (x : SlV) (l : List Int) : rowsR (xs ++ [x]) (ls ++ [l]) = rowsR xs ls ++ [.row t_int 1 x (i64s l)] := by
  unfold rowsR; rw [List.zipWith_append h]; rfl
theorem ref13_subs_rows (x y : SlV) (fs gs : List (List Int)) (hl : fs.length ≤ 1000) (hlg : gs.length = fs.length) (hp : Pos fs) (hq : Pos gs) (w : World) (hx : Pols w x fs) (hy : Pols w y gs) :
    Ok Pr f_ref13_subs [.slice x.a x.n x.c, .slice y.a y.n y.c] w fun v w' => ∃ (y : SlV) (xs : List SlV), v = .slice y.a y.n y.c ∧ xs.length = fs.length ∧ Mine w [] w' (.row t_s_int 1 y (xs.map SlV.v) :: rowsR xs (lessL fs gs)) := by
  refine V_ref13_subs_of ?_
  unfold V_ref13_subs
  have hxl := hx.len
  have H0 := (Mine.start w).nilrow t_s_int 1
  refine loop2_up 0 fs.length (fun i (out : SlV) w' => ∃ xs : List SlV, xs.length = i ∧ Mine w [] w' (.row t_s_int 1 out (xs.map SlV.v) :: rowsR xs ((List.range i).map fun i => subP (fs.getD i []) (gs.getD i [])))) rfl (by omega) ⟨[], rfl, H0⟩ ?_ ?_
  · rintro again i out w1 _ hi ⟨xs, hxs, H⟩ hag
    have H := H.drew
    refine ite_true (decide_eq_true (by omega)) ((hx.mod0 H.mod).ld (i := i) hi rfl fun f hf => (hy.mod0 H.mod).ld (i := i) (by omega) rfl fun g hg => call_of (ref10_Sub_ok f g _ _ (hp.get hi) (hq.get (by omega)) _ hf hg) ?_)
    rintro _ w2 ⟨z, rfl, hz, m⟩
    have hon := (H.rowSl 0 rfl).len
    rw [List.length_map, hxs, Nat.mul_one] at hon
    have H := H.got m hz
    refine asSl_s (H.app1 0 elt_vec rfl rfl (by intro u hu; rw [List.mem_singleton.1 hu]; rfl) (by omega) (by omega) fun out' w3 H _ => ⟨⟨by omega, by omega⟩, hag out' w3 ⟨xs ++ [z], by simp [hxs], ?_⟩⟩)
    rw [range_succ_map, rowsR_snoc (by simp [hxs]), List.map_append]
    exact H
  · rintro again out w1 ⟨xs, hxs, H⟩
    exact ite_false (decide_eq_false (by omega)) ⟨out, xs, rfl, hxs, H⟩
open Classical in
theorem ref13_Verify_ok (set : Int) (xv xn xm xs : SlV) (vk note m sig : List B8) (h1 : vk.length ≤ 100000) (h2 : note.length ≤ 100000) (h3 : m.length ≤ 100000) (h4 : sig.length ≤ 100000) (w : World) (hv : Bytes w xv vk) (hn : Bytes w xn note) (hm : Bytes w xm m) (hs : Bytes w xs sig) :
    Ok Pr f_ref13_Verify [.int .i64 set, .slice xv.a xv.n xv.c, .slice xn.a xn.n xn.c, .slice xm.a xm.n xm.c, .slice xs.a xs.n xs.c] w fun v w' => v = .int .i64 (verC set vk note m sig) ∧ Mod [] w w' := by
  by_cases his : isSet set = true
  case neg =>
    have hf : isSet set = false := by simpa using his
    have e : verC set vk note m sig = 2 := by unfold verC; rw [if_neg his]
    rw [e]
    exact ref13_Verify_noset set hf xv xn xm xs w
  obtain ⟨z1, -, z3⟩ := sizes_eq his
  have hvl := hv.len
  have hsl := hs.len
  have hnl := hn.len
  have hG := goodS his
  have hX := goodX his
  have hGG := goodG1 his
  have hbl := blen_g hGG
  have bC := ballC_of his
  obtain ⟨vkn, hvkn⟩ : ∃ n : Nat, n = vkS set := ⟨_, rfl⟩
  obtain ⟨sgn, hsgn⟩ : ∃ n : Nat, n = sgS set := ⟨_, rfl⟩
  have hver : verC set vk note m sig = if vk.length = vkn ∧ sig.length = sgn ∧ note.length ≤ 255 then
      (if uAll (vB (layS set) sig) (layS set).omega (layS set).k then
        (if normL (vZ (layS set) sig) < ((layS set).g1 : Int) - (layS set).beta ∧ vCH set (layS set) vk note m sig = sig.take (layS set).c then 0 else 7)
      else 4) else 3 := by unfold verC; rw [if_pos his, hvkn, hsgn]
  rw [← hvkn] at z1
  rw [← hsgn] at z3
  have hvch : vCH set (layS set) vk note m sig = spOut 136 31 (muL (spOut 136 31 vk 64) note m ++ highB (layS set).g2 (useL (layS set).g2 (unL (vB (layS set) sig) (layS set).omega (layS set).k) (vW set (layS set) vk sig))) ((layS set).c : Int) := by unfold vCH; rfl
  rw [hver]
  generalize vCH set (layS set) vk note m sig = VCH at *
  refine V_ref13_Verify_of ?_
  unfold V_ref13_Verify
  rw [zc_refSet]
  refine call_of (ref11_Of_ok set w) ?_
  rintro _ w1 ⟨rfl, m1⟩
  rw [his]
  obtain ⟨s, hS⟩ : ∃ s, layS set = s := ⟨_, rfl⟩
  simp only [hS] at hG hX hbl bC hver hvch z1 z3 hGG ⊢
  refine ⟨_, rfl, as_rSet ⟨_, rfl, rfl, ((Mine.start w).frame m1).nw fun p w2 H _ => H.sT_ref11_Set 0 rfl rfl fun w3 H => ite_false rfl (call_of (ref13_Sizes_ok set his w3) ?_)⟩⟩
  rintro _ w4 ⟨rfl, m4⟩
  have H := H.frame m4
  rw [← hvkn, ← hsgn]
  refine ⟨_, rfl, _, rfl, _, rfl, _, rfl, rfl, ?_⟩
  by_cases hb1 : vk.length = vkn ∧ sig.length = sgn ∧ note.length ≤ 255
  case neg =>
    rw [if_neg hb1]
    refine ite_true ?_ ⟨rfl, H.mod⟩
    by_cases hc : vk.length = vkn
    · by_cases hd : sig.length = sgn
      · have : ¬ note.length ≤ 255 := fun h => hb1 ⟨hc, hd, h⟩
        simp; omega
      · simp; omega
    · simp; omega
  rw [if_pos hb1]
  obtain ⟨b1, b2, b3⟩ := hb1
  have hk0 := hG.k0
  have hk8 := hG.k
  have hl0 := hG.l0
  have hl7 := hG.l
  have hc64 := hG.c
  have hom := hX.omega
  have hg1 : s.g1 ≤ 524288 ∧ 131072 ≤ s.g1 := by rcases hX.g1 with h | h <;> omega
  have hmd : maskD s = 18 ∨ maskD s = 20 := by unfold maskD; split <;> simp
  have e32 : 32 * s.l * maskD s = 32 * maskD s * s.l := Nat.mul_right_comm _ _ _
  have hbe := hX.beta
  have H : Mine w [] w4 [.blk p s.cells t_ref11_Set] := H
  refine ite_false (by rw [← hvl, ← hsl, ← hnl, b1, b2]; simp; omega) (H.ldI 0 rfl (ad1 p 5) rfl ⟨⟨by omega, by omega⟩, H.ldI 0 rfl (ad1 p 0) rfl ⟨⟨by omega, by omega⟩, ?_⟩⟩)
  have nvB : (vB s sig).length = s.omega + s.k := by unfold vB; rw [List.length_drop, List.length_drop]; omega
  have evB : vB s sig = sig.drop (sgn - s.omega - s.k) := by
    unfold vB; rw [List.drop_drop]; congr 1; omega
  rw [show (sgn : Int) - (s.omega : Int) - (s.k : Int) = ((sgn - s.omega - s.k : Nat) : Int) by omega]
  refine hs.l (sgn - s.omega - s.k) rfl (by omega) fun xh hxh kh _ => ?_
  rw [← evB] at kh
  refine call_of (ref11_Unhint_ok set his s hS.symm xh (vB s sig) nvB _ (kh.mod0 H.mod)) ?_
  rintro _ w5 ⟨yh, rfl, m5, hyh⟩
  refine ⟨_, rfl, yh, rfl, _, rfl, rfl, ?_⟩
  by_cases hu : uAll (vB s sig) s.omega s.k
  case neg =>
    have e : unC (vB s sig) s.omega s.k = 4 := by unfold unC; rw [if_neg hu]
    rw [e, if_neg hu]
    exact ite_true rfl ⟨rfl, (H.frame m5).mod⟩
  have e : unC (vB s sig) s.omega s.k = 0 := by unfold unC; rw [if_pos hu]
  rw [e, if_pos hu]
  obtain ⟨fh, H⟩ := H.gotBox (hyh e)
  obtain ⟨HH, hHH⟩ : ∃ HH, HH = unL (vB s sig) s.omega s.k := ⟨_, rfl⟩
  rw [← hHH] at H hvch
  have nHH : HH.length = s.k := by rw [hHH]; unfold unL; simp
  have lHH : ∀ f ∈ HH, f.length = 256 := by
    rw [hHH]; unfold unL
    intro f hf
    obtain ⟨r, _, rfl⟩ := List.mem_map.1 hf
    exact length_unF _ _ _
  have H : Mine w [] w5 [.blk p s.cells t_ref11_Set, .box fh fun w => Pols w yh HH] := H
  refine ite_false rfl (H.ld_ref11_Set 0 rfl (call_of (ref11_Wide_ok hGG _) ?_))
  rintro _ w6 ⟨rfl, m6⟩
  have H := H.frame m6
  refine ⟨_, rfl, _, rfl, _, rfl, rfl, ?_⟩
  have pZ : Pos (vZ s sig) := polysL_pos (by omega) (by rw [List.length_drop]; omega)
  have nZ : (vZ s sig).length = s.l := by unfold vZ polysL; rw [List.length_map, List.length_range]
  have hD : ∀ i, 32 * maskD s * (i + 1) = 32 * maskD s * i + 32 * maskD s := fun i => by rw [Nat.mul_add, Nat.mul_one]
  refine loop2_up 0 s.l (fun i (out : SlV) w' => Col Nums t_s_int w6 [] [] w' out (polysL (maskD s) s.g1 (sig.drop s.c) i)) rfl (by omega) (Col.start (Mine.start w6)) ?_ ?_
  · intro again i out w7 _ hi C hag
    have H := H.frame C.mod
    have hle : 32 * maskD s * (i + 1) ≤ 32 * maskD s * s.l := Nat.mul_le_mul_left _ hi
    have hmul := hD i
    have hc1 : (32 : Int) * (maskD s : Int) * (i : Int) = ((32 * maskD s * i : Nat) : Int) := by push_cast; rfl
    have hc2 : (32 : Int) * (maskD s : Int) * ((i : Int) + 1) = ((32 * maskD s * (i + 1) : Nat) : Int) := by push_cast; rfl
    rw [hc1, hc2]
    refine H.ldI 0 rfl (ad1 p 1) rfl (ite_true (decide_eq_true (by omega)) ?_)
    have H := H.drew
    have C := C.frame (Mod.drew [] w7)
    refine H.ldI 0 rfl (ad1 p 6) rfl ⟨⟨by omega, by omega⟩, H.ldI 0 rfl (ad1 p 6) rfl (H.ldI 0 rfl (ad1 p 8) rfl ⟨⟨by omega, by omega⟩, ⟨by omega, by omega⟩, ⟨by omega, by omega⟩, H.ldI 0 rfl (ad1 p 8) rfl ⟨⟨by omega, by omega⟩, ⟨by omega, by omega⟩, ⟨by omega, by omega⟩, ⟨by omega, by omega⟩, ?_⟩⟩)⟩
    rw [show (s.c : Int) + ((32 * maskD s * i : Nat) : Int) = ((s.c + 32 * maskD s * i : Nat) : Int) by omega, show (s.c : Int) + ((32 * maskD s * (i + 1) : Nat) : Int) = ((s.c + 32 * maskD s * (i + 1) : Nat) : Int) by omega, show (s.g1 : Int) - 1 = ((s.g1 - 1 : Nat) : Int) by omega]
    refine hs.lh (s.c + 32 * maskD s * i) (s.c + 32 * maskD s * (i + 1)) rfl rfl (by omega) (by omega) fun z hz kz _ => ?_
    rw [show s.c + 32 * maskD s * (i + 1) - (s.c + 32 * maskD s * i) = 32 * maskD s by omega, ← List.drop_drop] at kz
    refine call_of (ref11_Far_ok (s.g1 - 1) s.g1 (by omega) (by omega) (by omega) z _ (by rw [hbl, List.length_take, List.length_drop, List.length_drop]; omega) _ (kz.mod0 H.mod)) ?_
    rintro _ w8 ⟨q, rfl, hq, m8⟩
    rw [hbl] at hq
    refine asSl_s (C.add (l := farOf (maskD s) s.g1 (((sig.drop s.c).drop (32 * maskD s * i)).take (32 * maskD s))) (Boxed.of_own hq m8 fun w2 h => h.nums) elt_vec (by rw [length_polysL]; omega) fun out' w9 C => ⟨⟨by omega, by omega⟩, hag out' w9 ?_⟩)
    rw [show polysL (maskD s) s.g1 (sig.drop s.c) (i + 1) = polysL (maskD s) s.g1 (sig.drop s.c) i ++ [farOf (maskD s) s.g1 (((sig.drop s.c).drop (32 * maskD s * i)).take (32 * maskD s))] from range_succ_map _ _]
    exact C
  intro again0 z w7 C
  change Col Nums t_s_int w6 [] [] w7 z (vZ s sig) at C
  obtain ⟨fz, H⟩ := H.gotBox (C.boxed.mono fun w h => vec_pols h)
  have H : Mine w [] w7 [.blk p s.cells t_ref11_Set, .box fh fun w => Pols w yh HH, .box fz fun w => Pols w z (vZ s sig)] := H
  refine H.ldI 0 rfl (ad1 p 1) rfl (ite_false (decide_eq_false (by omega)) ?_)
  refine loop2_up 0 s.k (fun r (out : SlV) w' => Col Nums t_s_int w7 [] [] w' out ((List.range r).map fun r => overL (t1At vk r))) rfl (by omega) (Col.start (Mine.start w7)) ?_ ?_
  · intro again r out w8 _ hr C hag
    have H := H.frame C.mod
    refine H.ldI 0 rfl (ad1 p 0) rfl (ite_true (decide_eq_true (by omega)) ⟨⟨by omega, by omega⟩, ⟨by omega, by omega⟩, ⟨by omega, by omega⟩, ⟨by omega, by omega⟩, ⟨by omega, by omega⟩, ?_⟩)
    rw [show (32 : Int) + 320 * (r : Int) = ((32 + 320 * r : Nat) : Int) by omega, show (32 : Int) + 320 * ((r : Int) + 1) = ((32 + 320 * (r + 1) : Nat) : Int) by omega]
    refine hv.lh (32 + 320 * r) (32 + 320 * (r + 1)) rfl rfl (by omega) (by omega) fun x hx kx _ => ?_
    rw [show 32 + 320 * (r + 1) - (32 + 320 * r) = 320 by omega, ← List.drop_drop] at kx
    have e1 : t1At vk r = (unpack 10 (((vk.drop 32).drop (320 * r)).take 320)).map fun x => x * 8192 := rfl
    have hsuc : (List.range (r + 1)).map (fun r => overL (t1At vk r)) = (List.range r).map (fun r => overL (t1At vk r)) ++ [overL (t1At vk r)] := range_succ_map _ _
    rw [hsuc] at hag
    have hpl : (((vk.drop 32).drop (320 * r)).take 320).length = 320 := by rw [List.length_take, List.length_drop, List.length_drop]; omega
    have hTl : ((List.range r).map fun r => overL (t1At vk r)).length ≤ 8 := by rw [List.length_map, List.length_range]; omega
    generalize (List.range r).map (fun r => overL (t1At vk r)) = T at *
    generalize t1At vk r = A at *
    generalize ((vk.drop 32).drop (320 * r)).take 320 = part at *
    refine call_of (ref5_Unpack_ok 10 (by omega) (by omega) x part (by omega) w8 (kx.mod0 H.mod)) ?_
    rintro _ w9 ⟨y, rfl, hy, m9⟩
    have D := (Mine.start w8).got m9 hy
    have hU : (unpack 10 part).length = 256 ∧ ∀ x ∈ unpack 10 part, 0 ≤ x ∧ x < 1024 := ⟨by rw [length_unpack]; omega, fun x hx => unpack_lt 10 part x hx⟩
    generalize unpack 10 part = U at *
    have hyn := (D.nums 0 rfl).len
    refine asSl_s (loop1_up 0 256 (fun j w' => Mine w8 [] w' [.row t_int 1 y (i64s (mulPart U j))]) rfl (by omega) (by unfold mulPart; simpa using D) ?_ ?_)
    · intro again1 j w10 _ hj D hag1
      have hg := hU.2 _ (mem_getD (l := U) (i := j) (by omega) 0)
      refine ite_true (decide_eq_true (by omega)) ((D.nums 0 rfl).ld (i := j) (by rw [mulPart_len]; omega) rfl ?_)
      rw [mulPart_get U (by omega), mod_small (by omega)]
      refine ⟨⟨by omega, by omega⟩, by omega, D.stN 0 (i := j) rfl (by rw [mulPart_len]; omega) rfl fun w11 D => ⟨⟨by omega, by omega⟩, hag1 w11 ?_⟩⟩
      rw [← mulPart_set U (by omega)]
      exact D
    · intro again1 w10 D
      have hM : mulPart U 256 = A := by unfold mulPart; rw [e1, ← hU.1, List.take_length, List.drop_length, List.append_nil]
      rw [hM] at D
      have pA : Po A := by
        refine ⟨by rw [e1, List.length_map]; exact hU.1, fun x hx => ?_⟩
        rw [e1] at hx
        obtain ⟨v, hv, rfl⟩ := List.mem_map.1 hx
        have := hU.2 v hv
        omega
      refine ite_false (decide_eq_false (by omega)) (call_of (ref10_Over_ok y A pA _ (D.nums 0 rfl)) ?_)
      rintro _ w11 ⟨o, rfl, ho, m11⟩
      have D := D.got m11 ho
      refine asSl_s (C.add (l := overL A) (D.boxed fun w2 h => Own.nums (h 1 _ rfl)) elt_vec (by omega) fun out' w12 C => ⟨⟨by omega, by omega⟩, hag out' w12 C⟩)
  intro again1 t1 w8 C
  have eT : (List.range s.k).map (fun r => overL (t1At vk r)) = oversL (vT1 s vk) := by
    unfold oversL eachL
    have nT : (vT1 s vk).length = s.k := by unfold vT1; simp
    rw [nT]
    refine List.map_congr_left fun r hr => ?_
    have hr := List.mem_range.1 hr
    congr 1
    unfold vT1
    rw [List.getD_eq_getElem?_getD, List.getElem?_map, List.getElem?_range hr]; rfl
  rw [eT] at C
  have nT : (vT1 s vk).length = s.k := by unfold vT1; simp
  obtain ⟨ft, H⟩ := H.gotBox (C.boxed.mono fun w h => vec_pols h)
  have nC : (sig.take s.c).length = s.c := by rw [List.length_take]; omega
  refine H.ldI 0 rfl (ad1 p 0) rfl (ite_false (decide_eq_false (by omega)) (H.ldI 0 rfl (ad1 p 8) rfl (hs.h s.c rfl (by omega) fun xc hxc kc _ => call_of (ref12_Ball_all set xc (sig.take s.c) _ (kc.mod0 H.mod)) ?_)))
  rw [nC, bC]
  rintro _ w9 ⟨yB, rfl, hyB, m9⟩
  have H := (H.got m9 hyB).drew
  have pB : Po (ballL set (sig.take s.c)) := (ballL_okay (by rw [nC]; exact bC)).1
  generalize hB : ballL set (sig.take s.c) = B at *
  have H : Mine w [] w9.drew [.blk p s.cells t_ref11_Set, .box fh fun w => Pols w yh HH, .box fz fun w => Pols w z (vZ s sig), .box ft fun w => Pols w t1 (oversL (vT1 s vk)), .row t_int 1 yB (i64s B)] := H
  have hvr : (vk.take 32).length = 32 := by rw [List.length_take]; omega
  refine ⟨_, rfl, yB, rfl, _, rfl, rfl, H.ld_ref11_Set 0 rfl (hv.h 32 rfl (by omega) fun xr hxr kr _ => call_of (ref13_matrix_ok s (by omega) (by omega) xr (vk.take 32) _ (kr.mod0 H.mod)) ?_)⟩
  rintro _ w10 ⟨yA, rfl, hyA⟩
  obtain ⟨fA, H⟩ := H.gotBox hyA
  have lA : (matL s.k s.l (vk.take 32)).length = s.k := length_matL _ _ _
  have hrows := matL_rows (k := s.k) (l := s.l) hvr
  refine asSl_s (call_of (ref13_overs_ok z (vZ s sig) (by omega) pZ _ (H.box 2 rfl)) ?_)
  rintro _ w11 ⟨oz, rfl, hoz⟩
  obtain ⟨fo, H⟩ := H.gotBox hoz
  refine asSl_s (call_of (ref13_product_ok yA oz _ (vZ s sig) (by omega) (by omega) (by omega) (fun r h => by rw [nZ]; exact hrows r h) _ (H.box 5 rfl) (H.box 6 rfl)) ?_)
  rintro _ w12 ⟨yW, rfl, hyW⟩
  obtain ⟨fW, H⟩ := H.gotBox hyW
  have pW : Pos (applyL (matL s.k s.l (vk.take 32)) (vZ s sig)) := applyL_pos _ _
  have nW : (applyL (matL s.k s.l (vk.take 32)) (vZ s sig)).length = s.k := by unfold applyL; rw [List.length_map, lA]
  refine asSl_s (call_of (ref10_Over_ok yB B pB _ (H.nums 4 rfl)) ?_)
  rintro _ w13 ⟨ob, rfl, hob, m13⟩
  have H := H.got m13 hob
  refine asSl_s (call_of (ref13_times_ok ob t1 B (vT1 s vk) (by omega) _ (H.nums 8 rfl) (H.box 3 rfl)) ?_)
  rintro _ w14 ⟨yS, rfl, hyS⟩
  obtain ⟨fS, H⟩ := H.gotBox hyS
  have pS : Pos (scaledL B (vT1 s vk)) := scaledL_pos _ _
  have nS : (scaledL B (vT1 s vk)).length = s.k := (length_eachL _ _).trans nT
  refine asSl_s (call_of (ref13_subs_rows yW yS _ _ (by omega) (by omega) pW pS _ (H.box 7 rfl) (H.box 9 rfl)) ?_)
  rintro _ w15 ⟨yL, xs, rfl, hxs, D⟩
  rw [nW] at hxs
  have eW : vW set s vk sig = lessL (applyL (matL s.k s.l (vk.take 32)) (vZ s sig)) (scaledL B (vT1 s vk)) := by unfold vW; rw [hB]
  rw [← eW] at D
  have pX : Pos (vW set s vk sig) := by rw [eW]; exact lessL_pos _ _
  have nX : (vW set s vk sig).length = s.k := by rw [eW]; exact (length_eachL _ _).trans nW
  generalize vW set s vk sig = X at *
  have H0 := H
  have hsz : ∀ {w' : World} {ls : List (List Int)}, Mine w14 [] w' (.row t_s_int 1 yL (xs.map SlV.v) :: rowsR xs ls) → yL.n = s.k := fun D => by
    have := (D.rowSl 0 rfl).len
    rw [List.length_map, hxs, Nat.mul_one] at this; exact this.symm
  have hld : ∀ {w' : World} {ls : List (List Int)} {i : Nat} {x : SlV} {z : Int} {K : SlV → Prop}, Mine w14 [] w' (.row t_s_int 1 yL (xs.map SlV.v) :: rowsR xs ls) → xs[i]? = some x → z = (i : Int) → K x → idxS yL.a z yL.n (ldL (Addr.add (base yL.a) (Int.toNat z * 1)) w' K) := by
    intro w' ls i x z K D hx hz hK
    subst hz
    have hn := hsz D
    have hi := (List.getElem?_eq_some_iff.1 hx).1
    have hr := D.rowSl 0 rfl
    refine ⟨⟨hr.pre (by omega), by omega, by omega⟩, x, ?_, hK⟩
    rw [Int.toNat_natCast, Nat.mul_one]
    exact hr.cell i _ (by rw [List.getElem?_map, hx]; rfl)
  have hUl : ∀ r, r < s.k → (X.getD r []).length = 256 := fun r hr => (pX.get (by omega)).len
  obtain ⟨LS, hLS⟩ : ∃ LS : Nat → List (List Int), LS = fun i => (List.range s.k).map fun r => if r < i then useF s.g2 (HH.getD r []) (X.getD r []) else X.getD r [] := ⟨_, rfl⟩
  have hLl : ∀ i, (LS i).length = s.k := fun i => by rw [hLS]; simp
  have hLg : ∀ i r, r < s.k → (LS i)[r]? = some (if r < i then useF s.g2 (HH.getD r []) (X.getD r []) else X.getD r []) := fun i r hr => by
    rw [hLS]; show ((List.range s.k).map _)[r]? = _
    rw [List.getElem?_map, List.getElem?_range hr]; rfl
  have hL0 : LS 0 = X := by
    refine List.ext_getElem? fun r => ?_
    by_cases hr : r < s.k
    · rw [hLg 0 r hr, if_neg (Nat.not_lt_zero _), List.getD_eq_getElem?_getD, List.getElem?_eq_getElem (by omega)]; rfl
    · rw [List.getElem?_eq_none (by rw [hLl]; omega), List.getElem?_eq_none (by omega)]
  have hLk : LS s.k = useL s.g2 HH X := by
    refine List.ext_getElem? fun r => ?_
    have hul : (useL s.g2 HH X).length = s.k := (length_eachL _ _).trans nX
    by_cases hr : r < s.k
    · rw [hLg s.k r hr, if_pos hr]
      have : (useL s.g2 HH X).getD r [] = useF s.g2 (HH.getD r []) (X.getD r []) := getD_eachL _ _ (by omega)
      rw [← this, List.getD_eq_getElem?_getD, List.getElem?_eq_getElem (by omega)]; rfl
    · rw [List.getElem?_eq_none (by rw [hLl]; omega), List.getElem?_eq_none (by omega)]
  have hLs : ∀ i, i < s.k → (LS i).set i (useF s.g2 (HH.getD i []) (X.getD i [])) = LS (i + 1) := fun i hi => by
    refine List.ext_getElem? fun r => ?_
    by_cases hr : r < s.k
    · rw [hLg (i + 1) r hr, List.getElem?_set]
      by_cases h : i = r
      · subst h; rw [if_pos rfl, if_pos (by rw [hLl]; exact hi), if_pos (Nat.lt_succ_self _)]
      · rw [if_neg h, hLg i r hr]
        by_cases h2 : r < i
        · rw [if_pos h2, if_pos (by omega)]
        · rw [if_neg h2, if_neg (by omega)]
    · rw [List.getElem?_eq_none (by rw [List.length_set, hLl]; omega), List.getElem?_eq_none (by rw [hLl]; omega)]
  clear hLS
  rw [← hL0] at D
  refine asSl_s (loop1_up 0 s.k (fun i w' => Mine w14 [] w' (.row t_s_int 1 yL (xs.map SlV.v) :: rowsR xs (LS i))) rfl (by omega) D ?_ ?_)
  · intro again i w16 _ hi D hag
    have H1 := H0.frame D.mod
    refine H1.ldI 0 rfl (ad1 p 0) rfl (ite_true (decide_eq_true (by omega)) ?_)
    obtain ⟨x, hx⟩ : ∃ x, xs[i]? = some x := ⟨xs[i]'(by omega), List.getElem?_eq_getElem (by omega)⟩
    have hXi : (LS i)[i]? = some (X.getD i []) := by rw [hLg i i hi, if_neg (Nat.lt_irrefl _)]
    have h256 := hUl i hi
    have hnext := hLs i hi
    obtain ⟨UF, hUF⟩ : ∃ UF, UF = useF s.g2 (HH.getD i []) (X.getD i []) := ⟨_, rfl⟩
    have hUFl : UF.length = 256 := by rw [hUF]; unfold useF; rw [List.length_map, List.length_range, h256]
    have hUFg : ∀ k, k < 256 → UF.getD k 0 = use s.g2 ((HH.getD i []).getD k 0) ((X.getD i []).getD k 0) := fun k hk => by rw [hUF]; unfold useF; rw [h256]; exact getD_map_range hk
    have hHl : (HH.getD i []).length = 256 := lHH _ (mem_getD (by omega) [])
    rw [← hUF] at hnext
    have hset0 : (LS i).set i (UF.take 0 ++ (X.getD i []).drop 0) = LS i := by
      rw [List.take_zero, List.drop_zero, List.nil_append]
      refine List.ext_getElem? fun r => ?_
      rw [List.getElem?_set]
      split
      · rename_i h; subst h; rw [if_pos (by rw [hLl]; exact hi), hXi]
      · rfl
    refine loop1_up 0 256 (fun k w' => Mine w14 [] w' (.row t_s_int 1 yL (xs.map SlV.v) :: rowsR xs ((LS i).set i (UF.take k ++ (X.getD i []).drop k)))) rfl (by omega) (by rw [hset0]; exact D) ?_ ?_
    · intro again2 k w17 _ hk D hag2
      have D := D.drew
      have H1 := H0.frame D.mod
      have hget : (rowsR xs ((LS i).set i (UF.take k ++ (X.getD i []).drop k)))[i]? = some (.row t_int 1 x (i64s (UF.take k ++ (X.getD i []).drop k))) := rowsR_get hx (by rw [List.getElem?_set, if_pos rfl, if_pos (by rw [hLl]; exact hi)])
      have hnum := D.nums (i + 1) hget
      have hpl : (UF.take k ++ (X.getD i []).drop k).length = 256 := by simp only [List.length_append, List.length_take, List.length_drop]; omega
      have hpg : (UF.take k ++ (X.getD i []).drop k).getD k 0 = (X.getD i []).getD k 0 := by
        rw [List.getD_eq_getElem?_getD, List.getElem?_append_right (by simp; omega), List.length_take, Nat.min_eq_left (by omega), Nat.sub_self, List.getElem?_drop, Nat.add_zero]
        simp only [List.getD_eq_getElem?_getD]
      have hps : (UF.take k ++ (X.getD i []).drop k).set k (UF.getD k 0) = UF.take (k + 1) ++ (X.getD i []).drop (k + 1) := by
        have hl : (UF.take k).length = k := by rw [List.length_take]; omega
        rw [List.set_append_right _ _ (by omega), hl, Nat.sub_self, List.drop_eq_getElem_cons (show k < (X.getD i []).length by omega), List.set_cons_zero, take_succ_getD _ _ (show k < UF.length by omega) 0, List.append_assoc]
        rfl
      refine ite_true (decide_eq_true (by omega)) (hld D hx rfl (H1.ldI 0 rfl (ad1 p 7) rfl ((H1.box 1 rfl : Pols w17.drew yh HH).ld (i := i) (by omega) rfl fun u hu => hu.ld (i := k) (by omega) rfl (hld D hx rfl (hnum.ld (i := k) (by omega) rfl (call_of (ref9_Use_ok s.g2 _ _ hX.g2 _) ?_))))))
      rintro _ w18 ⟨rfl, hw⟩
      subst hw
      rw [hpg, ← hUFg k hk]
      refine asI_i ⟨fun _ _ => rfl, D.stN (i + 1) (i := k) hget (by omega) rfl fun w19 D => ⟨⟨by omega, by omega⟩, hag2 w19 ?_⟩⟩
      rw [List.set_cons_succ, hps, rowsR_set hx, List.set_set] at D
      exact D
    · intro again2 w17 D
      rw [List.take_of_length_le (by omega), List.drop_of_length_le (by omega), List.append_nil, hnext] at D
      exact ite_false (decide_eq_false (by omega)) ⟨⟨by omega, by omega⟩, hag w17 D⟩
  · intro again w16 D
    rw [hLk] at D
    have nU : (useL s.g2 HH X).length = s.k := (length_eachL _ _).trans nX
    have bU : Below (mOf s.g2) (useL s.g2 HH X) := eachL_all (p := fun f => f.length = 256 ∧ ∀ x ∈ f, 0 ≤ x ∧ x < mOf s.g2) fun i hi => use_below hX.g2 _ _ (pX.get hi).len
    have hbl2 : (highB s.g2 (useL s.g2 HH X)).length ≤ 100000 := by
      obtain ⟨_, _, _, _, _, hw⟩ := hiW_blen hX.g2
      rw [high_len _ fun f hf => (bU f hf).1, nU]
      have : 32 * hiW s.g2 * s.k ≤ 32 * hiW s.g2 * 8 := Nat.mul_le_mul_left _ hk8
      omega
    generalize useL s.g2 HH X = UU at *
    have hPU : Pols w16 yL UU := ⟨xs, D.rowSl 0 rfl, by omega, fun i x l h1 h2 => D.nums (i + 1) (rowsR_get h1 h2)⟩
    have H1 := H0.frame D.mod
    refine H1.ldI 0 rfl (ad1 p 0) rfl (ite_false (decide_eq_false (by omega)) (call_of (ref13_Digest_ok xv xn xm vk note m (by omega) (by omega) (by omega) _ (hv.mod0 H1.mod) (hn.mod0 H1.mod) (hm.mod0 H1.mod)) ?_))
    rintro _ w17 ⟨ymu, rfl, hymu, m17⟩
    rw [if_pos b3] at hymu
    have E := (Mine.start w16).got m17 hymu
    refine ⟨_, rfl, ymu, rfl, _, rfl, rfl, call_of (ref11_High_ok set his yL UU (by rw [hS]; exact nU) (by rw [hS]; exact bU) _ (hPU.mod0 m17)) ?_⟩
    rw [hS]
    rintro _ w18 ⟨yb, rfl, hyb, m18⟩
    have E := (E.got m18 hyb).drew
    generalize highB s.g2 UU = HB at *
    generalize hmu : muL (spOut 136 31 vk 64) note m = mu at *
    have hml : mu.length = 64 := by
      rw [← hmu]; unfold muL
      have := spOut_len 136 31 (spOut 136 31 vk 64 ++ ([0, BitVec.ofNat 8 note.length] ++ (note ++ m))) 64 (by omega)
      rw [show ((64 : Nat) : Int) = 64 from rfl] at this
      exact this
    have hmn := (E.bytes 0 rfl).len
    have hbn := (E.bytes 1 rfl).len
    have H2 := H1.frame E.mod
    refine ⟨_, rfl, yb, rfl, _, rfl, rfl, H2.ldI 0 rfl (ad1 p 8) rfl (E.clone8 elt_u8 (E.bytes 0 rfl) (by omega) fun q w19 E2 hqn => ?_)⟩
    have H3 := H1.frame E2.mod
    refine ⟨keptB (H2.blk 0 rfl) (H3.blk 0 rfl) (add_block _ _), E2.app8 2 elt_u8 rfl (E2.bytes 1 rfl) (by omega) fun q2 w20 E3 hq2 => ?_⟩
    have H4 := H1.frame E3.mod
    refine ⟨keptB (H3.blk 0 rfl) (H4.blk 0 rfl) (add_block _ _), call_of (ref2_Shake256_ok _ q2 (mu ++ HB) _ (E3.bytes 2 rfl) (by rw [List.length_append]; omega)) ?_⟩
    rintro _ w21 ⟨yc, rfl, hyc, m21⟩
    rw [← hvch] at hyc
    have E := (E3.got m21 hyc).drew
    have H5 := H1.frame E.mod
    refine asSl_s (H5.ldI 0 rfl (ad1 p 6) rfl (H5.ldI 0 rfl (ad1 p 4) rfl ⟨⟨by omega, by omega⟩, call_of (ref10_Norm_ok z (vZ s sig) (by omega) pZ _ (H5.box 2 rfl)) ?_⟩))
    rintro _ w22 ⟨rfl, m22⟩
    have E := E.frame m22
    have H6 := H5.frame m22
    refine asI_i ⟨keptB (H5.blk 0 rfl) (H6.blk 0 rfl) (add_block _ _), keptB (H5.blk 0 rfl) (H6.blk 0 rfl) (add_block _ _), H6.ldI 0 rfl (ad1 p 8) rfl ?_⟩
    have hmod := H6.mod
    by_cases hnm : normL (vZ s sig) < (s.g1 : Int) - s.beta
    case neg =>
      rw [if_neg fun h => hnm h.1]
      exact ite_true (decide_eq_true (by omega)) ⟨⟨fun _ _ => rfl, rfl, hmod⟩, ⟨fun _ _ => rfl, rfl, hmod⟩⟩
    have kv6 : Bytes w22 yc VCH := E.bytes 3 rfl
    have last : iteP (!decide (strOf VCH = strOf (sig.take s.c))) (Value.int .i64 7 = .int .i64 (if normL (vZ s sig) < (s.g1 : Int) - s.beta ∧ VCH = sig.take s.c then 0 else 7) ∧ Mod [] w w22) (Value.int .i64 0 = .int .i64 (if normL (vZ s sig) < (s.g1 : Int) - s.beta ∧ VCH = sig.take s.c then 0 else 7) ∧ Mod [] w w22) := by
      by_cases h : VCH = sig.take s.c
      · exact ite_false (by simp [h]) ⟨by rw [if_pos ⟨hnm, h⟩], hmod⟩
      · exact ite_true (by simp [strOf_inj, h]) ⟨by rw [if_neg fun h2 => h h2.2], hmod⟩
    refine ite_false (decide_eq_false (by omega)) (hs.h s.c rfl (by omega) fun x3 hx3 kx _ => ?_)
    have kx := kx.mod0 hmod
    exact ⟨b2s_of kv6 ⟨fun _ _ => rfl, b2s_of kx last⟩, b2s_of kx (b2s_of kv6 ⟨fun _ _ => rfl, last⟩)⟩
end Go.Proofs.YtdnhoebcomffoaaGreatDoor
end
section
set_option linter.unusedVariables false
set_option linter.unusedSimpArgs false
/- THE STATEMENTS' OWN CODE, chapter 12: seeds of the right lengths, bounds, masks. -/
namespace Go.Proofs.YtdnhoebcomffoaaGreatDoor
open Go Go.Ev
set_option maxRecDepth 100000
set_option linter.unusedVariables false
/-- the sets, of any number -/
theorem set_of (z : Int) : isSet (1 + (low z 3 : Int)) = true ∧ (1 + (low z 3 : Int) = 1 ∨ 1 + (low z 3 : Int) = 2 ∨ 1 + (low z 3 : Int) = 3) := by
  have h := low_lt (x := z) (n := 3) (by omega)
  have : 1 + (low z 3 : Int) = 1 ∨ 1 + (low z 3 : Int) = 2 ∨ 1 + (low z 3 : Int) = 3 := by omega
  refine ⟨?_, this⟩
  rcases this with h | h | h <;> rw [h] <;> decide
end Go.Proofs.YtdnhoebcomffoaaGreatDoor
end
section
set_option linter.unusedVariables false
set_option linter.unusedSimpArgs false
/- THE STATEMENTS ON SIGNING: what is signed is taken. -/
namespace Go.Proofs.YtdnhoebcomffoaaGreatDoor
open Go Go.Ev
set_option maxRecDepth 20000
set_option linter.unusedVariables false
theorem signed_len {set : Int} {F note m rnd : List B8} (h : keyC set F.length = 0) (hs : sgC set (skL set F) note m rnd = 0) : (sgL set (skL set F) note m rnd).length = sgS set := by
  have h1 := signed_taken h hs
  unfold verC at h1
  split at h1
  · split at h1
    · rename_i h2; exact h2.2.1
    · exact absurd h1 (by decide)
  · exact absurd h1 (by decide)
theorem signed_code {set : Int} {F note m rnd : List B8} (h : keyC set F.length = 0) (hr : rnd.length = 32) (hn : note.length ≤ 255) : sgC set (skL set F) note m rnd = 0 ∨ sgC set (skL set F) note m rnd = 5 := by
  obtain ⟨his, -⟩ := keyC_zero h
  obtain ⟨-, q2, -, -, q5⟩ := parts_made h
  have hop : openC set (skL set F).length = 0 := by
    unfold openC
    rw [if_pos his, if_pos (by rw [q2]; exact (skS_skN his).symm)]
  unfold sgC
  rw [if_pos hop, if_pos ⟨hr, hn⟩, if_pos q5]
  split
  · exact .inl rfl
  · exact .inr rfl
end Go.Proofs.YtdnhoebcomffoaaGreatDoor
end
section
set_option linter.unusedVariables false
set_option linter.unusedSimpArgs false
/- THE STATEMENT 'SignWrong': whatever is verified, both sides answer alike. -/
namespace Go.Proofs.YtdnhoebcomffoaaGreatDoor
open Go Go.Ev
set_option maxRecDepth 20000
set_option linter.unusedVariables false
theorem flip8 {w0 w : World} {L : List Res} (H : Mine w0 [] w L) (k : Nat) {y : SlV} {B : List B8} (hk : L[k]? = some (.row t_uint8 1 y (u8s B))) (byv : B8) {j : Nat} (hj : j < B.length) {z : Int} (hz : z = (j : Int)) {K : World → Prop}
    (h : ∀ w', Mine w0 [] w' (L.set k (.row t_uint8 1 y (u8s (B.set j (B.getD j 0 ^^^ byv))))) → K w') :
    idxS y.a z y.n (ldI .u8 (Addr.add (base y.a) (Int.toNat z * 1)) w fun t => idxS y.a z y.n (st (Addr.add (base y.a) (Int.toNat z * 1)) (.int .u8 (xorI .u8 t (byv.toNat : Int))) w K)) := by
  subst hz
  have hn := (H.bytes k hk).len
  have hsm : (y.a.isSome = true ∧ 0 ≤ (j : Int) ∧ (j : Int) < ((y.n : Nat) : Int)) := ⟨(H.bytes k hk).some (by omega), by omega, by omega⟩
  refine (H.bytes k hk).ld (i := j) hj ⟨hsm, ?_⟩
  rw [xor8]
  exact H.st8 k (i := j) (B.getD j 0 ^^^ byv) hk (by rw [Nat.mul_one, Int.toNat_natCast]) hj rfl h
theorem SignWrong_ok (z0 : Int) (x : SlV) (l : List B8) (atv : Int) (byv : B8) (wherev : Int) (w : World) (hg : Laid w) (hx : Bytes w x l) :
    Ok Pr f_law13_SignWrong [.int .i64 z0, .slice x.a x.n x.c, .int .i64 atv, .int .u8 (byv.toNat : Int), .int .i64 wherev] w fun v w' => v = .bool true ∧ Mod [] w w' := by
  refine V_law13_SignWrong_of ?_
  unfold V_law13_SignWrong
  rw [zc_refSet]
  have hxl := hx.len
  refine ite_intro (fun hc => awake13_of hg (Mine.start w)) (fun hc => ?_)
  simp only [decide_eq_false_iff_not] at hc
  refine call_of (law0_Low_ok z0 3 (by omega) (by omega) w) ?_
  rintro _ w1 ⟨rfl, hw1⟩
  subst hw1
  obtain ⟨hset, hset3⟩ := set_of z0
  generalize low z0 3 = L3 at *
  refine asI_i ⟨⟨by omega, by omega⟩, ?_⟩
  generalize 1 + (L3 : Int) = set at *
  refine call_of (ref11_Of_ok set w1) ?_
  rintro _ w2 ⟨rfl, m2⟩
  rw [hset]
  have hG := goodS hset
  have hX := goodX hset
  have hsz : sgS set ≤ 10000 ∧ 100 ≤ sgS set := by unfold isSet at hset; simp only [Bool.or_eq_true, decide_eq_true_eq] at hset; rcases hset with rfl | rfl | rfl <;> decide
  have hzq := (sizes_eq hset).2.2
  generalize layS set = s at *
  refine ⟨_, rfl, as_rSet ⟨_, rfl, rfl, ((Mine.start w1).frame m2).nw fun p w3 H _ => H.sT_ref11_Set 0 rfl rfl fun w4 H => ?_⟩⟩
  have hk8 := hG.k
  have hk0 := hG.k0
  have hom := hX.omega
  refine call_of (law13_full_ok x l 4 (by omega) 32 (by omega) w4 (hx.mod0 H.mod)) ?_
  rintro _ w5 ⟨q, rfl, hq, m5⟩
  have H := H.got m5 hq
  have hfl := length_fullL l 4 32
  generalize fullL l 4 32 = F at *
  refine asSl_s (call_of (sign_Keys_ok set q F _ (H.bytes 1 rfl)) ?_)
  rintro _ w6 ⟨y, z, er, rfl, H2⟩
  have H := H.join H2
  have hC : keyC set F.length = 0 := by rw [hfl]; unfold keyC; rw [if_pos hset]; rfl
  have hvl : (vkL set F).length = vkS set := by rw [(parts_made hC).1]; exact (sizes_eq hset).1
  have hvs : vkS set ≤ 10000 ∧ 100 ≤ vkS set := by have := (sizes_eq hset).1; have := (goodS hset).k; have := (goodS hset).k0; omega
  rw [hC] at H
  refine ⟨_, rfl, y, rfl, z, rfl, rfl, call_of (law13_full_ok x l 5 (by omega) 20 (by omega) w6 (hx.mod0 H.mod)) ?_⟩
  rintro _ w7 ⟨xm, rfl, hxm, m7⟩
  have H := H.got m7 hxm
  have hml := length_fullL l 5 20
  generalize fullL l 5 20 = M at *
  refine asSl_s (call_of (law13_full_ok x l 6 (by omega) 32 (by omega) w7 (hx.mod0 H.mod)) ?_)
  rintro _ w8 ⟨r, rfl, hr, m8⟩
  have H := H.got m8 hr
  have hrl := length_fullL l 6 32
  generalize fullL l 6 32 = RR at *
  refine asSl_s (call_of (sign_Sign_ok set z ⟨none, 0, 0⟩ xm r _ [] M RR (by simp) (by omega) (by omega) _ (H.bytes 3 rfl) (Bytes.nil _) (H.bytes 5 rfl) (H.bytes 6 rfl)) ?_)
  rintro _ w9 ⟨u, ef, rfl, hu, he, hno, m9⟩
  have H := H.got2 m9 hu he hno
  have hln := fun h => signed_len (note := []) (m := M) (rnd := RR) hC h
  have hcd := signed_code (m := M) (note := []) hC hrl (by simp)
  generalize skL set F = K at *
  generalize vkL set F = V at *
  generalize sgC set K [] M RR = C at *
  generalize sgL set K [] M RR = S at *
  have H : Mine w1 [] w9 [.blk p s.cells t_ref11_Set, .row t_uint8 1 q (u8s F), .row t_uint8 1 y (u8s V), .row t_uint8 1 z (u8s K), Res.err er 0, .row t_uint8 1 xm (u8s M), .row t_uint8 1 r (u8s RR), .row t_uint8 1 u (u8s S), Res.err ef C] := H
  refine ⟨_, rfl, u, rfl, rfl, (H.err 4 rfl).isNil (ite_false rfl ((H.err 8 rfl).isNil ?_))⟩
  rcases hcd with rfl | rfl
  case inr =>
    refine ite_true rfl (call_of (law0_Num_err ef 5 _ (hg.mine H (by simp)) (H.err 8 rfl)) ?_)
    rintro _ w10 ⟨rfl, m10⟩
    exact asI_i (ite_true rfl (awake13_of hg (H.frame m10)))
  refine ite_false rfl (call_of (ref11_Sizes_ok set hset w9) ?_)
  rintro _ w10 ⟨rfl, m10⟩
  have H := H.frame m10
  have hSl := hln rfl
  have hyn := (H.bytes 2 rfl).len
  have hmn := (H.bytes 5 rfl).len
  have hun := (H.bytes 7 rfl).len
  refine ⟨_, rfl, _, rfl, _, rfl, _, rfl, rfl, ite_false (by rw [decide_eq_true (show ((y.n : Nat) : Int) = (vkS set : Int) by omega), decide_eq_true (show ((u.n : Nat) : Int) = (sgS set : Int) by omega)]; rfl) (join2_of fun go hgo => ?_)⟩
  have rest : ∀ {L : List Res} (am as_ : SlV) (V M S : List B8) (w' : World), Mine w1 [] w' L → V.length ≤ 100000 → M.length ≤ 100000 → S.length ≤ 100000 → Bytes w' y V → Bytes w' am M → Bytes w' as_ S → go am as_ w' := by
    intro L am as_ V M S w' H hV hM hS kV kM kS
    refine hgo _ _ _ (call_of (sign_Verify_ok set y ⟨none, 0, 0⟩ am as_ V [] M S hV (by simp) hM hS _ kV (Bytes.nil _) kM kS) ?_)
    rintro e w11 ⟨h11, m11⟩
    have H := H.gotE m11 h11
    refine call_of (law0_Num_err e _ _ (hg.mine H (by simp)) h11.1) ?_
    rintro _ w12 ⟨rfl, m12⟩
    have mm := m11.trans m12
    refine asI_i (call_of (ref13_Verify_ok set y ⟨none, 0, 0⟩ am as_ V [] M S hV (by simp) hM hS _ (kV.mod0 mm) (Bytes.nil _) (kM.mod0 mm) (kS.mod0 mm)) ?_)
    rintro _ w13 ⟨rfl, m13⟩
    exact asI_i (ite_true (decide_eq_true rfl) (awake13_of hg (H.frame (m12.trans m13))))
  refine call_of (law0_Low_ok wherev 6 (by omega) (by omega) w10) ?_
  rintro _ w11 ⟨rfl, hw11⟩
  subst hw11
  have hlow : ∀ (a : Int) (n : Nat), 0 < n → low a n < n := fun a n hn => by have := low_lt (x := a) (n := (n : Int)) (by omega); omega
  refine asI_i (ite_intro (fun _ => ?_) fun _ => ite_intro (fun _ => ?_) fun _ => ite_intro (fun _ => ?_) fun _ => ite_intro (fun _ => ?_) fun _ => ite_intro (fun _ => ?_) fun _ => ?_)
  · refine call_of (law0_Low_ok atv _ (by omega) (by omega) w11) ?_
    rintro _ w12 ⟨rfl, hw12⟩
    subst hw12
    have hj := hlow atv y.n (by omega)
    exact asI_i (flip8 H 2 rfl byv (by omega) rfl fun w13 H => rest _ _ _ _ _ w13 H (by rw [List.length_set]; omega) (by omega) (by omega) (H.bytes 2 rfl) (H.bytes 5 rfl) (H.bytes 7 rfl))
  · refine call_of (law0_Low_ok atv _ (by omega) (by omega) w11) ?_
    rintro _ w12 ⟨rfl, hw12⟩
    subst hw12
    have hj := hlow atv xm.n (by omega)
    exact asI_i (flip8 H 5 rfl byv (by omega) rfl fun w13 H => rest _ _ _ _ _ w13 H (by omega) (by rw [List.length_set]; omega) (by omega) (H.bytes 2 rfl) (H.bytes 5 rfl) (H.bytes 7 rfl))
  · refine call_of (law0_Low_ok atv _ (by omega) (by omega) w11) ?_
    rintro _ w12 ⟨rfl, hw12⟩
    subst hw12
    have hj := hlow atv u.n (by omega)
    exact asI_i (flip8 H 7 rfl byv (by omega) rfl fun w13 H => rest _ _ _ _ _ w13 H (by omega) (by omega) (by rw [List.length_set]; omega) (H.bytes 2 rfl) (H.bytes 5 rfl) (H.bytes 7 rfl))
  · refine ⟨⟨by omega, by omega⟩, H.ldI 0 rfl (ad1 p 5) rfl (H.ldI 0 rfl (ad1 p 0) rfl ⟨⟨by omega, by omega⟩, ?_⟩)⟩
    rw [show (s.omega : Int) + (s.k : Int) = ((s.omega + s.k : Nat) : Int) by omega]
    refine call_of (law0_Low_ok atv _ (by omega) (by omega) w11) ?_
    rintro _ w12 ⟨rfl, hw12⟩
    subst hw12
    have hj := hlow atv (s.omega + s.k) (by omega)
    refine asI_i ⟨⟨by omega, by omega⟩, flip8 H 7 rfl byv (j := u.n - 1 - low atv ((s.omega + s.k : Nat) : Int)) (by omega) (by omega) fun w13 H => rest _ _ _ _ _ w13 H (by omega) (by omega) (by rw [List.length_set]; omega) (H.bytes 2 rfl) (H.bytes 5 rfl) (H.bytes 7 rfl)⟩
  · refine call_of (law0_Low_ok atv _ (by omega) (by omega) w11) ?_
    rintro _ w12 ⟨rfl, hw12⟩
    subst hw12
    have hj := hlow atv u.n (by omega)
    exact asI_i ((H.bytes 7 rfl).h (low atv (u.n : Int)) rfl (by omega) fun t htn kt _ => rest _ _ _ _ _ w12 H (by omega) (by omega) (by rw [List.length_take]; omega) (H.bytes 2 rfl) (H.bytes 5 rfl) kt)
  · refine H.app1 5 elt_u8 rfl rfl (by intro v hv; rw [List.mem_singleton.1 hv]; rfl) (by omega) (by omega) fun t w13 H htn => ?_
    have e : u8s M ++ [.int .u8 (byv.toNat : Int)] = u8s (M ++ [byv]) := by simp [u8s, u8]
    rw [e] at H
    exact rest _ _ _ _ _ w13 H (by omega) (by rw [List.length_append, List.length_singleton]; omega) (by omega) (H.bytes 2 rfl) (H.bytes 5 rfl) (H.bytes 7 rfl)
end Go.Proofs.YtdnhoebcomffoaaGreatDoor
end
