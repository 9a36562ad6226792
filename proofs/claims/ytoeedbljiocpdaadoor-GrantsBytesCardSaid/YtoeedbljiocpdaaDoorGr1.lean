/- GRANTS: which lists may be, what becomes of them: the program's and the document's. -/
import Derived.Test.YtoeedbljiocpdaaDoorAsk2
import Derived.Test.YtoeedbljiocpdaaDoorVCg
namespace Go.Proofs.YtoeedbljiocpdaaDoor
open Go Go.Ev
set_option maxRecDepth 20000
set_option linter.unusedVariables false
structure GrV where
  (n0 n1 n2 n3 n4 : Int)
  rev : Bool
@[reducible] def GrV.cells (g : GrV) : List Value := cs_api_Grant g.n0 g.n1 g.n2 g.n3 g.n4 g.rev
def gz : GrV := ⟨0, 0, 0, 0, 0, false⟩
def grC (l : List GrV) : List Value := (l.map GrV.cells).flatten
theorem grC_append (a b : List GrV) : grC (a ++ b) = grC a ++ grC b := by simp [grC]
theorem length_grC (l : List GrV) : (grC l).length = 6 * l.length := by
  induction l with
  | nil => rfl
  | cons a r ih =>
    show (a.cells ++ grC r).length = _
    rw [List.length_append, ih]
    show 6 + 6 * r.length = 6 * (r.length + 1)
    omega
theorem grC_get : ∀ (l : List GrV) (i j : Nat) (v : Value), i < l.length → (l.getD i gz).cells[j]? = some v → (grC l)[i * 6 + j]? = some v
  | [], i, j, v, h, _ => by simp at h
  | a :: r, 0, j, v, _, h => by
    show (a.cells ++ grC r)[0 * 6 + j]? = _
    have h : a.cells[j]? = some v := h
    rw [Nat.zero_mul, Nat.zero_add, List.getElem?_append_left (List.getElem?_eq_some_iff.1 h).1]
    exact h
  | a :: r, i + 1, j, v, hi, h => by
    show (a.cells ++ grC r)[(i + 1) * 6 + j]? = _
    have hl : a.cells.length = 6 := rfl
    rw [List.getElem?_append_right (by omega), hl, show (i + 1) * 6 + j - 6 = i * 6 + j by omega]
    exact grC_get r i j v (by simpa using hi) (by simpa using h)
theorem ones_grC (l : List GrV) : ∀ v ∈ grC l, isOne v = true := by
  intro v hv
  obtain ⟨c, hc, hv⟩ := List.mem_flatten.1 hv
  obtain ⟨g, -, rfl⟩ := List.mem_map.1 hc
  simp only [List.mem_cons, List.not_mem_nil, or_false] at hv
  rcases hv with rfl | rfl | rfl | rfl | rfl | rfl <;> rfl
def Grs (w : World) (s : SlV) (l : List GrV) : Prop := Sl w s 6 (grC l)
theorem Grs.len {w : World} {s : SlV} {l : List GrV} (h : Grs w s l) : l.length = s.n := by
  have := Sl.len h
  rw [length_grC] at this
  omega
theorem Grs.mod0 {w w' : World} {s : SlV} {l : List GrV} (h : Grs w s l) (m : Mod [] w w') : Grs w' s l := Sl.mod0 h m
theorem Grs.nil (w : World) : Grs w ⟨none, 0, 0⟩ [] := Sl.nil w 6
theorem Grs.cell {w : World} {s : SlV} {l : List GrV} (h : Grs w s l) {i j : Nat} {v : Value} (hi : i < l.length) (hv : (l.getD i gz).cells[j]? = some v) : w.cell? (Addr.add (Addr.add (base s.a) (i * 6)) j) = some v := by
  rw [add_add]
  exact Sl.cell h _ _ (grC_get l i j v hi hv)
theorem Grs.ld {w : World} {s : SlV} {l : List GrV} (h : Grs w s l) {i : Nat} (hi : i < l.length) {x : Int} (hx : x = (i : Int)) {K : Int → Int → Int → Int → Int → Bool → Prop} (hk : K (l.getD i gz).n0 (l.getD i gz).n1 (l.getD i gz).n2 (l.getD i gz).n3 (l.getD i gz).n4 (l.getD i gz).rev) :
    idxS s.a x s.n (ld_api_Grant (Addr.add (base s.a) (Int.toNat x * 6)) w K) := by
  subst hx
  have hl := h.len
  refine ⟨⟨Sl.pre h (by omega), by omega, by omega⟩, ?_⟩
  rw [Int.toNat_natCast]
  exact ld_api_Grant_of (fun j v hv => h.cell hi hv) hk
theorem Grs.kept {w0 w w' : World} {s : SlV} {l : List GrV} (h : Grs w0 s l) (m : Mod [] w0 w) (m' : Mod [] w0 w') {i : Nat} (hi : i < l.length) {x : Int} (hx : x = (i : Int)) : kept (Addr.add (base s.a) (Int.toNat x * 6)) 6 w w' := fun j hj => by
  subst hx
  rw [Int.toNat_natCast]
  have hc : ∃ v, (l.getD i gz).cells[j]? = some v := ⟨(l.getD i gz).cells[j]'(by show j < 6; exact hj), List.getElem?_eq_getElem _⟩
  obtain ⟨v, hv⟩ := hc
  rw [(h.mod0 m).cell hi hv, (h.mod0 m').cell hi hv]
theorem elt_gr : Elt Pr t_s_api_Grant t_api_Grant 6 48 := Elt.of (by kernel_rfl)
theorem grants_fault_ok (c : Int) (hc : c ≠ 0) (w : World) : Ok Pr f_grants_fault [.int .i64 c] w fun v w' => IsErr w w' v c ∧ Mod [] w w' := by
  refine V_grants_fault_of ?_
  unfold V_grants_fault
  exact nw_blk fun b w' hb h1 h2 _ => ⟨IsErr.mk h1 (by omega) hc, h2⟩
theorem grants_in_ok (n lo hi : Int) (w : World) : Ok Pr f_grants_in [.int .i64 n, .int .i64 lo, .int .i64 hi] w fun v w' => v = .bool (within2 lo hi n) ∧ w' = w := by
  refine V_grants_in_of ?_
  unfold V_grants_in
  exact ⟨rfl, rfl⟩
def goodG (g : GrV) : Bool := within2 1 6 g.n1 && (within2 1 6 g.n2 && (within2 1 1099511627776 g.n4 && ((!decide (g.n3 = 0)) && decide (clrI .i64 g.n3 3584 = 0))))
theorem grants_good_ok (g : GrV) (w : World) : Ok Pr f_grants_good [.agg ⟨g.cells⟩] w fun v w' => v = .bool (goodG g) ∧ Mod [] w w' := by
  refine V_grants_good_of ?_
  unfold V_grants_good
  refine (Mine.start w).nw fun p w1 H _ => ?_
  unfold goodG
  refine H.ldI 0 rfl (ad1 p 1) rfl (call_of (grants_in_ok _ _ _ _) ?_)
  rintro _ w2 ⟨rfl, hw⟩
  subst hw
  refine asB_b (H.ldI 0 rfl (ad1 p 2) rfl (ite_intro (fun h1 => ?_) (fun h1 => ?_)))
  · rw [h1, Bool.true_and]
    refine call_of (grants_in_ok _ _ _ _) ?_
    rintro _ w3 ⟨rfl, hw⟩
    subst hw
    refine asB_b (H.ldI 0 rfl (ad1 p 4) rfl (ite_intro (fun h2 => ?_) (fun h2 => ?_)))
    · rw [h2, Bool.true_and]
      refine call_of (grants_in_ok _ _ _ _) ?_
      rintro _ w4 ⟨rfl, hw⟩
      subst hw
      refine asB_b (H.ldI 0 rfl (ad1 p 3) rfl (H.ldI 0 rfl (ad1 p 3) rfl ⟨?_, H.mod⟩))
      rw [Bool.and_assoc]
    · rw [h2]
      exact H.ldI 0 rfl (ad1 p 3) rfl (H.ldI 0 rfl (ad1 p 3) rfl ⟨rfl, H.mod⟩)
  · rw [h1]
    exact H.ldI 0 rfl (ad1 p 4) rfl (H.ldI 0 rfl (ad1 p 3) rfl (H.ldI 0 rfl (ad1 p 3) rfl ⟨rfl, H.mod⟩))
theorem clr_neg {x : Int} (h : x < 0) (h2 : -9223372036854775808 ≤ x) : ¬ clrI .i64 x 3584 = 0 := by
  intro he
  unfold clrI at he
  have hm : (BitVec.ofInt 64 x).msb = true := by
    rw [BitVec.msb_eq_decide, BitVec.toNat_ofInt]
    refine decide_eq_true ?_
    omega
  have hv : (BitVec.ofInt 64 x &&& ~~~ BitVec.ofInt 64 3584).msb = true := by
    rw [BitVec.msb_and, hm]
    decide
  have hn := BitVec.msb_eq_decide (BitVec.ofInt 64 x &&& ~~~ BitVec.ofInt 64 3584)
  rw [hv] at hn
  have hn := of_decide_eq_true hn.symm
  have hlt := (BitVec.ofInt 64 x &&& ~~~ BitVec.ofInt 64 3584).isLt
  have he : IntKind.wrap .i64 (((BitVec.ofInt 64 x &&& ~~~ BitVec.ofInt 64 3584).toNat : Nat) : Int) = 0 := he
  generalize (BitVec.ofInt 64 x &&& ~~~ BitVec.ofInt 64 3584).toNat = n at *
  have e : IntKind.wrap .i64 (n : Int) = (n : Int) - 18446744073709551616 := by
    have e : IntKind.wrap .i64 (n : Int) = if (n : Int) % 18446744073709551616 ≥ 9223372036854775808 then (n : Int) % 18446744073709551616 - 18446744073709551616 else (n : Int) % 18446744073709551616 := by
      simp [IntKind.wrap, IntKind.signed, IntKind.bits]
    rw [e, if_pos (by omega)]
    omega
  omega
def GrV.fit (g : GrV) : Prop := -9223372036854775808 ≤ g.n3
theorem ref19_one_ok (g : GrV) (hf : g.fit) (w : World) : Ok Pr f_ref19_one [.agg ⟨g.cells⟩] w fun v w' => v = .bool (goodG g) ∧ Mod [] w w' := by
  refine V_ref19_one_of ?_
  unfold V_ref19_one
  refine (Mine.start w).nw fun p w1 H _ => ?_
  refine H.ldI 0 rfl (ad1 p 1) rfl (H.ldI 0 rfl (ad1 p 1) rfl (H.ldI 0 rfl (ad1 p 2) rfl (H.ldI 0 rfl (ad1 p 2) rfl (H.ldI 0 rfl (ad1 p 4) rfl (H.ldI 0 rfl (ad1 p 4) rfl (H.ldI 0 rfl (ad1 p 3) rfl (H.ldI 0 rfl (ad1 p 3) rfl ⟨?_, H.mod⟩)))))))
  congr 1
  unfold goodG within2
  have e : (decide ((0 : Int) < g.n3) && decide (clrI .i64 g.n3 3584 = 0)) = ((!decide (g.n3 = 0)) && decide (clrI .i64 g.n3 3584 = 0)) := by
    rcases Int.lt_trichotomy g.n3 0 with h | h | h
    · rw [decide_eq_false (clr_neg h hf), Bool.and_false, Bool.and_false]
    · rw [h]; rfl
    · rw [decide_eq_true h, decide_eq_false (show ¬ g.n3 = 0 by omega)]; rfl
  rw [← e]
  simp only [Bool.and_assoc]
/-- so many of a list's first ones may be -/
def okTo (l : List GrV) : Nat → Bool
  | 0 => true
  | i + 1 => okTo l i && (decide ((l.getD i gz).n0 = (i : Int) + 1) && goodG (l.getD i gz))
def mayG (l : List GrV) : Bool := okTo l l.length && decide (l.length ≤ 8)
theorem okTo_no {l : List GrV} {i : Nat} (hi : i < l.length) (h : (decide ((l.getD i gz).n0 = (i : Int) + 1) && goodG (l.getD i gz)) = false) : okTo l l.length = false := by
  have : ∀ k, i < k → okTo l k = false := by
    intro k hk
    induction k with
    | zero => omega
    | succ k ih =>
      unfold okTo
      rcases Nat.lt_or_ge i k with h1 | h1
      · rw [ih h1]; rfl
      · have : k = i := by omega
        subst this
        rw [h, Bool.and_false]
  exact this _ hi
theorem grants_May_ok (x : SlV) (l : List GrV) (hl : l.length ≤ 1000000) (w : World) (hx : Grs w x l) : Ok Pr f_grants_May [.slice x.a x.n x.c] w fun v w' => v = .bool (mayG l) ∧ Mod [] w w' := by
  refine V_grants_May_of ?_
  unfold V_grants_May
  have hxl := hx.len
  have hzc : zc Pr t_api_Grant = gz.cells := by kernel_rfl
  rw [hzc]
  unfold mayG
  refine loop1_up 0 l.length (fun i w' => Mine w [] w' [] ∧ okTo l i = true) rfl (by omega) ⟨Mine.start w, rfl⟩ ?_ ?_
  · rintro again i w1 _ hi ⟨H, ho⟩ hag
    refine ite_true (decide_eq_true (by omega)) ((hx.mod0 H.mod).ld hi rfl (H.nw fun p w2 H _ => H.sT_api_Grant 0 rfl rfl fun w3 H => ?_))
    have hno := okTo_no (l := l) hi
    have hst : okTo l (i + 1) = (okTo l i && (decide ((l.getD i gz).n0 = (i : Int) + 1) && goodG (l.getD i gz))) := rfl
    generalize l.getD i gz = g at *
    refine H.ldI 0 rfl (ad1 p 0) rfl ⟨⟨by omega, by omega⟩, H.ld_api_Grant 0 rfl (ite_intro (fun h => ?_) (fun h => ?_))⟩
    · have h : decide (g.n0 = (i : Int) + 1) = false := by simpa using h
      rw [hno (by rw [h]; rfl)]
      exact ⟨rfl, H.mod⟩
    · have h : decide (g.n0 = (i : Int) + 1) = true := by simpa using h
      refine call_of (grants_good_ok g _) ?_
      rintro _ w4 ⟨rfl, m4⟩
      have H := H.frame m4
      refine asB_b (ite_intro (fun h2 => ?_) (fun h2 => ?_))
      · have h2 : goodG g = false := by simpa using h2
        rw [hno (by rw [h2, Bool.and_false])]
        exact ⟨rfl, H.mod⟩
      · have h2 : goodG g = true := by simpa using h2
        refine ⟨⟨by omega, by omega⟩, hag w4 ⟨H.take 0, ?_⟩⟩
        rw [hst, ho, h, h2]; rfl
  · rintro again w1 ⟨H, ho⟩
    refine ite_false (decide_eq_false (by omega)) ⟨?_, H.mod⟩
    rw [ho, Bool.true_and]
    congr 1
    exact decide_eq_decide.2 (by omega)
theorem ref19_May_ok (x : SlV) (l : List GrV) (hf : ∀ g ∈ l, g.fit) (hl : l.length ≤ 1000000) (w : World) (hx : Grs w x l) : Ok Pr f_ref19_May [.slice x.a x.n x.c] w fun v w' => v = .bool (mayG l) ∧ Mod [] w w' := by
  refine V_ref19_May_of ?_
  unfold V_ref19_May
  have hxl := hx.len
  unfold mayG
  refine loop1_up 0 l.length (fun i w' => Mine w [] w' [] ∧ okTo l i = true) rfl (by omega) ⟨Mine.start w, rfl⟩ ?_ ?_
  · rintro again i w1 _ hi ⟨H, ho⟩ hag
    refine ite_intro (fun hc => ?_) (fun hc => ?_)
    · have hx1 := hx.mod0 H.mod
      have hcell := hx1.cell (i := i) (j := 0) hi rfl
      refine ⟨⟨Sl.pre hx (by omega), by omega, by omega⟩, (l.getD i gz).n0, by rw [Int.toNat_natCast]; exact hcell, ⟨by omega, by omega⟩, ?_⟩
      have hno := okTo_no (l := l) hi
      have hst : okTo l (i + 1) = (okTo l i && (decide ((l.getD i gz).n0 = (i : Int) + 1) && goodG (l.getD i gz))) := rfl
      have hfit := hf (l.getD i gz) (by simp [hi])
      refine ite_intro (fun h => ?_) (fun h => hx1.ld hi rfl ?_)
      · have h : decide ((l.getD i gz).n0 = (i : Int) + 1) = false := by simpa using h
        rw [hno (by rw [h]; rfl)]
        exact ⟨rfl, H.mod⟩
      · have h : decide ((l.getD i gz).n0 = (i : Int) + 1) = true := by simpa using h
        refine call_of (ref19_one_ok (l.getD i gz) hfit _) ?_
        rintro _ w4 ⟨rfl, m4⟩
        have H := H.frame m4
        refine asB_b (ite_intro (fun h2 => ?_) (fun h2 => ?_))
        · have h2 : goodG (l.getD i gz) = false := by simpa using h2
          rw [hno (by rw [h2, Bool.and_false])]
          exact ⟨rfl, H.mod⟩
        · have h2 : goodG (l.getD i gz) = true := by simpa using h2
          refine ⟨⟨by omega, by omega⟩, hag w4 ⟨H, ?_⟩⟩
          rw [hst, ho, h, h2]; rfl
    · have h8 : ¬ l.length ≤ 8 := by
        intro h8
        simp only [Bool.and_eq_false_iff, decide_eq_false_iff_not] at hc
        omega
      refine ⟨?_, H.mod⟩
      rw [decide_eq_false h8, Bool.and_false]
      congr 1
      exact decide_eq_false (by omega)
  · rintro again w1 ⟨H, ho⟩
    refine ite_false (by rw [decide_eq_false (show ¬ ((l.length : Nat) : Int) < ((x.n : Nat) : Int) by omega)]; rfl) ⟨?_, H.mod⟩
    rw [ho, Bool.true_and]
    congr 1
    exact decide_eq_decide.2 (by omega)
theorem slices_Clone_gr_ok (x : SlV) (l : List GrV) (hl : l.length ≤ 1000000) (w : World) (hx : Grs w x l) : Ok Pr f_slices_Clone_api_Grant_api_Grant [.slice x.a x.n x.c] w fun v w' => ∃ y : SlV, v = .slice y.a y.n y.c ∧ Own w' w.heap.size t_api_Grant 6 y (grC l) ∧ y.n = x.n ∧ Mod [] w w' := by
  refine V_slices_Clone_api_Grant_api_Grant_of ?_
  unfold V_slices_Clone_api_Grant_api_Grant
  have hxl := hx.len
  refine ite_intro (fun h => ?_) (fun h => ?_)
  · have h0 : x.n = 0 := by
      rcases Nat.eq_zero_or_pos x.n with e | e
      · exact e
      · have := Sl.pre hx e
        cases ha : x.a with
        | none => rw [ha] at this; cases this
        | some a => rw [ha] at h; cases h
    obtain rfl : l = [] := List.eq_nil_of_length_eq_zero (by omega)
    exact ⟨⟨none, 0, 0⟩, rfl, Own.nil _ _ _ _, h0.symm, Mod.refl _ _⟩
  · refine (Mine.start w).nw fun p w1 H _ => ?_
    have H := H.asRow 0 6 0 0 rfl rfl (Nat.le_refl _) (by simp only [maxLen]; omega)
    refine H.app (s := ⟨some ⟨p, 0, none⟩, 0, 0⟩) (vs := []) 0 elt_gr rfl (hx.mod0 H.mod) (ones_grC l) (by show (0 + x.n) * 48 ≤ _; omega) (by show 0 + x.n ≤ _; omega) fun y w2 H hy => ?_
    exact ⟨y, rfl, H.fresh0 0 rfl, by rw [hy]; exact Nat.zero_add _, H.mod⟩
end Go.Proofs.YtoeedbljiocpdaaDoor
