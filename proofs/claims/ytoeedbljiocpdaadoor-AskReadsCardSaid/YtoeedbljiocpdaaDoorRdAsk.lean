/- REQUESTS THAT ARE READ: by the program's ranges or by the document's: it comes to the same. -/
import Derived.Test.YtoeedbljiocpdaaDoorRd2
import Derived.Test.YtoeedbljiocpdaaDoorAsk2
namespace Go.Proofs.YtoeedbljiocpdaaDoor
open Go Go.Ev
set_option maxRecDepth 20000
set_option linter.unusedVariables false
theorem rNum_good {lo hi n : Int} {s : Option (List B8)} {l' : List B8} (h : rNum lo hi s = (n, some l')) : lo ≤ n ∧ n ≤ hi ∧ (∃ l, s = some l) ∧ ∀ lo2 hi2, lo2 ≤ n → n ≤ hi2 → rNum lo2 hi2 s = (n, some l') := by
  cases s with
  | none => exact absurd (congrArg Prod.snd h) (by simp [rNum])
  | some l =>
    rw [rNum_some] at h
    split at h
    · simp at h
    · rename_i h8
      split at h
      · simp at h
      · rename_i hr
        simp only [Prod.mk.injEq, Option.some.injEq] at h
        obtain ⟨rfl, rfl⟩ := h
        refine ⟨by omega, by omega, ⟨l, rfl⟩, fun lo2 hi2 h1 h2 => ?_⟩
        rw [rNum_some, if_neg h8, if_neg (by omega)]
theorem rBytes_good {m : Int} {s : Option (List B8)} {a l' : List B8} (h : rBytes m s = (a, some l')) : ∃ l, s = some l := by
  cases s with
  | none => exact absurd (congrArg Prod.snd h) (by simp [rBytes, rNum, rTake])
  | some l => exact ⟨l, rfl⟩
def Rds (a b c d : Int × Int) (l : List B8) (q : AskV) (lb lt : List B8) (s : Option (List B8)) : Prop :=
  ∃ s1 s2 s3 s4 s5 s6 s7 s8 s9 s10 s11 sa sb nm, rNum a.1 a.2 (some l) = (q.n0, s1) ∧ rNum b.1 b.2 s1 = (q.n1, s2) ∧ rNum c.1 c.2 s2 = (q.n2, s3) ∧ rNum d.1 d.2 s3 = (q.n3, s4) ∧ rNum d.1 d.2 s4 = (q.n4, s5) ∧ rNum d.1 d.2 s5 = (q.n5, s6) ∧
    rNum d.1 d.2 s6 = (q.n6, s7) ∧ rNum d.1 d.2 s7 = (q.n7, s8) ∧ rNum d.1 d.2 s8 = (q.n8, s9) ∧ rNum d.1 d.2 s9 = (q.n9, s10) ∧ rNum d.1 d.2 s10 = (q.n10, s11) ∧ rBytes 300 s11 = (nm, sa) ∧ q.name = strOf nm ∧ rBytes 2000 sa = (lb, sb) ∧ rBytes 100 sb = (lt, s)
/-- what is read within some ranges is read within others just so, if the numbers lie there -/
theorem Rds.other {a b c d a' b' c' d' : Int × Int} {l : List B8} {q q' : AskV} {lb lt lb' lt' : List B8} {s s' : Option (List B8)} (h : Rds a b c d l q lb lt s) (h' : Rds a' b' c' d' l q' lb' lt' s') (he : rEnd s = true)
    (h0 : a'.1 ≤ q.n0 ∧ q.n0 ≤ a'.2) (h1 : b'.1 ≤ q.n1 ∧ q.n1 ≤ b'.2) (h2 : c'.1 ≤ q.n2 ∧ q.n2 ≤ c'.2) (h3 : ∀ n ∈ q.rest, d'.1 ≤ n ∧ n ≤ d'.2) : q'.nums = q.nums ∧ q'.name = q.name ∧ lb' = lb ∧ lt' = lt ∧ s' = s := by
  obtain ⟨s1, s2, s3, s4, s5, s6, s7, s8, s9, s10, s11, sa, sb, nm, e1, e2, e3, e4, e5, e6, e7, e8, e9, e10, e11, ea, en, eb, et⟩ := h
  obtain ⟨t1, t2, t3, t4, t5, t6, t7, t8, t9, t10, t11, ta, tb, nm', f1, f2, f3, f4, f5, f6, f7, f8, f9, f10, f11, fa, fn, fb, ft⟩ := h'
  obtain ⟨r, rfl⟩ : ∃ r, s = some r := by
    cases s with
    | none => cases he
    | some r => exact ⟨r, rfl⟩
  obtain ⟨b0, rfl⟩ := rBytes_good et
  obtain ⟨a0, rfl⟩ := rBytes_good eb
  obtain ⟨l11, rfl⟩ := rBytes_good ea
  simp only [AskV.rest, List.mem_cons, List.not_mem_nil, or_false, forall_eq_or_imp, forall_eq] at h3
  obtain ⟨k3, k4, k5, k6, k7, k8, k9, k10⟩ := h3
  obtain ⟨-, -, ⟨l10, rfl⟩, g11⟩ := rNum_good e11
  obtain ⟨-, -, ⟨l9, rfl⟩, g10⟩ := rNum_good e10
  obtain ⟨-, -, ⟨l8, rfl⟩, g9⟩ := rNum_good e9
  obtain ⟨-, -, ⟨l7, rfl⟩, g8⟩ := rNum_good e8
  obtain ⟨-, -, ⟨l6, rfl⟩, g7⟩ := rNum_good e7
  obtain ⟨-, -, ⟨l5, rfl⟩, g6⟩ := rNum_good e6
  obtain ⟨-, -, ⟨l4, rfl⟩, g5⟩ := rNum_good e5
  obtain ⟨-, -, ⟨l3, rfl⟩, g4⟩ := rNum_good e4
  obtain ⟨-, -, ⟨l2, rfl⟩, g3⟩ := rNum_good e3
  obtain ⟨-, -, ⟨l1, rfl⟩, g2⟩ := rNum_good e2
  obtain ⟨-, -, -, g1⟩ := rNum_good e1
  rw [g1 _ _ h0.1 h0.2, Prod.mk.injEq] at f1
  obtain ⟨v0, rfl⟩ := f1
  rw [g2 _ _ h1.1 h1.2, Prod.mk.injEq] at f2
  obtain ⟨v1, rfl⟩ := f2
  rw [g3 _ _ h2.1 h2.2, Prod.mk.injEq] at f3
  obtain ⟨v2, rfl⟩ := f3
  rw [g4 _ _ k3.1 k3.2, Prod.mk.injEq] at f4
  obtain ⟨v3, rfl⟩ := f4
  rw [g5 _ _ k4.1 k4.2, Prod.mk.injEq] at f5
  obtain ⟨v4, rfl⟩ := f5
  rw [g6 _ _ k5.1 k5.2, Prod.mk.injEq] at f6
  obtain ⟨v5, rfl⟩ := f6
  rw [g7 _ _ k6.1 k6.2, Prod.mk.injEq] at f7
  obtain ⟨v6, rfl⟩ := f7
  rw [g8 _ _ k7.1 k7.2, Prod.mk.injEq] at f8
  obtain ⟨v7, rfl⟩ := f8
  rw [g9 _ _ k8.1 k8.2, Prod.mk.injEq] at f9
  obtain ⟨v8, rfl⟩ := f9
  rw [g10 _ _ k9.1 k9.2, Prod.mk.injEq] at f10
  obtain ⟨v9, rfl⟩ := f10
  rw [g11 _ _ k10.1 k10.2, Prod.mk.injEq] at f11
  obtain ⟨v10, rfl⟩ := f11
  rw [ea, Prod.mk.injEq] at fa
  obtain ⟨rfl, rfl⟩ := fa
  rw [eb, Prod.mk.injEq] at fb
  obtain ⟨rfl, rfl⟩ := fb
  rw [et, Prod.mk.injEq] at ft
  obtain ⟨rfl, rfl⟩ := ft
  refine ⟨?_, fn.trans en.symm, rfl, rfl, rfl⟩
  unfold AskV.nums
  rw [v0, v1, v2, v3, v4, v5, v6, v7, v8, v9, v10]
/-- the numbers of what was read lie in their ranges -/
theorem Rds.within {a b c d : Int × Int} {l : List B8} {q : AskV} {lb lt : List B8} {s : Option (List B8)} (h : Rds a b c d l q lb lt s) (he : rEnd s = true) :
    (a.1 ≤ q.n0 ∧ q.n0 ≤ a.2) ∧ (b.1 ≤ q.n1 ∧ q.n1 ≤ b.2) ∧ (c.1 ≤ q.n2 ∧ q.n2 ≤ c.2) ∧ (∀ n ∈ q.rest, d.1 ≤ n ∧ n ≤ d.2) := by
  obtain ⟨s1, s2, s3, s4, s5, s6, s7, s8, s9, s10, s11, sa, sb, nm, e1, e2, e3, e4, e5, e6, e7, e8, e9, e10, e11, ea, en, eb, et⟩ := h
  obtain ⟨r, rfl⟩ : ∃ r, s = some r := by
    cases s with
    | none => cases he
    | some r => exact ⟨r, rfl⟩
  obtain ⟨b0, rfl⟩ := rBytes_good et
  obtain ⟨a0, rfl⟩ := rBytes_good eb
  obtain ⟨l11, rfl⟩ := rBytes_good ea
  obtain ⟨p11, q11, ⟨l10, rfl⟩, -⟩ := rNum_good e11
  obtain ⟨p10, q10, ⟨l9, rfl⟩, -⟩ := rNum_good e10
  obtain ⟨p9, q9, ⟨l8, rfl⟩, -⟩ := rNum_good e9
  obtain ⟨p8, q8, ⟨l7, rfl⟩, -⟩ := rNum_good e8
  obtain ⟨p7, q7, ⟨l6, rfl⟩, -⟩ := rNum_good e7
  obtain ⟨p6, q6, ⟨l5, rfl⟩, -⟩ := rNum_good e6
  obtain ⟨p5, q5, ⟨l4, rfl⟩, -⟩ := rNum_good e5
  obtain ⟨p4, q4, ⟨l3, rfl⟩, -⟩ := rNum_good e4
  obtain ⟨p3, q3, ⟨l2, rfl⟩, -⟩ := rNum_good e3
  obtain ⟨p2, q2, ⟨l1, rfl⟩, -⟩ := rNum_good e2
  obtain ⟨p1, q1, -, -⟩ := rNum_good e1
  refine ⟨⟨p1, q1⟩, ⟨p2, q2⟩, ⟨p3, q3⟩, ?_⟩
  simp only [AskV.rest, List.mem_cons, List.not_mem_nil, or_false, forall_eq_or_imp, forall_eq]
  exact ⟨⟨p4, q4⟩, ⟨p5, q5⟩, ⟨p6, q6⟩, ⟨p7, q7⟩, ⟨p8, q8⟩, ⟨p9, q9⟩, ⟨p10, q10⟩, ⟨p11, q11⟩⟩
def mxC : Int := 1099511627776
/-- the program reads a request just where the document does -/
theorem Rds.same {l : List B8} {q q' : AskV} {lb lt lb' lt' : List B8} {s s' : Option (List B8)} (h : Rds (1, 6) (1, mxC) (1, 13) (0, mxC) l q lb lt s) (h' : Rds (0, mxC) (0, mxC) (0, mxC) (0, mxC) l q' lb' lt' s')
    (hb : q.by_.n = lb.length) (ht : q.tok.n = lt.length) (hb' : q'.by_.n = lb'.length) (ht' : q'.tok.n = lt'.length) :
    (rEnd s && mayAsk q) = (rEnd s' && mayAsk q') ∧ ((rEnd s && mayAsk q) = true → q'.nums = q.nums ∧ q'.name = q.name ∧ lb' = lb ∧ lt' = lt) := by
  have may_eq : q'.nums = q.nums → q'.name = q.name → lb' = lb → lt' = lt → mayAsk q' = mayAsk q := by
    intro e1 e2 e3 e4
    subst e3 e4
    simp only [AskV.nums, List.cons.injEq, and_true] at e1
    obtain ⟨r0, r1, r2, r3, r4, r5, r6, r7, r8, r9, r10⟩ := e1
    unfold mayAsk AskV.rest
    rw [r0, r1, r2, r3, r4, r5, r6, r7, r8, r9, r10, e2, hb, ht, hb', ht']
  have e6 : (6 : Int) ≤ mxC := by decide
  have e13 : (13 : Int) ≤ mxC := by decide
  by_cases he : rEnd s = true
  · obtain ⟨w0, w1, w2, w3⟩ := h.within he
    simp only at w0 w1 w2 w3
    obtain ⟨g1, g2, g3, g4, g5⟩ := h.other h' he (by simp only; omega) (by simp only; omega) (by simp only; omega) w3
    rw [g5, may_eq g1 g2 g3 g4]
    exact ⟨rfl, fun _ => ⟨g1, g2, g3, g4⟩⟩
  · have he : rEnd s = false := by simpa using he
    rw [he]
    refine ⟨?_, fun h => by cases h⟩
    by_cases hm : (rEnd s' && mayAsk q') = true
    · rw [Bool.and_eq_true] at hm
      obtain ⟨he', hm⟩ := hm
      unfold mayAsk within2 at hm
      simp only [Bool.and_eq_true, decide_eq_true_eq, List.all_eq_true] at hm
      obtain ⟨m0, m1, m2, m3, -⟩ := hm
      obtain ⟨-, -, -, -, g5⟩ := h'.other h he' (by simp only; omega) (by unfold mxC; simp only; omega) (by simp only; omega) (by unfold mxC; exact m3)
      rw [← g5, he] at he'
      cases he'
    · rw [Bool.not_eq_true] at hm
      rw [hm]; rfl
end Go.Proofs.YtoeedbljiocpdaaDoor
