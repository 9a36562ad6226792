/- THE EVALUATOR IS SOUND, part 7: a region that draws its order. -/
import Derived.Test.YtoeedbljiocpdaaDoorEvOk6
namespace Go.Ev
open Go

variable {P : Program} {n : Nat} {ws : List Nat} {f0 : Fr} {ops : Array Oper}
theorem hasN_iff {x : Nat} {l : List Nat} : hasN x l = true ↔ x ∈ l := by
  induction l with
  | nil => simp [hasN]
  | cons y r ih =>
    simp only [hasN]
    cases h : Nat.beq x y with
    | true => simp [beq_eq.1 h]
    | false => have := beq_ne.1 h; simp [ih, this]
theorem mem_after {o : Oper} {j : Nat} : j ∈ after o ↔ ∃ e ∈ o.after, Region.binds .any e = true ∧ e.on = j := by
  unfold after
  simp only [List.mem_filterMap, Array.mem_toList_iff]
  constructor
  · rintro ⟨e, he, h⟩
    cases hb : Region.binds .any e with
    | true => rw [hb] at h; cases h; exact ⟨e, he, hb, rfl⟩
    | false => rw [hb] at h; cases h
  · rintro ⟨e, he, hb, rfl⟩
    exact ⟨e, he, by rw [hb]; rfl⟩
theorem freeN_iff {dn l : List Nat} : freeN dn l = true ↔ ∀ j ∈ l, j ∈ dn := by
  induction l with
  | nil => simp [freeN]
  | cons y r ih =>
    simp only [freeN]
    cases h : hasN y dn with
    | true => have := hasN_iff.1 h; simp [ih, this]
    | false => have : y ∉ dn := fun hm => by rw [hasN_iff.2 hm] at h; cases h
               simp [this]
/-- which are done, as the model keeps it -/
structure Lst (ops : Array Oper) (dn : List Nat) (listed : Array Bool) : Prop where
  size : listed.size = ops.size
  iff : ∀ j, j < ops.size → (listed.getD j false = true ↔ j ∈ dn)
  lt : ∀ j ∈ dn, j < ops.size
  closed : ∀ (j : Nat) (o : Oper), ops[j]? = some o → j ∈ dn → ∀ i ∈ after o, i ∈ dn
theorem Lst.getD_true {dn : List Nat} {listed : Array Bool} (h : Lst ops dn listed) {j : Nat} (hj : j < ops.size) : listed.getD j true = listed.getD j false := by
  have : j < listed.size := by rw [h.size]; exact hj
  simp [this]
theorem mem_todo {dn : List Nat} : ∀ {l : List Oper} {k i : Nat} {o : Oper}, (i, o) ∈ todoOf ops.toList dn k l ↔ (∃ j, i = k + j ∧ l[j]? = some o) ∧ i ∉ dn ∧ ∀ x ∈ after o, x ∈ dn
  | [], k, i, o => by simp [todoOf]
  | o' :: r, k, i, o => by
    have ih := mem_todo (dn := dn) (l := r) (k := k + 1) (i := i) (o := o)
    have split : (∃ j, i = k + j ∧ (o' :: r)[j]? = some o) ↔ (i = k ∧ o' = o) ∨ (∃ j, i = k + 1 + j ∧ r[j]? = some o) := by
      constructor
      · rintro ⟨j, h1, h2⟩
        cases j with
        | zero => simp at h2; exact .inl ⟨by omega, h2⟩
        | succ j => exact .inr ⟨j, by omega, by simpa using h2⟩
      · rintro (⟨h1, h2⟩ | ⟨j, h1, h2⟩)
        · exact ⟨0, by omega, by simp [h2]⟩
        · exact ⟨j + 1, by omega, by simpa using h2⟩
    simp only [todoOf]
    cases h1 : hasN k dn with
    | true =>
      have hk := hasN_iff.1 h1
      simp only [cond_true, ih, split]
      constructor
      · rintro ⟨h, h2⟩; exact ⟨.inr h, h2⟩
      · rintro ⟨h | h, h2, h3⟩
        · exact absurd (h.1 ▸ hk) h2
        · exact ⟨h, h2, h3⟩
    | false =>
      have hk : k ∉ dn := fun hm => by rw [hasN_iff.2 hm] at h1; cases h1
      simp only [cond_false]
      cases h2 : freeN dn (after o') with
      | true =>
        have hf := freeN_iff.1 h2
        simp only [cond_true, List.mem_cons, Prod.mk.injEq, ih, split]
        constructor
        · rintro (⟨rfl, rfl⟩ | ⟨h, h3⟩)
          · exact ⟨.inl ⟨rfl, rfl⟩, hk, hf⟩
          · exact ⟨.inr h, h3⟩
        · rintro ⟨⟨h3, h4⟩ | h, h5⟩
          · exact .inl ⟨h3, h4.symm⟩
          · exact .inr ⟨h, h5⟩
      | false =>
        simp only [cond_false, ih, split]
        constructor
        · rintro ⟨h, h3⟩; exact ⟨.inr h, h3⟩
        · rintro ⟨⟨h3, h4⟩ | h, h5, h6⟩
          · subst h4
            rw [freeN_iff.2 h6] at h2; cases h2
          · exact ⟨h, h5, h6⟩
theorem mem_todo0 {dn : List Nat} {i : Nat} {o : Oper} : (i, o) ∈ todoOf ops.toList dn 0 ops.toList ↔ ops[i]? = some o ∧ i ∉ dn ∧ ∀ x ∈ after o, x ∈ dn := by
  rw [mem_todo]
  constructor
  · rintro ⟨⟨j, h1, h2⟩, h3⟩
    rw [Nat.zero_add] at h1
    subst h1
    exact ⟨by simpa using h2, h3⟩
  · rintro ⟨h1, h2⟩
    exact ⟨⟨i, (Nat.zero_add i).symm, by simpa using h1⟩, h2⟩
theorem after_lt {dn : List Nat} {listed : Array Bool} (h : Lst ops dn listed) {j : Nat} (hj : listed.getD j false = true) : j < ops.size ∧ j ∈ dn := by
  have hlt : j < ops.size := by
    rcases Nat.lt_or_ge j listed.size with h' | h'
    · rw [← h.size]; exact h'
    · simp [Array.getElem?_eq_none h'] at hj
  exact ⟨hlt, (h.iff j hlt).1 hj⟩

theorem ready_iff {dn : List Nat} {listed : Array Bool} (h : Lst ops dn listed) {i : Nat} : i ∈ Region.ready .any ops listed ↔ ∃ o, (i, o) ∈ todoOf ops.toList dn 0 ops.toList := by
  rw [mem_ready]
  constructor
  · rintro ⟨h0, o, ho, hall⟩
    have hlt : i < ops.size := (Array.getElem?_eq_some_iff.1 ho).1
    refine ⟨o, mem_todo0.2 ⟨ho, fun hm => ?_, fun x hx => ?_⟩⟩
    · rw [h.getD_true hlt, (h.iff i hlt).2 hm] at h0; cases h0
    · obtain ⟨e, he, hb, rfl⟩ := mem_after.1 hx
      exact (after_lt h (hall e he hb)).2
  · rintro ⟨o, ho⟩
    obtain ⟨h1, h2, h3⟩ := mem_todo0.1 ho
    have hlt : i < ops.size := (Array.getElem?_eq_some_iff.1 h1).1
    refine ⟨?_, o, h1, fun e he hb => ?_⟩
    · rw [h.getD_true hlt]
      cases hh : listed.getD i false with
      | false => rfl
      | true => exact absurd ((h.iff i hlt).1 hh) h2
    · have hx := h3 e.on (mem_after.2 ⟨e, he, hb, rfl⟩)
      exact (h.iff _ (h.lt _ hx)).2 hx
theorem Lst.set {dn : List Nat} {listed : Array Bool} (h : Lst ops dn listed) {i : Nat} {o : Oper} (ho : (i, o) ∈ todoOf ops.toList dn 0 ops.toList) : Lst ops (i :: dn) (listed.setIfInBounds i true) := by
  obtain ⟨h1, h2, h3⟩ := mem_todo0.1 ho
  have hlt : i < ops.size := (Array.getElem?_eq_some_iff.1 h1).1
  refine ⟨by simp [h.size], fun j hj => ?_, fun j hj => ?_, fun j oj hoj hm x hx => ?_⟩
  · by_cases e : i = j
    · subst e
      have : i < listed.size := by rw [h.size]; exact hlt
      simp [this]
    · rw [getD_set_ne false e, h.iff j hj]
      simp [Ne.symm e]
  · cases hj with
    | head => exact hlt
    | tail _ hm => exact h.lt j hm
  · cases hm with
    | head =>
      rw [h1] at hoj; cases hoj
      exact List.mem_cons_of_mem _ (h3 x hx)
    | tail _ hm => exact List.mem_cons_of_mem _ (h.closed j oj hoj hm x hx)

/-! what stands ahead -/
theorem maskOf_bit {acc : List Nat} {i : Nat} : ∀ {l : List Nat}, Nat.testBit (maskOf acc l) i = true → ∃ x ∈ l, i = x ∨ Nat.testBit (acc.getD x 0) i = true
  | [], h => by simp [maskOf] at h
  | y :: r, h => by
    simp only [maskOf] at h
    have h' : Nat.testBit (2 ^ y ||| acc.getD y 0 ||| maskOf acc r) i = true := h
    rw [Nat.testBit_or, Nat.testBit_or] at h'
    simp only [Bool.or_eq_true] at h'
    rcases h' with (h1 | h1) | h1
    · rw [Nat.testBit_two_pow] at h1
      exact ⟨y, List.mem_cons_self, .inl (of_decide_eq_true h1).symm⟩
    · exact ⟨y, List.mem_cons_self, .inr h1⟩
    · obtain ⟨x, hx, h2⟩ := maskOf_bit h1
      exact ⟨x, List.mem_cons_of_mem _ hx, h2⟩
theorem masks_get : ∀ (l : List Oper) (acc : List Nat) (j : Nat), (j < acc.length → (masks l acc).getD j 0 = acc.getD j 0) ∧
    (∀ k o, j = acc.length + k → l[k]? = some o → ∃ acc', (∀ x, x < acc'.length → acc'.getD x 0 = (masks l acc).getD x 0) ∧ acc'.length = j ∧ (masks l acc).getD j 0 = maskOf acc' (after o))
  | [], acc, j => ⟨fun _ => rfl, fun k o _ h => by simp at h⟩
  | o' :: r, acc, j => by
    have ih := masks_get r (acc ++ [maskOf acc (after o')]) 
    simp only [masks]
    refine ⟨fun hj => ?_, fun k o hj hk => ?_⟩
    · rw [(ih j).1 (by simp; omega)]
      simp [List.getD_eq_getElem?_getD, List.getElem?_append_left hj]
    · cases k with
      | zero =>
        simp at hk; subst hk
        refine ⟨acc, fun x hx => ?_, by omega, ?_⟩
        · rw [(ih x).1 (by simp; omega)]
          simp [List.getD_eq_getElem?_getD, List.getElem?_append_left hx]
        · rw [(ih j).1 (by simp; omega)]
          subst hj
          simp [List.getD_eq_getElem?_getD]
      | succ k => exact (ih j).2 k o (by simp; omega) (by simpa using hk)
theorem mask_done {dn : List Nat} {listed : Array Bool} (h : Lst ops dn listed) {i : Nat} : ∀ (j : Nat) (o : Oper), ops[j]? = some o → (∀ x ∈ after o, x ∈ dn) → Nat.testBit ((masks ops.toList []).getD j 0) i = true → i ∈ dn := by
  intro j
  induction j using Nat.strongRecOn with
  | _ j ih =>
    intro o ho hall hb
    obtain ⟨acc', h1, h2, h3⟩ := (masks_get ops.toList [] j).2 j o (by simp) (by simpa using ho)
    rw [h3] at hb
    obtain ⟨x, hx, hor⟩ := maskOf_bit hb
    have hxd := hall x hx
    rcases hor with rfl | hor
    · exact hxd
    · have hlt : x < acc'.length := by
        rcases Nat.lt_or_ge x acc'.length with h' | h'
        · exact h'
        · simp [List.getD_eq_getElem?_getD, List.getElem?_eq_none h'] at hor
      rw [h1 x hlt] at hor
      have hxs := h.lt x hxd
      exact ih x (by omega) ops[x] (Array.getElem?_eq_getElem hxs) (h.closed x ops[x] (Array.getElem?_eq_getElem hxs) hxd) hor

/-! every order -/
def Q0 (K : Act → World → Prop) : Exit → Act → World → Prop := fun e a w => match e with | .normal => K a w | _ => False
def anyC (P : Program) (ops : Array Oper) (Q : Act → World → Prop) (mk : List Nat) : Nat → Array Bool → Rd → Act → World → Prop
  | 0, listed, _, a, w => Region.ready .any ops listed = [] ∧ Q a w
  | f + 1, listed, C, a, w => (Region.ready .any ops listed = [] → Q a w) ∧ ∀ i ∈ Region.ready .any ops listed,
      wpOp P ops (Q0 Q) i (fun a' w' => (∀ c ∈ C, Nat.testBit (mk.getD i 0) c.1 = false → kept c.2.1 c.2.2 w w') ∧ anyC P ops Q mk f (listed.setIfInBounds i true) C a' w') a w
theorem anyC_any {Q : Act → World → Prop} {mk : List Nat} : ∀ {f : Nat} {listed : Array Bool} {C : Rd} {a : Act} {w : World}, anyC P ops Q mk f listed C a w → wpAny P .any ops (Q0 Q) f listed a w
  | 0, _, _, _, _, h => h
  | _ + 1, _, _, _, _, h => ⟨h.1, fun i hi => wpOp_mono (fun _ _ h => anyC_any h.2) (h.2 i hi)⟩
theorem anyC_drop {Q : Act → World → Prop} {mk : List Nat} : ∀ {f : Nat} {listed : Array Bool} {C C' : Rd} {a : Act} {w : World}, (∀ c ∈ C', c ∈ C) → anyC P ops Q mk f listed C a w → anyC P ops Q mk f listed C' a w
  | 0, _, _, _, _, _, _, h => h
  | _ + 1, _, _, _, _, _, hs, h => ⟨h.1, fun i hi => wpOp_mono (fun _ _ h => ⟨fun c hc hb => h.1 c (hs c hc) hb, anyC_drop hs h.2⟩) (h.2 i hi)⟩
theorem YR.wpOp {i : Nat} {o : Oper} {v : Value} {a : Act} {w : World} {rd : Rd} {Q : Exit → Act → World → Prop} (hi : ops[i]? = some o) (hy : YR P ops o v a w rd) {K : Act → World → Prop} (h : K (a.put o.dst v) w) : wpOp P ops Q i K a w := by
  unfold Go.wpOp
  simp only [hi]
  rcases hy with ⟨hw, hv⟩ | ⟨hw, rfl⟩
  · simp only [hw, if_true, Oper.wp, hv w (fun c _ => kept_refl _ _ _), Oper.upon]; exact .inl h
  · simp only [hw, Bool.false_eq_true, if_false]; exact h
theorem kept_trans {a : Addr} {n : Nat} {w w1 w2 : World} (h : kept a n w w1) (h' : kept a n w1 w2) : kept a n w w2 := fun j hj => (h' j hj).trans (h j hj)
theorem YR.of_same {o : Oper} {v : Value} {a a' : Act} {w w' : World} {rd : Rd} (hy : YR P ops o v a w rd) (he : execOp a'.eval o = execOp a.eval o)
    (hw : Region.wanted o (yielded ops a'.tmps) = Region.wanted o (yielded ops a.tmps)) (hk : ∀ c ∈ rd, kept c.2.1 c.2.2 w w') : YR P ops o v a' w' rd := by
  unfold YR at *
  rw [he, hw]
  rcases hy with ⟨h1, h2⟩ | h
  · exact .inl ⟨h1, fun w2 h3 => h2 w2 fun c hc => kept_trans (hk c hc) (h3 c hc)⟩
  · exact .inr h
theorem wpOp_putR {j : Nat} {oi oj : Oper} {v : Value} {rd : Rd} {Q : Act → World → Prop} (hj : ops[j]? = some oj) (hap : oi.apart ops oj = true)
    (hsi : ∀ cs b, oi.op ≠ .select cs b) (hsj : ∀ cs b, oj.op ≠ .select cs b) {K : Act → World → Prop} {a : Act} {w : World}
    (hy : YR P ops oi v a w rd) (hkept : ∀ a' w', K a' w' → ∀ c ∈ rd, kept c.2.1 c.2.2 w w') (h : wpOp P ops (Q0 Q) j K (a.put oi.dst v) w) :
    wpOp P ops (Q0 Q) j (fun a' w' => YR P ops oi v a' w' rd ∧ K (a'.put oi.dst v) w') a w := by
  obtain ⟨h1, h2, h3⟩ := Oper.apart_spec hap
  have keep : ∀ (u : Value) (w' : World), (∀ c ∈ rd, kept c.2.1 c.2.2 w w') → YR P ops oi v (a.put oj.dst u) w' rd := fun u w' hk =>
    hy.of_same (execOp_put oi hsi a oj.dst u h3) (wanted_put oi a oj.dst u h3) hk
  have fin : ∀ u w', K ((a.put oi.dst v).put oj.dst u) w' → YR P ops oi v (a.put oj.dst u) w' rd ∧ K ((a.put oj.dst u).put oi.dst v) w' := fun u w' hK =>
    ⟨keep u w' (hkept _ _ hK), by rw [← Act.put_comm a v u h2]; exact hK⟩
  unfold wpOp at *
  simp only [hj] at *
  rw [wanted_put oj a oi.dst v h1] at h
  split
  · rename_i hw
    simp only [hw, if_true] at h
    rcases h with h | ⟨hasks, hlets⟩
    case inr => exact .inr ⟨by unfold Oper.asks at *; rw [execOp_put oj hsj a oi.dst v h1] at hasks; exact hasks, hlets⟩
    refine .inl ?_
    unfold Oper.wp at *
    rw [execOp_put oj hsj a oi.dst v h1] at h
    generalize (execOp a.eval oj).run P w = r at *
    cases r with
    | ok n w' =>
      cases n <;> simp only [Oper.upon] at h ⊢
      case value u => exact fin u w' h
      case skip => exact fin _ w' h
      case defer d =>
        have hk := hkept _ _ h
        refine ⟨(keep undef w' hk).of_same (by cases oj.dst <;> rfl) (by cases oj.dst <;> rfl) (fun c _ => kept_refl _ _ _), ?_⟩
        rw [← Act.put_comm _ v undef h2, ← Act.put_defers]
        exact h
      case enter f args =>
        refine Calls.mono h fun e w'' he => ?_
        cases e with
        | returned u => exact fin u w'' he
        | panicked c => exact he
        | outgrown => exact he
      case row row args => exact Rows.mono h fun u w'' he => fin u w'' he
    | halt x w' =>
      cases x <;> simp only [Oper.upon] at h ⊢
      case panic u => exact h
  · rename_i hw
    simp only [hw] at h
    exact fin _ w h

/-! static -/
theorem noSel_ok : ∀ {l : List Oper}, noSel l = true → ∀ o ∈ l, ∀ cs b, o.op ≠ .select cs b
  | [], _, _, h => by cases h
  | x :: r, h, o, ho => by
    simp only [noSel] at h
    intro cs b e
    cases ho with
    | head => rw [e] at h; cases h
    | tail _ ho =>
      have hr : noSel r = true := by split at h <;> first | cases h | exact h
      exact noSel_ok hr o ho cs b e
theorem slots_eq (o : Oper) : slotsOf ops.toList o = o.looksAt ops := by
  unfold slotsOf Oper.looksAt
  congr 1
  cases o.guard with
  | none => rfl
  | some g => simp
theorem hasN_contains (d : Nat) (l : List Nat) : hasN d l = l.contains d := by
  rw [Bool.eq_iff_iff, hasN_iff]; simp
theorem apartB_ok {x y : Oper} (h : apartB ops.toList x y = true) : x.apart ops y = true := by
  unfold apartB at h
  unfold Oper.apart
  rw [slots_eq, slots_eq] at h
  cases hx : x.dst <;> cases hy : y.dst <;> simp only [hx, hy, hasN_contains] at h ⊢
  · exact h
  · exact h
  · rename_i d
    cases hc : (Oper.looksAt ops y).contains d with
    | true => rw [hc] at h; cases h
    | false => rfl
  · rename_i d e
    cases hc : (Oper.looksAt ops y).contains d with
    | true => rw [hc] at h; cases h
    | false =>
      rw [hc] at h
      simp only [cond_false, Bool.and_eq_true, Bool.not_eq_true', beq_ne] at h
      simp only [Bool.not_false, Bool.true_and, Bool.and_eq_true, Bool.not_eq_true']
      exact ⟨by simp; exact fun e' => h.1 e'.symm, h.2⟩
theorem apartRow_ok {i : Nat} {o : Oper} : ∀ {l : List Oper} {k : Nat}, apartRow ops.toList i o k l = true → ∀ j x, l[j]? = some x → i = k + j ∨ i ∈ after x ∨ (k + j) ∈ after o ∨ o.apart ops x = true
  | [], _, _, j, x, hx => by simp at hx
  | y :: r, k, h, j, x, hx => by
    simp only [apartRow] at h
    cases hc : (Nat.beq i k || hasN i (after y) || hasN k (after o) || apartB ops.toList o y) with
    | false => rw [hc] at h; cases h
    | true =>
      rw [hc] at h
      cases j with
      | zero =>
        simp at hx; subst hx
        simp only [Bool.or_eq_true, beq_eq, hasN_iff] at hc
        rcases hc with ((h1 | h1) | h1) | h1
        · exact .inl (by omega)
        · exact .inr (.inl h1)
        · exact .inr (.inr (.inl (by simpa using h1)))
        · exact .inr (.inr (.inr (apartB_ok h1)))
      | succ j =>
        have := apartRow_ok h j x (by simpa using hx)
        rwa [show k + 1 + j = k + (j + 1) by omega] at this
theorem apartAll_ok : ∀ {l : List Oper} {k : Nat}, apartAll ops.toList k l = true → ∀ i o, l[i]? = some o → apartRow ops.toList (k + i) o 0 ops.toList = true
  | [], _, _, i, o, ho => by simp at ho
  | y :: r, k, h, i, o, ho => by
    simp only [apartAll] at h
    cases hc : apartRow ops.toList k y 0 ops.toList with
    | false => rw [hc] at h; cases h
    | true =>
      rw [hc] at h
      cases i with
      | zero => simp at ho; subst ho; exact hc
      | succ i =>
        have := apartAll_ok h i o (by simpa using ho)
        rwa [show k + 1 + i = k + (i + 1) by omega] at this
/-- what lies apart, of what is not done -/
theorem apart_of {dn : List Nat} (hap : apartAll ops.toList 0 ops.toList = true) {i j : Nat} {oi oj : Oper} (hi : (i, oi) ∈ todoOf ops.toList dn 0 ops.toList) (hj : ops[j]? = some oj) (hne : j ≠ i)
    (hjn : j ∉ dn) (hno : i ∉ after oj) : oi.apart ops oj = true := by
  obtain ⟨h1, h2, h3⟩ := mem_todo0.1 hi
  have hrow := apartAll_ok hap i oi (by simpa using h1)
  rw [Nat.zero_add] at hrow
  have := apartRow_ok hrow j oj (by simpa using hj)
  rw [Nat.zero_add] at this
  rcases this with h | h | h | h
  · exact absurd h.symm hne
  · exact absurd h hno
  · exact absurd (h3 j h) hjn
  · exact h

theorem todo_mono {dn : List Nat} {i j : Nat} {o : Oper} (h : (i, o) ∈ todoOf ops.toList dn 0 ops.toList) (hne : i ≠ j) : (i, o) ∈ todoOf ops.toList (j :: dn) 0 ops.toList := by
  obtain ⟨h1, h2, h3⟩ := mem_todo0.1 h
  exact mem_todo0.2 ⟨h1, by simp [hne, h2], fun x hx => List.mem_cons_of_mem _ (h3 x hx)⟩
theorem Lst.perm {dn : List Nat} {listed : Array Bool} {i j : Nat} (h : Lst ops (i :: j :: dn) listed) : Lst ops (j :: i :: dn) listed :=
  ⟨h.size, fun k hk => (h.iff k hk).trans (by simp only [List.mem_cons]; constructor <;> (rintro (h | h | h) <;> simp [h])), fun k hk => h.lt k (by simp only [List.mem_cons] at hk ⊢; rcases hk with h | h | h <;> simp [h]),
    fun k o hk hm x hx => by
      have := h.closed k o hk (by simp only [List.mem_cons] at hm ⊢; rcases hm with h | h | h <;> simp [h]) x hx
      simp only [List.mem_cons] at this ⊢; rcases this with h | h | h <;> simp [h]⟩
/-- what only computes, or reads, may go first -/
theorem anyC_first {Q : Act → World → Prop} (hsel : noSel ops.toList = true) (hap : apartAll ops.toList 0 ops.toList = true) {i : Nat} {oi : Oper} {v : Value} {rd : Rd} (hrd : ∀ c ∈ rd, c.1 = i) :
    ∀ (f : Nat) (listed : Array Bool) (dn : List Nat) (C : Rd) (a : Act) (w : World), Lst ops dn listed → (i, oi) ∈ todoOf ops.toList dn 0 ops.toList → YR P ops oi v a w rd →
      anyC P ops Q (masks ops.toList []) f (listed.setIfInBounds i true) (rd ++ C) (a.put oi.dst v) w → anyC P ops Q (masks ops.toList []) (f + 1) listed C a w := by
  have sel : ∀ (j : Nat) (o : Oper), ops[j]? = some o → ∀ cs b, o.op ≠ .select cs b := fun j o ho => noSel_ok hsel o (by
    have := List.mem_of_getElem? (l := ops.toList) (i := j) (a := o) (by simpa using ho)
    exact this)
  intro f
  induction f with
  | zero =>
    intro listed dn C a w hl hi hy H
    have hir := (ready_iff hl).2 ⟨oi, hi⟩
    refine ⟨fun h => (by rw [h] at hir; cases hir), fun j hj => ?_⟩
    by_cases hji : j = i
    · subst hji
      exact hy.wpOp (mem_todo0.1 hi).1 ⟨fun c _ _ => kept_refl _ _ _, anyC_drop (fun c hc => List.mem_append_right _ hc) H⟩
    · have := ready_mono hj hji
      rw [H.1] at this
      cases this
  | succ f ih =>
    intro listed dn C a w hl hi hy H
    have hir := (ready_iff hl).2 ⟨oi, hi⟩
    refine ⟨fun h => (by rw [h] at hir; cases hir), fun j hj => ?_⟩
    by_cases hji : j = i
    · subst hji
      exact hy.wpOp (mem_todo0.1 hi).1 ⟨fun c _ _ => kept_refl _ _ _, anyC_drop (fun c hc => List.mem_append_right _ hc) H⟩
    · have h1 := H.2 j (ready_mono hj hji)
      obtain ⟨oj, hjt⟩ := (ready_iff hl).1 hj
      obtain ⟨hoj, hjn, hja⟩ := mem_todo0.1 hjt
      obtain ⟨hoi, hin, hia⟩ := mem_todo0.1 hi
      have hno : i ∉ after oj := fun hm => hin (hja i hm)
      have hbit : Nat.testBit ((masks ops.toList []).getD j 0) i = false := by
        cases hb : Nat.testBit ((masks ops.toList []).getD j 0) i with
        | false => rfl
        | true => exact absurd (mask_done hl j oj hoj hja hb) hin
      have h2 := wpOp_putR hoj (apart_of hap hi hoj hji hjn hno) (sel i oi hoi) (sel j oj hoj) hy (fun a' w' hK c hc => hK.1 c (List.mem_append_left _ hc) (by rw [hrd c hc]; exact hbit)) h1
      refine wpOp_mono (fun a' w' h3 => ⟨fun c hc hb => h3.2.1 c (List.mem_append_right _ hc) hb, ?_⟩) h2
      refine ih (listed.setIfInBounds j true) (j :: dn) C a' w' (hl.set hjt) (todo_mono hi (Ne.symm hji)) h3.1 ?_
      rw [Array.setIfInBounds_comm _ _ hji]
      exact h3.2.2
theorem keptAll_ok {mask : Nat} {w w' : World} {A : Prop} : ∀ {C : Rd}, keptAll mask w w' A C → (∀ c ∈ C, Nat.testBit mask c.1 = false → kept c.2.1 c.2.2 w w') ∧ A
  | [], h => ⟨fun _ h => (by cases h), h⟩
  | (i, a, n) :: r, h => by
    simp only [keptAll] at h
    cases hb : Nat.testBit mask i with
    | true =>
      rw [hb] at h
      obtain ⟨h1, h2⟩ := keptAll_ok h
      refine ⟨fun c hc hcb => ?_, h2⟩
      cases hc with
      | head => rw [hb] at hcb; cases hcb
      | tail _ hc => exact h1 c hc hcb
    | false =>
      rw [hb] at h
      obtain ⟨h0, h⟩ := h
      obtain ⟨h1, h2⟩ := keptAll_ok h
      refine ⟨fun c hc hcb => ?_, h2⟩
      cases hc with
      | head => exact h0
      | tail _ hc => exact h1 c hc hcb
theorem readsOf_at {s : St} {i : Nat} {o : Oper} : ∀ c ∈ readsOf P ops.toList s i o, c.1 = i := by
  intro c hc
  unfold readsOf at hc
  split at hc
  · split at hc
    · rw [List.mem_singleton.1 hc]
    · cases hc
  · cases hc
theorem firstQuiet_ok : ∀ {l : List (Nat × Oper)} {i : Nat} {o : Oper}, firstQuiet P l = some (i, o) → (i, o) ∈ l ∧ cls P o.op ≤ 1
  | [], _, _, h => by cases h
  | (j, x) :: r, i, o, h => by
    simp only [firstQuiet] at h
    cases hb : Nat.ble (cls P x.op) 1 with
    | true => rw [hb] at h; cases h; exact ⟨List.mem_cons_self, Nat.le_of_ble_eq_true hb⟩
    | false => rw [hb] at h; obtain ⟨h1, h2⟩ := firstQuiet_ok h; exact ⟨List.mem_cons_of_mem _ h1, h2⟩
theorem effs_ok {A : Nat × Oper → Prop} : ∀ {l : List (Nat × Oper)}, effs A l → ∀ x ∈ l, A x
  | [], _, _, h => by cases h
  | [x], h, y, hy => by
    cases hy with
    | head => exact h
    | tail _ hy => cases hy
  | x :: z :: r, h, y, hy => by
    cases hy with
    | head => exact h.1
    | tail _ hy => exact effs_ok (l := z :: r) h.2 y hy
theorem evD_ok (hP : Good P) {m : Mode} {K : Fr → World → Prop} {Q : Act → World → Prop} (hQ : ∀ fr a w, Kn n ws f0 ⟨fr, [], []⟩ a → K fr w → Q a w)
    (hsel : noSel ops.toList = true) (hap : apartAll ops.toList 0 ops.toList = true) (hd : ∀ o ∈ ops.toList, ∀ d, o.dst = some d → d < n ∧ d ∈ ws) :
    ∀ (f : Nat) (dn : List Nat) (C : Rd) (s : St) (a : Act) (w : World) (listed : Array Bool), Lst ops dn listed → Kn n ws f0 s a → evD P m ops (masks ops.toList []) f dn C s w K →
      anyC P ops Q (masks ops.toList []) f listed C a w
  | 0, dn, C, s, a, w, listed, hl, hk, h => by
    simp only [evD] at h
    split at h
    · rename_i ht
      refine ⟨List.eq_nil_iff_forall_not_mem.2 fun i hi => ?_, hQ s.fr a w hk.out h⟩
      obtain ⟨o, ho⟩ := (ready_iff hl).1 hi
      rw [ht] at ho; cases ho
    · exact h.elim
  | f + 1, dn, C, s, a, w, listed, hl, hk, h => by
    simp only [evD] at h
    split at h
    · rename_i ht
      have hnil : Region.ready .any ops listed = [] := List.eq_nil_iff_forall_not_mem.2 fun i hi => by
        obtain ⟨o, ho⟩ := (ready_iff hl).1 hi
        rw [ht] at ho; cases ho
      exact ⟨fun _ => hQ s.fr a w hk.out h, fun i hi => by rw [hnil] at hi; cases hi⟩
    · rename_i x r ht
      have mem_ops : ∀ {i : Nat} {o : Oper}, (i, o) ∈ todoOf ops.toList dn 0 ops.toList → ∀ d, o.dst = some d → d < n ∧ d ∈ ws := fun {i o} ho =>
        hd o (List.mem_of_getElem? (l := ops.toList) (i := i) (by simpa using (mem_todo0.1 ho).1))
      split at h
      · rename_i i o hq
        obtain ⟨hm, hc⟩ := firstQuiet_ok hq
        rw [← ht] at hm
        obtain ⟨v, s', h1, h2, h3⟩ := step_quiet (i := i) hd hk (mem_ops hm) hc h
        have := evD_ok hP hQ hsel hap hd f (i :: dn) _ s' _ w _ (hl.set hm) h2 h3
        exact anyC_first hsel hap readsOf_at f listed dn C a w hl hm h1 this
      · rw [← ht] at h
        refine ⟨fun hnil => ?_, fun i hi => ?_⟩
        · exfalso
          have hx : x ∈ todoOf ops.toList dn 0 ops.toList := by rw [ht]; exact List.mem_cons_self
          have := (ready_iff hl).2 ⟨x.2, by simpa using hx⟩
          rw [hnil] at this; cases this
        · obtain ⟨o, ho⟩ := (ready_iff hl).1 hi
          have h1 := effs_ok h (i, o) ho
          have h2 := step_ok (ops := ops) (Q := Q0 Q) hP hd hk (mem_ops ho) h1
          unfold wpOp
          rw [(mem_todo0.1 ho).1]
          simp only
          have go : ∀ a' w', (∃ s', Kn n ws f0 s' a' ∧ keptAll ((masks ops.toList []).getD i 0) w w' (evD P m ops (masks ops.toList []) f (i :: dn) C s' w' K) C) →
              (∀ c ∈ C, Nat.testBit ((masks ops.toList []).getD i 0) c.1 = false → kept c.2.1 c.2.2 w w') ∧ anyC P ops Q (masks ops.toList []) f (listed.setIfInBounds i true) C a' w' := fun a' w' ⟨s', h3, h4⟩ => by
            obtain ⟨h5, h6⟩ := keptAll_ok h4
            exact ⟨h5, evD_ok hP hQ hsel hap hd f (i :: dn) C s' a' w' _ (hl.set ho) h3 h6⟩
          split
          · rename_i hw
            rw [if_pos hw] at h2
            exact .inl (Oper.wp_mono go h2)
          · rename_i hw
            rw [if_neg hw] at h2
            exact go _ _ h2
theorem evR_ok (hP : Good P) {m : Mode} {draw : Bool} {id : Nat} {fr : Fr} {a : Act} {w : World} {K : Fr → World → Prop} {Q : Exit → Act → World → Prop} (hQ : ∀ fr a w, Kn n ws f0 ⟨fr, [], []⟩ a → K fr w → Q .normal a w)
    (hd : ∀ o ∈ ops.toList, ∀ d, o.dst = some d → d < n ∧ d ∈ ws) (hk : Kn n ws f0 ⟨fr, [], []⟩ a) (h : evR P m ops draw fr w K) : (Code.region id ops draw).wp P Q a w := by
  unfold evR at h
  cases draw with
  | false =>
    exact wp_region_list (evL_ok hP hd hQ _ _ a w hd hk h)
  | true =>
    obtain ⟨hc, h⟩ := cond_ok h
    simp only [Bool.and_eq_true] at hc
    have hl : Lst ops [] (Array.replicate ops.size false) := ⟨by simp, fun j hj => (by simp [hj]), fun j hj => (by cases hj), fun j o _ hm => (by cases hm)⟩
    have h1 := evD_ok hP (Q := fun a w => Q .normal a w) (fun fr a w h1 h2 => hQ fr a w h1 h2) hc.1 hc.2 hd _ [] [] _ a w.drew _ hl hk h
    have h2 : (Code.region id ops true).wp P (Q0 fun a w => Q .normal a w) a w := wp_region_any hP.mixed (by
      have := anyC_any h1
      rw [Array.length_toList] at this
      exact this)
    exact wp_mono h2 fun e a w hq => by cases e <;> first | exact hq | exact hq.elim
end Go.Ev
