/- THE EVALUATOR IS SOUND, part 2: operations that only compute. -/
import Derived.Test.YtoeedbljiocpdaaDoorEvOk1
import Derived.Laws.Entries
import Derived.Laws.Small
import Derived.Laws.Strings
namespace Go.Ev
open Go

variable {P : Program}
/-- ρ tells what e has -/
def Snd (ρ : Operand → Option Value) (e : Operand → Value) : Prop := ∀ x u, ρ x = some u → e x = u

theorem valsOf_ok {ρ : Operand → Option Value} {e : Operand → Value} (h : Snd ρ e) : ∀ {l : List Operand} {vs : List Value}, valsOf ρ l = some vs → l.map e = vs
  | [], _, hv => by cases hv; rfl
  | x :: r, vs, hv => by
    simp only [valsOf] at hv
    cases hx : ρ x with
    | none => rw [hx] at hv; cases hv
    | some u =>
      rw [hx] at hv
      cases hr : valsOf ρ r with
      | none => rw [hr] at hv; cases hv
      | some us => rw [hr] at hv; cases hv; rw [List.map_cons, h x u hx, valsOf_ok h hr]
theorem partsOf_ok {ρ : Operand → Option Value} {e : Operand → Value} (h : Snd ρ e) : ∀ {l : List (Nat × Operand)} {vs : List (Nat × Value)}, partsOf ρ l = some vs → l.map (fun p => (p.1, e p.2)) = vs
  | [], _, hv => by cases hv; rfl
  | (i, x) :: r, vs, hv => by
    simp only [partsOf] at hv
    cases hx : ρ x with
    | none => rw [hx] at hv; cases hv
    | some u =>
      rw [hx] at hv
      cases hr : partsOf ρ r with
      | none => rw [hr] at hv; cases hv
      | some us => rw [hr] at hv; cases hv; rw [List.map_cons, h x u hx, partsOf_ok h hr]
theorem vals_arr {ρ : Operand → Option Value} {e : Operand → Value} (h : Snd ρ e) {xs : Array Operand} {vs : List Value} (hv : valsOf ρ xs.toList = some vs) : xs.map e = ⟨vs⟩ := by
  apply Array.ext'
  simp [valsOf_ok h hv]
theorem parts_arr {ρ : Operand → Option Value} {e : Operand → Value} (h : Snd ρ e) {xs : Array (Nat × Operand)} {vs : List (Nat × Value)} (hv : partsOf ρ xs.toList = some vs) : xs.map (fun (i, x) => (i, e x)) = ⟨vs⟩ := by
  apply Array.ext'
  simpa using partsOf_ok h hv

/-! integers -/
theorem intCmp_eql (x y : Int) : (Op.intCmp .eql x y : Sem Value) = pure (.bool (decide (x = y))) := by
  simp only [Op.intCmp]; congr 2
theorem intCmp_neq (x y : Int) : (Op.intCmp .neq x y : Sem Value) = pure (.bool (!decide (x = y))) := by
  simp only [Op.intCmp]; congr 2
theorem totInt_ok {op : BinOp} {k k' : IntKind} {x y : Int} {v : Value} (h : totInt op k x k' y = some v) (t : TypeId) (w : World) :
    (binOp op t (.int k x) (.int k' y)).run P w = .ok v w := by
  cases op <;> simp only [totInt] at h
  case shl => cases y with
    | ofNat n => cases h; simp [binOp, Op.shift, shl, show ¬ ((n : Int) < 0) by omega]
    | negSucc n => cases h
  case shr => cases y with
    | ofNat n => cases h; simp [binOp, Op.shift, shr, show ¬ ((n : Int) < 0) by omega]
    | negSucc n => cases h
  case quo =>
    cases hk : decide (k = k') with
    | false => rw [hk] at h; cases h
    | true =>
      have e := of_decide_eq_true hk
      subst e
      rw [hk] at h
      simp only [cond_true] at h
      cases y with
      | ofNat n => cases n with
        | zero => cases h
        | succ n => cases h; simp [binOp, Op.intDiv, show ¬ ((n : Int) + 1 = 0) by omega]
      | negSucc n => cases h
  case rem =>
    cases hk : decide (k = k') with
    | false => rw [hk] at h; cases h
    | true =>
      have e := of_decide_eq_true hk
      subst e
      rw [hk] at h
      simp only [cond_true] at h
      cases y with
      | ofNat n => cases n with
        | zero => cases h
        | succ n => cases h; simp [binOp, Op.intDiv, show ¬ ((n : Int) + 1 = 0) by omega]
      | negSucc n => cases h
  all_goals
    cases hk : decide (k = k') with
    | false => rw [hk] at h; cases h
    | true =>
      have e := of_decide_eq_true hk
      subst e
      rw [hk] at h
      cases h
      first
        | (simp [binOp, Op.intArith, Op.intBits, andI, orI, xorI, clrI, intCmp_eql, intCmp_neq]; done)
        | (simp [binOp, Op.intCmp]; done)

/-! '==' -/
theorem eqGuard_skip {op : BinOp} {t : TypeId} {x y : Operand} {a b : Value} (h1 : a ≠ .nilIface) (h2 : ∀ cs, a ≠ .agg cs) (w : World) : (eqGuard op t x y a b).run P w = .ok () w := by
  unfold eqGuard
  cases op <;> first | rfl | (cases a <;> first | rfl | exact absurd rfl h1 | exact absurd rfl (h2 _))
theorem str_eq (a b : ByteArray) : (a.toList == b.toList) = decide (a = b) := by
  rw [Bool.eq_iff_iff]
  simp only [beq_iff_eq, decide_eq_true_eq, ByteArray.toList_eq]
  exact ⟨fun h => ByteArray.ext (Array.toList_inj.mp h), fun h => h ▸ rfl⟩
theorem equal_bool {t : TypeId} (hu : P.underlying t = some .bool) (a b : Bool) (w : World) : (Op.equal t (.bool a) (.bool b)).run P w = .ok (a == b) w := by
  have h : ∀ d : Nat, (Op.equalIn (d + 1) t (.bool a) (.bool b)).run P w = .ok (a == b) w := fun d => by simp only [Op.equalIn, Sem.run_bind, run_underlying hu, Result.andThen_ok]; rfl
  exact h 9999
theorem equal_slice {t e : TypeId} (hu : P.underlying t = some (.slice e)) (p : Option Addr) (n c n' c' : Nat) (w : World) : (Op.equal t (.slice p n c) (.slice none n' c')).run P w = .ok p.isNone w := by
  have h : ∀ d : Nat, (Op.equalIn (d + 1) t (.slice p n c) (.slice none n' c')).run P w = .ok p.isNone w := fun d => by
    simp only [Op.equalIn, Sem.run_bind, run_underlying hu, Result.andThen_ok]; cases p <;> rfl
  exact h 9999
theorem equal_ptr {t e : TypeId} (hu : P.underlying t = some (.pointer e)) (p : Option Addr) (w : World) : (Op.equal t (.pointer p) (.pointer none)).run P w = .ok p.isNone w := by
  have h : ∀ d : Nat, (Op.equalIn (d + 1) t (.pointer p) (.pointer none)).run P w = .ok p.isNone w := fun d => by
    simp only [Op.equalIn, Sem.run_bind, run_underlying hu, Result.andThen_ok]; cases p <;> rfl
  exact h 9999
theorem equal_map {t k e : TypeId} (hu : P.underlying t = some (.map k e)) (p : Option Nat) (w : World) : (Op.equal t (.map p) (.map none)).run P w = .ok p.isNone w := by
  have h : ∀ d : Nat, (Op.equalIn (d + 1) t (.map p) (.map none)).run P w = .ok p.isNone w := fun d => by
    simp only [Op.equalIn, Sem.run_bind, run_underlying hu, Result.andThen_ok]; cases p <;> rfl
  exact h 9999
theorem totBin_ok {op : BinOp} {t : TypeId} {a b v : Value} (h : totBin P op t a b = some v) (x y : Operand) (w : World) :
    (do eqGuard op t x y a b; binOp op t a b : Sem Value).run P w = .ok v w := by
  unfold totBin at h
  split at h
  · rw [Sem.run_bind, eqGuard_skip (by simp) (by simp)]; exact totInt_ok h t w
  · rename_i a b
    rw [Sem.run_bind, eqGuard_skip (by simp) (by simp), Result.andThen_ok]
    split at h
    · rename_i hu; cases h; show (Op.equal _ _ _ >>= _).run P w = _; rw [Sem.run_bind, equal_bool hu]; rfl
    · rename_i hu; cases h; show (Op.equal _ _ _ >>= _).run P w = _; rw [Sem.run_bind, equal_bool hu]; rfl
    · cases h
  · rename_i a b
    rw [Sem.run_bind, eqGuard_skip (by simp) (by simp), Result.andThen_ok]
    split at h
    · cases h; simp only [binOp, Op.stringOp, str_eq]; rfl
    · cases h; simp only [binOp, Op.stringOp, str_eq]; rfl
    · cases h
  · rename_i p n c n' c'
    rw [Sem.run_bind, eqGuard_skip (by simp) (by simp), Result.andThen_ok]
    split at h
    · rename_i hu; cases h; show (Op.equal _ _ _ >>= _).run P w = _; rw [Sem.run_bind, equal_slice hu]; rfl
    · rename_i hu; cases h; show (Op.equal _ _ _ >>= _).run P w = _; rw [Sem.run_bind, equal_slice hu]; rfl
    · cases h
  · rename_i p
    rw [Sem.run_bind, eqGuard_skip (by simp) (by simp), Result.andThen_ok]
    split at h
    · rename_i hu; cases h; show (Op.equal _ _ _ >>= _).run P w = _; rw [Sem.run_bind, equal_ptr hu]; rfl
    · rename_i hu; cases h; show (Op.equal _ _ _ >>= _).run P w = _; rw [Sem.run_bind, equal_ptr hu]; rfl
    · cases h
  · rename_i p
    rw [Sem.run_bind, eqGuard_skip (by simp) (by simp), Result.andThen_ok]
    split at h
    · rename_i hu; cases h; show (Op.equal _ _ _ >>= _).run P w = _; rw [Sem.run_bind, equal_map hu]; rfl
    · rename_i hu; cases h; show (Op.equal _ _ _ >>= _).run P w = _; rw [Sem.run_bind, equal_map hu]; rfl
    · cases h
  · cases h

/-! laying parts into cells -/
theorem splice_eq : ∀ (xs : List Value) (off : Nat) (cells : Array Value), off + xs.length ≤ cells.size →
    (xs.toArray.zipIdx.foldl (fun cs (c, j) => cs.setIfInBounds (off + j) c) cells) = ⟨splice off xs cells.toList⟩ := by
  intro xs off cells h
  have key : ∀ (xs : List Value) (j : Nat) (cells : Array Value), off + j + xs.length ≤ cells.size →
      ((xs.zipIdx j).foldl (fun (cs : Array Value) (p : Value × Nat) => cs.setIfInBounds (off + p.2) p.1) cells) = ⟨splice (off + j) xs cells.toList⟩ := by
    intro xs
    induction xs with
    | nil => intro j cells _; simp [splice]
    | cons x r ih =>
      intro j cells h
      simp only [List.length_cons] at h
      simp only [List.zipIdx_cons, List.foldl_cons]
      rw [ih (j + 1) _ (by simp; omega)]
      have hlt : off + j < cells.toList.length := by simp; omega
      congr 1
      simp only [splice, Array.toList_setIfInBounds, List.length_cons]
      rw [show off + (j + 1) = off + j + 1 by omega, List.take_succ_eq_append_getElem (by simpa using hlt)]
      simp only [List.getElem_set_self, List.take_set_of_le (Nat.le_refl _), List.append_assoc, List.cons_append, List.nil_append]
      rw [List.drop_set_of_lt (by omega)]
      congr 4
      omega
  have := key xs 0 cells (by simpa using h)
  rw [← Array.foldl_toList, Array.toList_zipIdx]
  exact this
theorem fill_ok (place : Nat → Option (Nat × Nat)) : ∀ (ps : List (Nat × Value)) (cells : List Value) {out : List Value}, fillL place cells ps = some out → Instr.fill place ⟨cells⟩ ps = some ⟨out⟩
  | [], _, _, h => by cases h; rfl
  | (i, v) :: r, cells, out, h => by
    simp only [fillL] at h
    simp only [Instr.fill]
    cases hp : place i with
    | none => rw [hp] at h; cases h
    | some os =>
      obtain ⟨off, size⟩ := os
      rw [hp] at h
      simp only at h ⊢
      cases hc : (Nat.beq v.cells.toList.length size && Nat.ble (off + v.cells.toList.length) cells.length) with
      | false => rw [hc] at h; cases h
      | true =>
        rw [hc] at h
        simp only [Bool.and_eq_true, beq_eq, Nat.ble_eq, Array.length_toList] at hc
        have h1 : (v.cells.size ≠ size || off + v.cells.size > cells.length) = false := by
          simp only [Bool.or_eq_false_iff, decide_eq_false_iff_not]
          exact ⟨by simpa using hc.1, by omega⟩
        have h2 : (decide (v.cells.size ≠ size) || decide (off + v.cells.size > (Array.mk cells).size)) = false := by simpa using h1
        rw [if_neg (by rw [h2]; simp)]
        have := splice_eq v.cells.toList off ⟨cells⟩ (by simpa using hc.2)
        simp only [Array.toArray_toList] at this
        rw [this]
        exact fill_ok place r _ h

/-! what a type has -/
theorem run_info {t : TypeId} {i : TypeInfo} (h : P.info? t = some i) (w : World) : (typeInfo t).run P w = .ok i w := by
  simp [typeInfo, program, Sem.run, h]
theorem run_size {t : TypeId} (h : (P.info? t).isSome) (w : World) : (Go.sizeOf t).run P w = .ok (Ev.sizeOf P t) w := by
  cases hi : P.info? t with
  | none => rw [hi] at h; cases h
  | some i => simp [Go.sizeOf, run_info hi, Ev.sizeOf, hi]
theorem run_size' {t : TypeId} (h : known P t = true) (w : World) : (Go.sizeOf t).run P w = .ok (Ev.sizeOf P t) w := run_size h w
theorem run_zero {t : TypeId} (h : hasZero P t = true) (w : World) : ∃ v, (zeroValue t).run P w = .ok v w ∧ v.cells.toList = zc P t ∧ (zeroValue t = zeroValue t) := by
  unfold hasZero at h
  split at h
  · rename_i i hi
    cases hz : i.zero with
    | none => rw [hz] at h; cases h
    | some v => exact ⟨v, by simp [zeroValue, run_info hi, hz], by simp [zc, hi, hz], rfl⟩
  · cases h
theorem run_zeroCells {t : TypeId} (h : hasZero P t = true) (w : World) {β : Type} (f : Value → Sem β) : ∃ v, v.cells = ⟨zc P t⟩ ∧ (zeroValue t >>= f).run P w = (f v).run P w := by
  obtain ⟨v, h1, h2, _⟩ := run_zero (P := P) h w
  exact ⟨v, Array.ext' h2, by rw [Sem.run_bind, h1]; rfl⟩
theorem run_mapM {α β : Type} {f : α → Sem β} {g : α → β} : ∀ {l : List α}, (∀ x ∈ l, ∀ w, (f x).run P w = .ok (g x) w) → ∀ w, (l.mapM f).run P w = .ok (l.map g) w
  | [], _, w => rfl
  | x :: r, h, w => by
    rw [List.mapM_cons, Sem.run_bind, h x List.mem_cons_self, Result.andThen_ok, Sem.run_bind, run_mapM (fun y hy => h y (List.mem_cons_of_mem _ hy))]
    rfl
theorem run_mapM_arr {α β : Type} {f : α → Sem β} {g : α → β} {xs : Array α} (h : ∀ x ∈ xs.toList, ∀ w, (f x).run P w = .ok (g x) w) (w : World) : (xs.mapM f).run P w = .ok (xs.map g) w := by
  rw [Array.mapM_eq_mapM_toList, Sem.run_map, run_mapM h]
  simp only [Result.andThen_ok]
  congr 1
  apply Array.ext'
  simp
theorem placesOf_ok : ∀ {fs : List Field} {pl : List (Nat × Nat)}, placesOf P fs = some pl → (∀ f ∈ fs, known P f.type = true) ∧ pl = fs.map fun f => (f.offset, Ev.sizeOf P f.type)
  | [], _, h => by cases h; exact ⟨fun _ h => (by cases h), rfl⟩
  | f :: r, pl, h => by
    simp only [placesOf] at h
    cases hk : known P f.type with
    | false => rw [hk] at h; cases h
    | true =>
      rw [hk] at h
      simp only [cond_true] at h
      split at h
      · rename_i l hl
        cases h
        obtain ⟨h1, h2⟩ := placesOf_ok hl
        refine ⟨fun x hx => ?_, by rw [h2]; rfl⟩
        cases hx with
        | head => exact hk
        | tail _ hx => exact h1 x hx
      · cases h
theorem build_ok {t : TypeId} {ps : List (Nat × Value)} {v : Value} (h : buildV P t ps = some v) (w : World) : (Instr.build t ⟨ps⟩).run P w = .ok v w := by
  unfold buildV at h
  unfold Instr.build
  split at h
  · rename_i fs hu
    cases hz : hasZero P t with
    | false => rw [hz] at h; cases h
    | true =>
      rw [hz] at h
      simp only [cond_true] at h
      split at h
      · rename_i pl hpl
        split at h
        · rename_i cs hcs
          cases h
          obtain ⟨hk, hpl2⟩ := placesOf_ok hpl
          obtain ⟨z, hz1, hz2⟩ := run_zeroCells hz w (P := P) (β := Value) (fun z0 => do
            match ← underlying t with
            | .struct fields =>
              let places ← fields.mapM fun f => do pure (f.offset, ← Go.sizeOf f.type)
              let some cells := Instr.fill (places[·]?) z0.cells ps | stuck "build: no such field, or a part of the wrong size"
              pure (.agg cells)
            | .array _ elem =>
              let size ← Go.sizeOf elem
              let some cells := Instr.fill (fun i => some (i * size, size)) z0.cells ps | stuck "build: a part of the wrong size"
              pure (.agg cells)
            | _ => stuck "build: struct or array type expected")
          refine Eq.trans ?_ (hz2.trans ?_)
          · rfl
          · rw [Sem.run_bind, run_underlying hu, Result.andThen_ok]
            simp only []
            rw [Sem.run_bind, run_mapM_arr (g := fun f => (f.offset, Ev.sizeOf P f.type)) (fun f hf w => by simp [run_size' (hk f hf)]), Result.andThen_ok]
            have hf : Instr.fill (fun x => (fs.map fun f => (f.offset, Ev.sizeOf P f.type))[x]?) z.cells ps = some ⟨cs⟩ := by
              rw [hz1]
              refine fill_ok _ ps _ ?_
              rw [← hcs, hpl2]
              congr 1
              funext i
              simp
            rw [hf]
            rfl
        · cases h
      · cases h
  · rename_i n e hu
    cases hz : (hasZero P t && known P e) with
    | false => rw [hz] at h; cases h
    | true =>
      rw [hz] at h
      simp only [Bool.and_eq_true] at hz
      simp only [cond_true] at h
      split at h
      · rename_i cs hcs
        cases h
        obtain ⟨z, hz1, hz2⟩ := run_zeroCells hz.1 w (P := P) (β := Value) (fun z0 => do
            match ← underlying t with
            | .struct fields =>
              let places ← fields.mapM fun f => do pure (f.offset, ← Go.sizeOf f.type)
              let some cells := Instr.fill (places[·]?) z0.cells ps | stuck "build: no such field, or a part of the wrong size"
              pure (.agg cells)
            | .array _ elem =>
              let size ← Go.sizeOf elem
              let some cells := Instr.fill (fun i => some (i * size, size)) z0.cells ps | stuck "build: a part of the wrong size"
              pure (.agg cells)
            | _ => stuck "build: struct or array type expected")
        refine Eq.trans ?_ (hz2.trans ?_)
        · rfl
        · rw [Sem.run_bind, run_underlying hu, Result.andThen_ok]
          simp only []
          rw [Sem.run_bind, run_size' hz.2, Result.andThen_ok]
          have hf : Instr.fill (fun i => some (i * Ev.sizeOf P e, Ev.sizeOf P e)) z.cells ps = some ⟨cs⟩ := by
            rw [hz1]
            exact fill_ok _ ps _ hcs
          rw [hf]
          rfl
      · cases h
  · cases h
theorem info_of_und {t : TypeId} {d : TypeDesc} (h : P.underlying t = some d) : (P.info? t).isSome := by
  unfold Program.underlying at h
  split at h <;> simp_all
end Go.Ev
