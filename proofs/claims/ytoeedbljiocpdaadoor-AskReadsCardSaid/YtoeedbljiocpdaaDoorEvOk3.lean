/- THE EVALUATOR IS SOUND, part 3: whatever only computes. -/
import Derived.Test.YtoeedbljiocpdaaDoorEvOk2
import Derived.Laws.Slices
namespace Go.Ev
open Go

variable {P : Program}
theorem run_isAgg {t : TypeId} {u : TypeDesc} (h : P.underlying t = some u) (w : World) : (isAgg t).run P w = .ok (isAggT P t) w := by
  unfold isAggT
  rw [h]
  cases u <;> simp [isAgg, run_underlying h]
theorem field_ok {t : TypeId} {x v : Value} {f : Nat} (h : fieldV P t x f = some v) (w : World) : (Instr.field t x f).run P w = .ok v w := by
  unfold fieldV at h
  split at h
  · rename_i cs
    split at h
    · rename_i fs hu
      split at h
      · rename_i fd hf
        cases hk : (known P fd.type && hasUnd P fd.type) with
        | false => rw [hk] at h; cases h
        | true =>
          rw [hk] at h
          simp only [Bool.and_eq_true] at hk
          simp only [cond_true] at h
          unfold Instr.field
          rw [Sem.run_bind, run_underlying hu, Result.andThen_ok]
          simp only []
          have hf' : fs[f]? = some fd := by simpa using hf
          rw [hf']
          simp only []
          rw [Sem.run_bind]
          simp only [asAgg, Sem.run_pure, Result.andThen_ok]
          unfold part
          rw [Sem.run_bind]
          cases hu2 : P.underlying fd.type with
          | none =>
            have := hk.2
            simp [hasUnd, hu2] at this
          | some u =>
            rw [run_isAgg hu2, Result.andThen_ok]
            cases ha : isAggT P fd.type with
            | true =>
              rw [ha] at h
              cases h
              simp only [if_true]
              rw [Sem.run_bind, run_size' hk.1]
              simp only [Result.andThen_ok, Sem.run_pure]
              congr 2
              apply Array.ext'
              simp [Array.toList_extract, List.extract_eq_take_drop]
            | false =>
              rw [ha] at h
              simp only [cond_false] at h
              have h' : cs[fd.offset]? = some v := by simpa using h
              simp [h']
      · cases h
    · cases h
  · cases h

theorem fieldPlace_run {a : Addr} {f : Field} (hk : known P f.type = true) (hs : Nat.beq (Ev.sizeOf P f.type) 0 = false) (w : World) : (fieldPlace a f).run P w = .ok (a.add f.offset) w := by
  unfold fieldPlace
  rw [Sem.run_bind, run_size' hk, Result.andThen_ok, if_neg (beq_ne.1 hs)]
  rfl
theorem min_ok (k : IntKind) : ∀ (r : List Value) (x : Int) {v : Value}, tot.minAll k x r = some v → ∀ w, ((r.foldlM Builtin.min2 (.int k x) : Sem Value)).run P w = .ok v w
  | [], x, v, h, w => by cases h; rfl
  | y :: r, x, v, h, w => by
    cases y with
    | int k' y =>
      simp only [tot.minAll] at h
      rw [List.foldlM_cons, Sem.run_bind]
      simp only [Builtin.min2, Sem.run_pure, Result.andThen_ok]
      have : (if y < x then y else x) = min x y := by omega
      rw [this]
      exact min_ok k r _ h w
    | _ => cases h
theorem max_ok (k : IntKind) : ∀ (r : List Value) (x : Int) {v : Value}, tot.maxAll k x r = some v → ∀ w, ((r.foldlM Builtin.max2 (.int k x) : Sem Value)).run P w = .ok v w
  | [], x, v, h, w => by cases h; rfl
  | y :: r, x, v, h, w => by
    cases y with
    | int k' y =>
      simp only [tot.maxAll] at h
      rw [List.foldlM_cons, Sem.run_bind]
      simp only [Builtin.max2, Sem.run_pure, Result.andThen_ok]
      have : (if y > x then y else x) = max x y := by omega
      rw [this]
      exact max_ok k r _ h w
    | _ => cases h
/-- what only computes is what the model makes of it, in every world -/
theorem tot_ok {ρ : Operand → Option Value} {e : Operand → Value} (hr : Snd ρ e) (o : Oper) {v : Value} (h : tot P ρ o.op = some v) (w : World) :
    (execOp e o).run P w = .ok (.value v) w := by
  obtain ⟨dst, op, ty, ps, af, gd⟩ := o
  simp only at h
  unfold tot at h
  split at h
  · rw [← hr _ _ h]; rfl
  · rw [← hr _ _ h]; rfl
  · rename_i op t x y yt
    split at h
    · rename_i a b ha hb
      have := totBin_ok h x y w
      rw [← hr _ _ ha, ← hr _ _ hb] at this
      simp only [execOp]
      rw [Sem.run_bind, this]
      rfl
    · cases h
  · rename_i op t x
    split at h
    · rename_i b hb; cases h; simp only [execOp, hr _ _ hb]; rfl
    · rename_i k n hb; cases h; simp only [execOp, hr _ _ hb]; rfl
    · rename_i k n hb; cases h; simp only [execOp, hr _ _ hb]; rfl
    · cases h
  · rename_i s d x
    split at h
    · rename_i u k k0 n hs hd hx
      cases h
      simp only [execOp, hr _ _ hx, convert]
      rw [Sem.run_bind, Sem.run_bind, run_underlying hs, Result.andThen_ok, Sem.run_bind, run_underlying hd, Result.andThen_ok]
      rfl
    · rename_i b hs hd hx
      cases h
      simp only [execOp, hr _ _ hx, convert]
      rw [Sem.run_bind, Sem.run_bind, run_underlying hs, Result.andThen_ok, Sem.run_bind, run_underlying hd, Result.andThen_ok]
      rfl
    · cases h
  · rename_i t x
    split at h
    · cases h
    · rename_i u hni hu
      cases hx : ρ x with
      | none => rw [hx] at h; cases h
      | some v0 =>
        rw [hx] at h; cases h
        simp only [execOp, hr _ _ hx, Instr.makeInterface]
        rw [Sem.run_bind, Sem.run_bind, run_underlying hu, Result.andThen_ok]
        cases u <;> first | rfl | exact (hni _ rfl).elim
    · cases h
  · rename_i fn first cap
    split at h
    · rename_i va vb ha hb
      cases h
      simp only [execOp, vals_arr hr ha, vals_arr hr hb]; rfl
    · cases h
  · rename_i t pts
    split at h
    · rename_i vs hv
      simp only [execOp]
      rw [parts_arr hr hv, Sem.run_bind, build_ok h]; rfl
    · cases h
  · rename_i t x f
    split at h
    · rename_i v0 hx
      simp only [execOp, hr _ _ hx]
      rw [Sem.run_bind, field_ok h]; rfl
    · cases h
  · rename_i x i
    split at h
    · rename_i vs hx
      simp only [execOp, hr _ _ hx, Instr.extract]
      have h' : vs[i]? = some v := by simpa using h
      rw [h']; rfl
    · cases h
  · rename_i t x f
    split at h
    · rename_i a hx
      split at h
      · rename_i fs hu
        split at h
        · rename_i fd hf
          cases hc : (Nat.beq (Ev.sizeOf P fd.type) 0 || !known P fd.type) with
          | true => rw [hc] at h; cases h
          | false =>
            rw [hc] at h; cases h
            simp only [Bool.or_eq_false_iff, Bool.not_eq_false'] at hc
            have hf' : fs[f]? = some fd := by simpa using hf
            simp only [execOp, hr _ _ hx, Instr.fieldAt]
            rw [Sem.run_bind, Sem.run_bind, run_underlying hu, Result.andThen_ok]
            simp only [hf']
            rw [Sem.run_bind]
            simp only [Instr.sureAddr, Sem.run_pure, Result.andThen_ok]
            rw [Sem.run_bind, fieldPlace_run hc.2 hc.1]; rfl
        · cases h
      · cases h
    · cases h
  · rename_i xs ats
    split at h
    · rename_i a n c t hv ht
      split at h
      · rename_i e0 hu
        cases h
        have hv' := vals_arr hr hv
        have ht' : ats = #[t] := Array.ext' ht
        simp only [execOp, resolve, hv', invoke, Sem.run_bind, Sem.run_pure, Result.andThen_ok, builtin, Builtin.len_, ht']
        simp [run_underlying hu, goInt]
      · cases h
    · rename_i b t hv ht
      split at h
      · rename_i hu
        cases h
        have hv' := vals_arr hr hv
        have ht' : ats = #[t] := Array.ext' ht
        simp only [execOp, resolve, hv', invoke, Sem.run_bind, Sem.run_pure, Result.andThen_ok, builtin, Builtin.len_, ht']
        simp [run_underlying hu, goInt]
      · cases h
    · rename_i x0 t _ _ hv ht
      split at h
      · rename_i n e0 hu
        cases h
        have hv' := vals_arr hr hv
        have ht' : ats = #[t] := Array.ext' ht
        simp only [execOp, resolve, hv', invoke, Sem.run_bind, Sem.run_pure, Result.andThen_ok, builtin, Builtin.len_, ht']
        simp [run_underlying hu, goInt]
      · cases h
    · cases h
  · rename_i xs ats
    split at h
    · rename_i a n c t hv ht
      split at h
      · rename_i e0 hu
        cases h
        have hv' := vals_arr hr hv
        have ht' : ats = #[t] := Array.ext' ht
        simp only [execOp, resolve, hv', invoke, Sem.run_bind, Sem.run_pure, Result.andThen_ok, builtin, Builtin.cap_, ht']
        simp [run_underlying hu, goInt]
      · cases h
    · cases h
  · rename_i xs ats
    split at h
    · rename_i k x r hv
      have hv' := vals_arr hr hv
      simp only [execOp, resolve, hv', invoke, Sem.run_bind, Sem.run_pure, Result.andThen_ok, builtin, Builtin.min_]
      rw [min_ok k r x h]; rfl
    · cases h
  · rename_i xs ats
    split at h
    · rename_i k x r hv
      have hv' := vals_arr hr hv
      simp only [execOp, resolve, hv', invoke, Sem.run_bind, Sem.run_pure, Result.andThen_ok, builtin, Builtin.max_]
      rw [max_ok k r x h]; rfl
    · cases h
  · cases h
end Go.Ev
