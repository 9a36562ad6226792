/- THE EVALUATOR IS SOUND, part 4: operations that ask for something, and that compute alone. -/
import Derived.Test.YtoeedbljiocpdaaDoorEvOk3
namespace Go.Ev
open Go

variable {P : Program}
def OutQ (P : Program) (e : Operand → Value) (o : Oper) (w : World) (K : Value → World → Prop) : Prop :=
  ∃ v, (∀ w', (execOp e o).run P w' = .ok (.value v) w') ∧ K v w
theorem OutQ.tot {ρ : Operand → Option Value} {e : Operand → Value} (hr : Snd ρ e) {o : Oper} {w : World} {K : Value → World → Prop}
    (h : match Ev.tot P ρ o.op with | some v => K v w | none => False) : OutQ P e o w K := by
  split at h
  · rename_i v hv; exact ⟨v, fun w' => tot_ok hr o hv w', h⟩
  · exact h.elim

theorem ar_ok {nw : Bool} {k : IntKind} {z : Int} {K : Int → Prop} (h : ar nw k z K) : K (k.wrap z) := by
  unfold ar at h
  cases hc : (nw && isI64 k) with
  | false => rw [hc] at h; exact h
  | true =>
    rw [hc] at h
    simp only [Bool.and_eq_true] at hc
    have hk : k = .i64 := by have := hc.2; cases k <;> simp_all [isI64]
    subst hk
    have : IntKind.i64.wrap z = z := by
      have h1 := h.1
      unfold I64 at h1
      simp [IntKind.wrap, IntKind.bits, IntKind.signed]
      split <;> omega
    rw [this]; exact h.2
theorem pos_ok {y : Int} {A : Prop} (h : pos y A) : 0 < y ∧ A := by
  unfold pos at h
  split at h
  · exact ⟨by simp only [Int.ofNat_eq_natCast]; omega, h⟩
  · exact h
theorem cnt_ok {y : Int} {A : Prop} (h : cnt y A) : 0 ≤ y ∧ A := by
  unfold cnt at h
  split at h
  · exact ⟨by simp only [Int.ofNat_eq_natCast]; omega, h⟩
  · exact h
theorem wrap_nonneg {k : IntKind} {z : Int} (h0 : 0 ≤ z) (h1 : z ≤ k.max) : k.wrap z = z := by
  cases k <;> simp only [IntKind.max, IntKind.signed, IntKind.bits] at h1 <;> simp only [IntKind.wrap, IntKind.bits, IntKind.signed] <;> simp at h1 ⊢ <;> omega
theorem int_ok {m : Mode} {op : BinOp} {k k' : IntKind} {x y : Int} {K : Value → Prop} (h : intEv m op k x k' y K) (t : TypeId) :
    ∃ v, (∀ w : World, (binOp op t (.int k x) (.int k' y)).run P w = .ok v w) ∧ K v := by
  have kk : ∀ {A : Prop}, cond (decide (k = k')) A False → k = k' ∧ A := fun {A} hA => by
    cases hk : decide (k = k') with
    | true => rw [hk] at hA; exact ⟨of_decide_eq_true hk, hA⟩
    | false => rw [hk] at hA; exact hA.elim
  have rest : (match totInt op k x k' y with | some v => K v | none => False) → ∃ v, (∀ w : World, (binOp op t (.int k x) (.int k' y)).run P w = .ok v w) ∧ K v := fun h => by
    split at h
    · rename_i v hv; exact ⟨v, fun w => totInt_ok hv t w, h⟩
    · exact h.elim
  cases op <;> simp only [intEv] at h
  case add =>
    obtain ⟨e, h2⟩ := kk h
    subst e
    exact ⟨_, fun w => by simp [binOp, Op.intArith], ar_ok h2⟩
  case sub =>
    obtain ⟨e, h2⟩ := kk h
    subst e
    exact ⟨_, fun w => by simp [binOp, Op.intArith], ar_ok h2⟩
  case mul =>
    obtain ⟨e, h2⟩ := kk h
    subst e
    exact ⟨_, fun w => by simp [binOp, Op.intArith], ar_ok h2⟩
  case quo =>
    obtain ⟨e, h2⟩ := kk h
    subst e
    clear h
    obtain ⟨hy, h⟩ := pos_ok h2
    have hne : ¬ y = 0 := by omega
    cases hd : m.dv with
    | true =>
      rw [hd] at h
      obtain ⟨⟨h0, h1⟩, hK⟩ := h
      refine ⟨_, fun w => ?_, hK⟩
      have e1 : x.tdiv y = x / y := Int.tdiv_eq_ediv_of_nonneg h0
      have e2 : k.wrap (x / y) = x / y := wrap_nonneg (Int.ediv_nonneg h0 (by omega)) (Int.le_trans (Int.ediv_le_self y h0) h1)
      simp [binOp, Op.intDiv, hne, e1, e2]
    | false =>
      rw [hd] at h
      exact ⟨_, fun w => by simp [binOp, Op.intDiv, hne], h⟩
  case rem =>
    obtain ⟨e, h2⟩ := kk h
    subst e
    clear h
    obtain ⟨hy, h⟩ := pos_ok h2
    have hne : ¬ y = 0 := by omega
    cases hd : m.dv with
    | true =>
      rw [hd] at h
      obtain ⟨h0, hK⟩ := h
      refine ⟨_, fun w => ?_, hK⟩
      have e1 : x.tmod y = x % y := Int.tmod_eq_emod_of_nonneg h0
      simp [binOp, Op.intDiv, hne, e1]
    | false =>
      rw [hd] at h
      exact ⟨_, fun w => by simp [binOp, Op.intDiv, hne], h⟩
  case shl => obtain ⟨hy, h⟩ := cnt_ok h; exact ⟨_, fun w => by simp [binOp, Op.shift, show ¬ y < 0 by omega, shl], h⟩
  case shr => obtain ⟨hy, h⟩ := cnt_ok h; exact ⟨_, fun w => by simp [binOp, Op.shift, show ¬ y < 0 by omega, shr], h⟩
  all_goals exact rest h
theorem guard_int {op : BinOp} {t : TypeId} {x y : Operand} {k : IntKind} {n : Int} {b : Value} (w : World) : (eqGuard op t x y (.int k n) b).run P w = .ok () w := eqGuard_skip (by simp) (by simp) w
/-- an error, or another interface value, held against nil -/
theorem equal_nil {t : TypeId} {ms : Array (String × TypeId)} (hu : P.underlying t = some (.interface ms)) (a : Value) (K : Bool → Prop) (h : ifaceNil a K) :
    ∃ z, (∀ w : World, (Op.equal t a .nilIface).run P w = .ok z w) ∧ K z := by
  cases a <;> simp only [ifaceNil] at h <;> first | exact h.elim | skip
  · rename_i t' v
    refine ⟨false, fun w => ?_, h⟩
    have hh : ∀ d : Nat, (Op.equalIn (d + 1) t (.iface t' v) .nilIface).run P w = .ok false w := fun d => by simp only [Op.equalIn, Sem.run_bind, run_underlying hu, Result.andThen_ok]; rfl
    exact hh 9999
  · refine ⟨true, fun w => ?_, h⟩
    have hh : ∀ d : Nat, (Op.equalIn (d + 1) t .nilIface .nilIface).run P w = .ok true w := fun d => by simp only [Op.equalIn, Sem.run_bind, run_underlying hu, Result.andThen_ok]; rfl
    exact hh 9999
theorem equal_nilf {t : TypeId} {ps rs : Array TypeId} {va : Bool} (hu : P.underlying t = some (.func ps rs va)) (a : Value) (K : Bool → Prop) (h : funcNil a K) :
    ∃ z, (∀ w : World, (Op.equal t a .nilFunc).run P w = .ok z w) ∧ K z := by
  cases a <;> simp only [funcNil] at h <;> first | exact h.elim | skip
  · rename_i fn f c
    refine ⟨false, fun w => ?_, h⟩
    have hh : ∀ d : Nat, (Op.equalIn (d + 1) t (.func fn f c) .nilFunc).run P w = .ok false w := fun d => by simp only [Op.equalIn, Sem.run_bind, run_underlying hu, Result.andThen_ok]; rfl
    exact hh 9999
  · refine ⟨true, fun w => ?_, h⟩
    have hh : ∀ d : Nat, (Op.equalIn (d + 1) t .nilFunc .nilFunc).run P w = .ok true w := fun d => by simp only [Op.equalIn, Sem.run_bind, run_underlying hu, Result.andThen_ok]; rfl
    exact hh 9999

theorem bin_run {e : Operand → Value} {dst : Option Nat} {op : BinOp} {t yt : TypeId} {x y : Operand} {ty : TypeId} {ps : String} {af : Array Edge} {gd : Option (Nat × Bool)} {v : Value} {w w' : World}
    (h : (do eqGuard op t x y (e x) (e y); binOp op t (e x) (e y) : Sem Value).run P w = .ok v w') : (execOp e ⟨dst, .binOp op t x y yt, ty, ps, af, gd⟩).run P w = .ok (.value v) w' := by
  simp only [execOp]
  rw [Sem.run_bind, h]
  rfl
/-- an operation on two values that is no comparison of structs -/
theorem bin_ok {m : Mode} {op : BinOp} {t : TypeId} {a b : Value} {w : World} {K : Value → World → Prop} {yc : Bool} (h : binEv P m op t yc a b w K) (hb : ∀ ys, b ≠ .agg ys) (x y : Operand) (hy : yc = isC y) :
    ∃ v, (∀ w' : World, (do eqGuard op t x y a b; binOp op t a b : Sem Value).run P w' = .ok v w') ∧ K v w := by
  have rest : (match totBin P op t a b with | some v => K v w | none => False) → ∃ v, (∀ w' : World, (do eqGuard op t x y a b; binOp op t a b : Sem Value).run P w' = .ok v w') ∧ K v w := fun h => by
    split at h
    · rename_i v hv; exact ⟨v, fun w' => totBin_ok hv x y w', h⟩
    · exact h.elim
  unfold binEv at h
  split at h
  · -- nilIface
    have hguard : yc = true → ∀ w' : World, (eqGuard op t x y a .nilIface).run P w' = .ok () w' := fun hyc w' => by
      have hc : ∃ c, y = .const c := by
        rw [hyc] at hy
        cases y <;> first | exact ⟨_, rfl⟩ | cases hy
      obtain ⟨c, rfl⟩ := hc
      unfold eqGuard
      cases op <;> first | rfl | (cases a <;> first | rfl | (simp; done))
    split at h
    · rename_i hu
      have hyc : yc = true := by cases yc <;> first | exact h.elim | rfl
      simp only [hyc, cond_true] at h
      obtain ⟨z, h1, h2⟩ := equal_nil hu a _ h
      refine ⟨_, fun w' => ?_, h2⟩
      rw [Sem.run_bind, hguard hyc, Result.andThen_ok]
      cases a <;> simp only [ifaceNil] at h <;> first | exact h.elim | (show (Op.equal _ _ _ >>= _).run P w' = _; rw [Sem.run_bind, h1]; rfl)
    · rename_i hu
      have hyc : yc = true := by cases yc <;> first | exact h.elim | rfl
      simp only [hyc, cond_true] at h
      obtain ⟨z, h1, h2⟩ := equal_nil hu a _ h
      refine ⟨_, fun w' => ?_, h2⟩
      rw [Sem.run_bind, hguard hyc, Result.andThen_ok]
      cases a <;> simp only [ifaceNil] at h <;> first | exact h.elim | (show (Op.equal _ _ _ >>= _).run P w' = _; rw [Sem.run_bind, h1]; rfl)
    · exact h.elim
  · have hguard : ∀ w' : World, (eqGuard op t x y a .nilFunc).run P w' = .ok () w' := fun w' => by
      unfold eqGuard
      cases op <;> first | rfl | (cases a <;> rfl)
    split at h
    · rename_i hu
      obtain ⟨z, h1, h2⟩ := equal_nilf hu a _ h
      refine ⟨_, fun w' => ?_, h2⟩
      rw [Sem.run_bind, hguard, Result.andThen_ok]
      cases a <;> simp only [funcNil] at h <;> first | exact h.elim | (show (Op.equal _ _ _ >>= _).run P w' = _; rw [Sem.run_bind, h1]; rfl)
    · rename_i hu
      obtain ⟨z, h1, h2⟩ := equal_nilf hu a _ h
      refine ⟨_, fun w' => ?_, h2⟩
      rw [Sem.run_bind, hguard, Result.andThen_ok]
      cases a <;> simp only [funcNil] at h <;> first | exact h.elim | (show (Op.equal _ _ _ >>= _).run P w' = _; rw [Sem.run_bind, h1]; rfl)
    · exact h.elim
  · split at h
    · obtain ⟨v, h1, h2⟩ := int_ok h t (P := P)
      refine ⟨v, fun w' => ?_, h2⟩
      rw [Sem.run_bind, guard_int, Result.andThen_ok, h1]
    · exact h.elim
  · rename_i ys; exact absurd rfl (hb ys)
  · split at h
    · rename_i s1 _
      refine ⟨_, fun w' => ?_, h.2⟩
      rw [Sem.run_bind, eqGuard_skip (by simp) (by simp), Result.andThen_ok]
      simp only [binOp, Op.stringOp]
      rw [if_neg (by simp only [IntKind.max, IntKind.signed, IntKind.bits]; have := h.1; simp; omega)]
      rfl
    · exact rest h
    · exact h.elim
  · exact rest h

/-! bounds -/
theorem idx_ok {i : Int} {n : Nat} {A : Prop} (h : idx i n A) : 0 ≤ i ∧ i < (n : Int) ∧ A := ⟨h.1.1, h.1.2, h.2⟩
theorem str_at {b : ByteArray} {i : Int} (h0 : 0 ≤ i) (h1 : i < (b.size : Int)) : ∃ u, b[i.toNat]? = some u ∧ (u.toNat : Int) = chr b i := by
  have hlt : i.toNat < b.size := by omega
  refine ⟨b[i.toNat], ?_, ?_⟩
  · simp [hlt]
  · unfold chr
    have h2 : i.toNat < b.data.toList.length := by simpa using hlt
    rw [List.getD, List.getElem?_eq_getElem h2]
    rfl
theorem sliceBound_ok {k : IntKind} {i : Int} {y : Nat} {c : BoundsCode} (h0 : 0 ≤ i) (h1 : i ≤ (y : Int)) (w : World) : (Instr.sliceBound (.int k i) y c).run P w = .ok i.toNat w := by
  simp [Instr.sliceBound, asIntOf, h0, h1]
theorem slEv_ok {e : TypeId} {x : SlV} {lo hi mx : Option Value} {K : SlV → Prop} (h : slEv P e x lo hi mx K) (b : Bool) :
    ∃ s : SlV, K s ∧ ∃ l hh m, (∀ w : World, (Instr.sliceBounds b x.n x.c lo hi mx).run P w = .ok (l, hh, m) w) ∧ s.n = hh - l ∧ s.c = m - l ∧ s.a = (if m = l then x.a else x.a.map (·.add (l * Ev.sizeOf P e))) := by
  have add0 : ∀ a : Option Addr, a.map (·.add (0 * Ev.sizeOf P e)) = a := fun a => by cases a <;> simp [Addr.add]
  unfold slEv at h
  split at h
  · refine ⟨x, h, 0, x.n, x.c, fun w => by simp [Instr.sliceBounds], rfl, rfl, ?_⟩
    rw [add0]; split <;> rfl
  · rename_i k hh
    obtain ⟨⟨h0, h1⟩, h⟩ := h
    refine ⟨_, h, 0, hh.toNat, x.c, fun w => ?_, rfl, rfl, ?_⟩
    · cases b <;> simp [Instr.sliceBounds, sliceBound_ok h0 h1]
    · rw [add0]; split <;> rfl
  · rename_i k l
    obtain ⟨⟨h0, h1⟩, h⟩ := h
    refine ⟨_, h, l.toNat, x.n, x.c, fun w => ?_, rfl, rfl, rfl⟩
    cases b <;> simp [Instr.sliceBounds, sliceBound_ok h0 h1]
  · rename_i k l k' hh
    obtain ⟨⟨h0, h1, h2⟩, h⟩ := h
    refine ⟨_, h, l.toNat, hh.toNat, x.c, fun w => ?_, rfl, rfl, rfl⟩
    have h3 : l ≤ ((hh.toNat : Nat) : Int) := by omega
    cases b <;> simp [Instr.sliceBounds, sliceBound_ok (show 0 ≤ hh by omega) h2, sliceBound_ok h0 h3]
  · rename_i k hh k' mm
    obtain ⟨⟨h0, h1, h2⟩, h⟩ := h
    refine ⟨_, h, 0, hh.toNat, mm.toNat, fun w => ?_, rfl, rfl, ?_⟩
    · have h3 : hh ≤ ((mm.toNat : Nat) : Int) := by omega
      cases b <;> simp [Instr.sliceBounds, sliceBound_ok (show 0 ≤ mm by omega) h2, sliceBound_ok h0 h3]
    · rw [add0]; split <;> rfl
  · rename_i k l k' hh k2 mm
    obtain ⟨⟨h0, h1, h2, h4⟩, h⟩ := h
    refine ⟨_, h, l.toNat, hh.toNat, mm.toNat, fun w => ?_, rfl, rfl, rfl⟩
    have h3 : hh ≤ ((mm.toNat : Nat) : Int) := by omega
    have h5 : l ≤ ((hh.toNat : Nat) : Int) := by omega
    cases b <;> simp [Instr.sliceBounds, sliceBound_ok (show 0 ≤ mm by omega) h4, sliceBound_ok (show 0 ≤ hh by omega) h3, sliceBound_ok h0 h5]
  · exact h.elim
theorem optVal_ok {ρ : Operand → Option Value} {e : Operand → Value} (hr : Snd ρ e) {x : Option Operand} {v : Option Value} (h : optVal ρ x = some v) : x.map e = v := by
  cases x with
  | none => simp only [optVal] at h; cases h; rfl
  | some y =>
    simp only [optVal] at h
    split at h
    · rename_i u hu; cases h; rw [Option.map_some, hr _ _ hu]
    · cases h
end Go.Ev
