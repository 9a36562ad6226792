/- THE EVALUATOR IS SOUND, part 5: all operations. -/
import Derived.Test.YtoeedbljiocpdaaDoorEvOk4
namespace Go.Ev
open Go

variable {P : Program}
/-! loads -/
theorem ldCell_ok {s : Sh} {a : Addr} {w : World} {K : Value → Prop} (h : ldCell s a w K) : ∃ v, w.cell? a = some v ∧ K v := by
  cases s <;> simp only [ldCell, ldI, ldB, ldS, ldP, ldL, ldV] at h
  all_goals first
    | (obtain ⟨n, h1, h2⟩ := h; exact ⟨_, h1, h2⟩)
theorem ldCells_ok : ∀ {l : List Sh} {a : Addr} {i : Nat} {w : World} {K : List Value → Prop}, ldCells l a i w K →
    ∃ vs, vs.length = l.length ∧ (∀ j v, vs[j]? = some v → w.cell? (a.add (i + j)) = some v) ∧ K vs
  | [], a, i, w, K, h => ⟨[], rfl, fun j v hj => by simp at hj, h⟩
  | s :: r, a, i, w, K, h => by
    simp only [ldCells] at h
    obtain ⟨v, h1, h2⟩ := ldCell_ok h
    obtain ⟨vs, h3, h4, h5⟩ := ldCells_ok h2
    refine ⟨v :: vs, by simp [h3], fun j u hj => ?_, h5⟩
    cases j with
    | zero => simp at hj; subst hj; exact h1
    | succ j => rw [show i + (j + 1) = i + 1 + j by omega]; exact h4 j u (by simpa using hj)
theorem run_loadCells (a : Addr) (w : World) : ∀ (cs : List Value) (i : Nat) (acc : Array Value), (∀ j v, cs[j]? = some v → w.cell? (a.add (i + j)) = some v) →
    (loadCellsFrom a i cs.length acc).run P w = .ok (acc ++ cs.toArray) w
  | [], i, acc, _ => by simp [loadCellsFrom]
  | v :: r, i, acc, h => by
    simp only [List.length_cons, loadCellsFrom]
    rw [Sem.run_bind]
    have h0 : w.cell? (a.add i) = some v := by simpa using h 0 v (by simp)
    rw [show (load (a.add i)).run P w = .ok v w by simp [h0], Result.andThen_ok]
    rw [run_loadCells a w r (i + 1) (acc.push v) (fun j u hj => by rw [show i + 1 + j = i + (j + 1) by omega]; exact h (j + 1) u (by simpa using hj))]
    simp
theorem kept_cell {a : Addr} {n : Nat} {w w' : World} (h : kept a n w w') {j : Nat} {v : Value} (hj : j < n) (hv : w.cell? (a.add j) = some v) : w'.cell? (a.add j) = some v := (h j hj).trans hv
theorem add0 (a : Addr) : a.add 0 = a := by simp [Addr.add]
theorem cond_ok {b : Bool} {A : Prop} (h : cond b A False) : b = true ∧ A := by cases b <;> first | exact h.elim | exact ⟨rfl, h⟩
theorem ldEv_ok {t : TypeId} {a : Addr} {w : World} {K : Value → Prop} (h : ldEv P t a w K) :
    ∃ v, K v ∧ ∀ w', kept a (Ev.sizeOf P t) w w' → (loadVar t a).run P w' = .ok v w' := by
  have row : ∀ {u : TypeDesc} {vs : List Value}, P.underlying t = some u → isAggT P t = true → known P t = true → vs.length = Ev.sizeOf P t → (∀ j v, vs[j]? = some v → w.cell? (a.add j) = some v) →
      ∀ w', kept a (Ev.sizeOf P t) w w' → (loadVar t a).run P w' = .ok (.agg ⟨vs⟩) w' := by
    intro u vs hu ha hk hl hc w' hw
    unfold loadVar
    rw [Sem.run_bind, run_isAgg hu, Result.andThen_ok, if_pos ha, Sem.run_bind, run_size' hk, Result.andThen_ok, Sem.run_bind]
    unfold loadCells
    have := run_loadCells (P := P) a w' vs 0 #[] (fun j v hj => by
      rw [Nat.zero_add]
      have hlt : j < vs.length := (List.getElem?_eq_some_iff.1 hj).1
      exact kept_cell hw (by omega) (hc j v hj))
    rw [hl] at this
    rw [this]
    simp
  unfold ldEv at h
  split at h
  · rename_i fs hu
    split at h
    · rename_i l hl
      obtain ⟨hc, h⟩ := cond_ok h
      simp only [Bool.and_eq_true, beq_eq] at hc
      obtain ⟨vs, h1, h2, h3⟩ := ldCells_ok h
      refine ⟨_, h3, row hu (by simp [isAggT, hu]) hc.1 (h1.trans hc.2) (fun j v hj => ?_)⟩
      have := h2 j v hj
      rwa [Nat.zero_add] at this
    · exact h.elim
  · rename_i n e hu
    obtain ⟨hc, h⟩ := cond_ok h
    obtain ⟨cs, h1, h2, h3⟩ := h
    exact ⟨_, h3, row hu (by simp [isAggT, hu]) hc h1 h2⟩
  · rename_i u hn1 hn2 hu
    obtain ⟨hc, h⟩ := cond_ok h
    obtain ⟨v, h1, h2⟩ := ldCell_ok h
    refine ⟨v, h2, fun w' hw => ?_⟩
    have ha : isAggT P t = false := by
      unfold isAggT; rw [hu]
      cases u <;> first | rfl | exact (hn1 _ rfl).elim | exact (hn1 _ _ rfl).elim | exact (hn2 _ rfl).elim | exact (hn2 _ _ rfl).elim
    have h0 : w'.cell? a = some v := by
      have := kept_cell hw (j := 0) (by rw [beq_eq.1 hc]; omega) (by rw [add0]; exact h1)
      rwa [add0] at this
    unfold loadVar
    rw [Sem.run_bind, run_isAgg hu, Result.andThen_ok, if_neg (by simp [ha])]
    simp [h0]
  · exact h.elim

/-! stores -/
theorem run_store {a : Addr} {v u : Value} {w : World} (h1 : w.cell? a = some u) (h2 : w.frozen? a = false) (h3 : isOne v = true) : (store a v).run P w = .ok () (w.setCell a v) := by
  unfold store
  cases v <;> first | (cases h3; done) | (simp [Sem.run, h1, h2])
theorem oneC_ok {v : Value} {A : Prop} (h : oneC v A) : isOne v = true ∧ A := by
  cases v <;> first | exact ⟨rfl, h⟩ | exact h.elim
theorem st_ok {a : Addr} {v : Value} {w : World} {K : World → Prop} (h : st a v w K) : (store a v).run P w = .ok () (w.setCell a v) ∧ isOne v = true ∧ K (w.setCell a v) := by
  obtain ⟨⟨u, h1⟩, h2, h3⟩ := h
  obtain ⟨h4, h5⟩ := oneC_ok h3
  exact ⟨run_store h1 h2 h4, h4, h5⟩
theorem stCells_ok : ∀ {l : List Value} {a : Addr} {i : Nat} {w : World} {K : World → Prop}, stCells l a i w K → ∃ w', (storeCells a l i).run P w = .ok () w' ∧ K w'
  | [], a, i, w, K, h => ⟨w, rfl, h⟩
  | v :: r, a, i, w, K, h => by
    simp only [stCells] at h
    obtain ⟨h1, _, h2⟩ := st_ok (P := P) h
    obtain ⟨w', h3, h4⟩ := stCells_ok h2
    refine ⟨w', ?_, h4⟩
    unfold storeCells
    rw [Sem.run_bind, h1]
    exact h3
theorem stRow_ok : ∀ {l : List Value} {a : Addr} {i : Nat} {w : World}, (∀ j, j < l.length → (∃ u, w.cell? (a.add (i + j)) = some u) ∧ w.frozen? (a.add (i + j)) = false) → (∀ v ∈ l, isOne v = true) →
    (storeCells a l i).run P w = .ok () (setRow w a i l)
  | [], a, i, w, _, _ => rfl
  | v :: r, a, i, w, h, h1 => by
    obtain ⟨⟨u, h2⟩, h3⟩ := h 0 (by simp)
    rw [Nat.add_zero] at h2 h3
    unfold storeCells setRow
    rw [Sem.run_bind, run_store h2 h3 (h1 v List.mem_cons_self), Result.andThen_ok]
    refine stRow_ok (fun j hj => ?_) (fun v hv => h1 v (List.mem_cons_of_mem _ hv))
    obtain ⟨⟨u', h4⟩, h5⟩ := h (j + 1) (by simp only [List.length_cons]; omega)
    rw [show i + (j + 1) = i + 1 + j by omega] at h4 h5
    refine ⟨?_, by rw [World.frozen?_setCell]; exact h5⟩
    by_cases e : a.add i = a.add (i + 1 + j)
    · rw [← e]; exact ⟨_, World.cell?_setCell_same _ _ _ h2⟩
    · exact ⟨u', by rw [World.cell?_setCell_other _ _ _ _ e]; exact h4⟩
theorem cells_one {v : Value} (h : isOne v = true) : v.cells = #[v] := by cases v <;> first | rfl | cases h
theorem stEv_ok {t : TypeId} {a : Addr} {v : Value} {w : World} {K : World → Prop} (h : stEv P t a v w K) : ∃ w', (storeVar t a v).run P w = .ok () w' ∧ K w' := by
  unfold stEv at h
  obtain ⟨hk, h0⟩ := cond_ok h
  clear h
  have h := h0
  clear h0
  have go : ∀ {l : List Value} {w' : World}, v.cells = ⟨l⟩ → l.length = Ev.sizeOf P t → (storeCells a l).run P w = .ok () w' → (storeVar t a v).run P w = .ok () w' := by
    intro l w' hv hl hs
    unfold storeVar
    rw [Sem.run_bind, run_size' hk, Result.andThen_ok, if_neg (by rw [hv]; simpa using hl)]
    rw [hv]; exact hs
  split at h
  · split at h
    · rename_i cs
      obtain ⟨hc, h⟩ := cond_ok h
      obtain ⟨w', h1, h2⟩ := stCells_ok (P := P) h
      exact ⟨w', go (l := cs.toList) rfl (beq_eq.1 hc) h1, h2⟩
    · exact h.elim
  · split at h
    · rename_i cs
      obtain ⟨h1, h2, h3, h4⟩ := h
      refine ⟨_, go (l := cs.toList) rfl h1 (stRow_ok (fun j hj => ?_) h3), h4⟩
      rw [Nat.zero_add]
      exact h2 j (by omega)
    · exact h.elim
  · obtain ⟨hc, h⟩ := cond_ok h
    obtain ⟨h1, h2, h3⟩ := st_ok (P := P) h
    refine ⟨_, go (l := [v]) (by rw [cells_one h2]) (beq_eq.1 hc).symm ?_, h3⟩
    unfold storeCells
    rw [Sem.run_bind, add0, h1]; rfl
  · exact h.elim

/-! what an operation comes to -/
def Out (P : Program) (e : Operand → Value) (o : Oper) (w : World) (K : Value → World → Prop) : Prop :=
  (∃ v w', (execOp e o).run P w = .ok (.value v) w' ∧ K v w') ∨ (∃ w', (execOp e o).run P w = .ok .skip w' ∧ K undef w') ∨
  (∃ f args, (execOp e o).run P w = .ok (.enter f args) w ∧ Calls P f args w fun x w' => ∃ v, x = .returned v ∧ K v w')
/-- as 'Out', where it may be said of every world in which n cells from a on are as in w -/
def OutR (P : Program) (e : Operand → Value) (o : Oper) (w : World) (a : Addr) (n : Nat) (K : Value → World → Prop) : Prop :=
  ∃ v, (∀ w', kept a n w w' → (execOp e o).run P w' = .ok (.value v) w') ∧ K v w
theorem kept_refl (a : Addr) (n : Nat) (w : World) : kept a n w w := fun _ _ => rfl
theorem OutR.out {e : Operand → Value} {o : Oper} {w : World} {a : Addr} {n : Nat} {K : Value → World → Prop} (h : OutR P e o w a n K) : Out P e o w K :=
  let ⟨v, h1, h2⟩ := h; .inl ⟨v, w, h1 w (kept_refl a n w), h2⟩
theorem OutQ.reads {e : Operand → Value} {o : Oper} {w : World} {K : Value → World → Prop} (h : OutQ P e o w K) (a : Addr) : OutR P e o w a 0 K :=
  let ⟨v, h1, h2⟩ := h; ⟨v, fun w' _ => h1 w', h2⟩
theorem OutQ.out {e : Operand → Value} {o : Oper} {w : World} {K : Value → World → Prop} (h : OutQ P e o w K) : Out P e o w K := (h.reads default).out
/-- a program of which the calls may be spoken of -/
structure Good (P : Program) : Prop where
  names : ∀ (f : Nat) (fn : Func), P.funcs[f]? = some fn → fn.name ≠ "runtime.NumGoroutine"
  mixed : P.follows .mixedOrders = true
theorem callFunc_ok (hP : Good P) {f : Nat} (hb : bodied P f = true) (args : Array Value) (w : World) : (callFunc f args).run P w = .ok (.enter f args) w := by
  unfold bodied at hb
  unfold callFunc
  rw [Sem.run_bind]
  simp only [program, Sem.run, Result.andThen_ok]
  split at hb
  · rename_i fn hf
    rw [hf]
    simp only []
    have hn : (fn.name == "runtime.NumGoroutine") = false := by simpa using hP.names f fn hf
    rw [if_neg (by simp [hn])]
    cases hbd : fn.body with
    | none => rw [hbd] at hb; cases hb
    | some c => rfl
  · cases hb

theorem asSl_ok {v : Value} {K : SlV → Prop} (h : asSl v K) : ∃ s : SlV, v = .slice s.a s.n s.c ∧ K s := h
theorem newVar_run (t : TypeId) (v : Value) (w : World) : (newVar t v).run P w = .ok ⟨w.heap.size, 0, none⟩ (w.alloc (.cells v.cells t)) := by
  rfl
theorem newRow_run (t : TypeId) (cs : Array Value) (w : World) : (newRow t cs).run P w = .ok ⟨w.heap.size, 0, none⟩ (w.alloc (.cells cs t)) := by
  rfl
theorem runOp_ok {s : Sem Value} {w : World} {K : Value → World → Prop} (h : runOp P s w K) : ∃ v w', s.run P w = .ok v w' ∧ K v w' := h
theorem val_run {s : Sem Value} {w w' : World} {v : Value} (h : s.run P w = .ok v w') : ((do pure (.value (← s))) : Sem Next).run P w = .ok (.value v) w' := by
  rw [Sem.run_bind, h]; rfl
theorem unit_run {s : Sem Unit} {w w' : World} (h : s.run P w = .ok () w') : ((do s; pure .skip) : Sem Next).run P w = .ok .skip w' := by
  rw [Sem.run_bind, h]; rfl
theorem zeroRow_eq (n : Nat) (zs : List Value) : ((Array.range (n * zs.length)).map (fun i => (Array.mk zs)[i % zs.length]!)) = ⟨zeroRow n zs⟩ := by
  apply Array.ext'
  simp only [Array.toList_map, Array.toList_range]
  unfold zeroRow
  induction n with
  | zero => simp
  | succ n ih =>
    rw [Nat.succ_mul, List.range_add, List.map_append, ih, List.replicate_succ', List.flatten_append]
    congr 1
    simp only [List.map_map, List.flatten_cons, List.flatten_nil, List.append_nil]
    apply List.ext_getElem
    · simp
    · intro i h1 h2
      simp only [List.length_map, List.length_range] at h1
      simp only [List.getElem_map, List.getElem_range, Function.comp]
      rw [Nat.mul_comm n, Nat.mul_add_mod, Nat.mod_eq_of_lt h1]
      simp [h1]
theorem zeros_run {t : TypeId} (h : zeroOk P t = true) (n : Nat) (w : World) : known P t = true ∧ ∃ z0 : Array Value,
    (∀ f : Array Value → Sem Value, (if n * Ev.sizeOf P t = 0 then pure #[] >>= f else zeroValue t >>= fun z => pure z.cells >>= f).run P w = (f z0).run P w) ∧
    ((Array.range (n * Ev.sizeOf P t)).map (fun i => z0[i % z0.size]!)) = ⟨zeroRow n (zc P t)⟩ := by
  unfold zeroOk at h
  simp only [Bool.and_eq_true, beq_eq] at h
  have hkn : known P t = true := by
    have := h.1; unfold hasZero at this; unfold known; split at this <;> simp_all
  obtain ⟨zv, hz1, hz2, _⟩ := run_zero (P := P) h.1 w
  refine ⟨hkn, if n * Ev.sizeOf P t = 0 then #[] else ⟨zc P t⟩, fun f => ?_, ?_⟩
  · split
    · rfl
    · rw [Sem.run_bind, hz1]
      simp only [Result.andThen_ok]
      have : zv.cells = ⟨zc P t⟩ := Array.ext' hz2
      rw [this]; rfl
  · by_cases h0 : n * Ev.sizeOf P t = 0
    · rw [if_pos h0, h0]
      apply Array.ext'
      unfold zeroRow
      rcases Nat.mul_eq_zero.1 h0 with h1 | h1
      · subst h1; simp
      · rw [h1] at h
        have : zc P t = [] := List.length_eq_zero_iff.1 h.2
        rw [this]; simp
    · rw [if_neg h0]
      have e := zeroRow_eq n (zc P t)
      rw [h.2] at e
      have e2 : (Array.mk (zc P t)).size = Ev.sizeOf P t := h.2
      rw [e2]; exact e
theorem asLeaf_ok {s : Sh} {v : Value} {K : Value → Prop} (h : asLeaf s v K) : K v := by
  cases s <;> simp only [asLeaf, asI, asB, asStr, asP, asSl, asArr] at h <;> first | exact h | (obtain ⟨_, rfl, h⟩ := h; exact h)
theorem uncons_ok {vs : List Value} {K : Value → List Value → Prop} (h : uncons vs K) : ∃ v r, vs = v :: r ∧ K v r := by
  cases vs with
  | nil => exact h.elim
  | cons v r => exact ⟨v, r, rfl, h⟩
theorem asLeaves_ok : ∀ {l : List Sh} {vs : List Value} {K : List Value → Prop}, asLeaves l vs K → K vs
  | [], vs, K, h => by obtain ⟨rfl, h⟩ := h; exact h
  | s :: r, vs, K, h => by
    simp only [asLeaves] at h
    obtain ⟨v, r', e, h2⟩ := uncons_ok h
    subst e
    exact asLeaves_ok (K := fun vs => K (v :: vs)) (asLeaf_ok (K := fun v => asLeaves r r' fun vs => K (v :: vs)) h2)
theorem asElems_ok : ∀ {l : List Sh} {vs : List Value} {K : List Value → Prop}, destr.asElems l vs K → K vs
  | [], vs, K, h => by obtain ⟨rfl, h⟩ := h; exact h
  | s :: r, vs, K, h => by
    cases s
    case cells l =>
      simp only [destr.asElems] at h
      obtain ⟨v, r', e, cs, e2, h2⟩ := uncons_ok h
      subst e; subst e2
      exact asElems_ok (K := fun vs => K (.agg ⟨cs⟩ :: vs)) (asLeaves_ok (K := fun cs => destr.asElems r r' fun vs => K (.agg ⟨cs⟩ :: vs)) h2)
    all_goals
      simp only [destr.asElems] at h
      obtain ⟨v, r', e, h2⟩ := uncons_ok h
      subst e
      exact asElems_ok (K := fun vs => K (v :: vs)) (asLeaf_ok (K := fun v => destr.asElems r r' fun vs => K (v :: vs)) h2)
theorem destr_ok {s : Sh} {v : Value} {K : Value → Prop} (h : destr s v K) : K v := by
  cases s
  case cells l => obtain ⟨cs, rfl, h⟩ := h; exact asLeaves_ok h
  case tup l => obtain ⟨cs, rfl, h⟩ := h; exact asElems_ok h
  all_goals (simp only [destr] at h; exact asLeaf_ok h)
theorem resEv_ok {dst : Option Nat} {t : TypeId} {v : Value} {K : Value → Prop} (h : resEv P dst t v K) : K v := by
  unfold resEv at h
  split at h
  · exact h
  · split at h
    · exact h
    · exact destr_ok h
section
variable {m : Mode} {ρ : Operand → Option Value} {e : Operand → Value} (hr : Snd ρ e)
include hr
/-- what only computes -/
theorem opEv0 {o : Oper} {w : World} {K : Value → World → Prop} (hc : cls P o.op = 0) (h : opEv P m ρ o w K) : OutQ P e o w K := by
  obtain ⟨dst, op, ty, ps, af, gd⟩ := o
  simp only at hc
  unfold opEv at h
  simp only at h
  split at h
  · -- binOp
    rename_i op t x y yt
    split at h
    · rename_i a b ha hb
      have hb' : ∀ ys, b ≠ .agg ys := fun ys e1 => by
        subst e1
        simp only [cls] at hc
        unfold binEv at h
        simp only at h
        split at h
        · split at h
          · rename_i hu; rw [hu] at hc; cases hc
          · exact h
        · exact h
      obtain ⟨v, h1, h2⟩ := bin_ok h hb' x y rfl
      rw [← hr _ _ ha, ← hr _ _ hb] at h1
      exact ⟨v, fun w' => bin_run (h1 w'), h2⟩
    · exact h.elim
  · -- neg
    rename_i t x
    split at h
    · rename_i k n hx
      exact ⟨_, fun w' => by simp only [execOp, hr _ _ hx]; rfl, ar_ok h⟩
    · exact h.elim
  · -- convert
    rename_i s d x
    split at h
    · rename_i k0 k k1 n hs hd hx
      refine ⟨_, fun w' => ?_, ar_ok h⟩
      simp only [execOp, hr _ _ hx, convert]
      rw [Sem.run_bind, Sem.run_bind, run_underlying hs, Result.andThen_ok, Sem.run_bind, run_underlying hd, Result.andThen_ok]
      rfl
    · rename_i b hs hd hx
      refine ⟨_, fun w' => ?_, h⟩
      simp only [execOp, hr _ _ hx, convert]
      rw [Sem.run_bind, Sem.run_bind, run_underlying hs, Result.andThen_ok, Sem.run_bind, run_underlying hd, Result.andThen_ok]
      rfl
    · rename_i hs hd hx; simp only [cls, hs, hd] at hc; cases hc
    · rename_i hs hd hx; simp only [cls, hs, hd] at hc; cases hc
    · rename_i hs hd hx; simp only [cls, hs, hd] at hc; cases hc
    · exact h.elim
  · -- index
    rename_i t x i
    split at h
    · rename_i b k i hx hi
      split at h
      · rename_i hu
        obtain ⟨h0, h1, h2⟩ := idx_ok h
        obtain ⟨u, h3, h4⟩ := str_at h0 h1
        refine ⟨_, fun w' => ?_, h2⟩
        simp only [execOp, hr _ _ hx, hr _ _ hi, Instr.index, asIntOf]
        rw [Sem.run_bind, Sem.run_bind]
        simp only [Sem.run_pure, Result.andThen_ok]
        rw [Sem.run_bind, run_underlying hu]
        simp only [Result.andThen_ok]
        rw [if_pos h0, h3]
        simp [h4]
      · exact h.elim
    · rename_i cs k i hx hi
      split at h
      · rename_i n el hu
        split at h
        · rename_i k' hel
          obtain ⟨hk, h⟩ := cond_ok h
          simp only [Bool.and_eq_true, beq_eq] at hk
          obtain ⟨h0, h1, z, h2, h3⟩ := idx_ok h
          refine ⟨_, fun w' => ?_, h3⟩
          have h4 : cs[i.toNat]? = some (.int k' z) := by simpa using h2
          simp only [execOp, hr _ _ hx, hr _ _ hi, Instr.index, asIntOf]
          rw [Sem.run_bind, Sem.run_bind]
          simp only [Sem.run_pure, Result.andThen_ok]
          rw [Sem.run_bind, run_underlying hu]
          simp only [Result.andThen_ok]
          rw [if_pos ⟨h0, h1⟩, Sem.run_bind, run_size' hk.2, Result.andThen_ok, hk.1, Nat.mul_one]
          unfold part
          rw [Sem.run_bind, run_isAgg hel, Result.andThen_ok, if_neg (by simp [isAggT, hel]), h4]
          rfl
        · exact h.elim
      · exact h.elim
    · exact h.elim
  · -- indexAddr
    rename_i t x i
    split at h
    · rename_i a n c k i hx hi
      split at h
      · rename_i el hu
        obtain ⟨hk, h⟩ := cond_ok h
        obtain ⟨⟨hs, h0, h1⟩, h2⟩ := h
        obtain ⟨a, rfl⟩ := Option.isSome_iff_exists.1 hs
        refine ⟨_, fun w' => ?_, h2⟩
        simp only [execOp, hr _ _ hx, hr _ _ hi, Instr.indexAt, asIntOf]
        rw [Sem.run_bind, Sem.run_bind]
        simp only [Sem.run_pure, Result.andThen_ok]
        rw [Sem.run_bind, run_underlying hu]
        simp only [Result.andThen_ok]
        simp [run_underlying hu, h0, h1, run_size' hk, Ev.base]
      · exact h.elim
    · rename_i a k i hx hi
      split at h
      · rename_i n el hu
        obtain ⟨hk, h⟩ := cond_ok h
        obtain ⟨⟨h0, h1⟩, h2⟩ := h
        refine ⟨_, fun w' => ?_, h2⟩
        simp only [execOp, hr _ _ hx, hr _ _ hi, Instr.indexAt, asIntOf]
        rw [Sem.run_bind, Sem.run_bind]
        simp only [Sem.run_pure, Result.andThen_ok]
        rw [Sem.run_bind, run_underlying hu]
        simp only [Result.andThen_ok]
        simp [run_underlying hu, h0, h1, run_size' hk, Instr.sureAddr]
      · exact h.elim
    · exact h.elim
  · -- slice
    rename_i t x lo hi mx
    split at h
    · rename_i a n c lo' hi' mx' hx hlo hhi hmx
      split at h
      · rename_i el hu
        obtain ⟨hk, h⟩ := cond_ok h
        obtain ⟨s, h1, l, hh, mm, h2, h3, h4, h5⟩ := slEv_ok h true
        refine ⟨_, fun w' => ?_, h1⟩
        simp only [execOp, hr _ _ hx, optVal_ok hr hlo, optVal_ok hr hhi, optVal_ok hr hmx, Instr.sliceAt]
        rw [Sem.run_bind, Sem.run_bind, run_underlying hu]
        simp only [Result.andThen_ok, Instr.slice]
        rw [Sem.run_bind, run_underlying hu]
        simp only [Result.andThen_ok]
        rw [Sem.run_bind, h2, Result.andThen_ok]
        simp only []
        rw [Sem.run_bind, run_size' hk, Result.andThen_ok, h3, h4, h5]
        rfl
      · exact h.elim
    · rename_i a lo' hi' mx' hx hlo hhi hmx
      split at h
      · rename_i n el hu
        obtain ⟨hk, h⟩ := cond_ok h
        obtain ⟨s, h1, l, hh, mm, h2, h3, h4, h5⟩ := slEv_ok h false
        refine ⟨_, fun w' => ?_, h1⟩
        simp only [execOp, hr _ _ hx, optVal_ok hr hlo, optVal_ok hr hhi, optVal_ok hr hmx, Instr.sliceAt]
        rw [Sem.run_bind, Sem.run_bind, run_underlying hu]
        simp only [Result.andThen_ok]
        rw [Sem.run_bind]
        simp only [Instr.sureAddr, Sem.run_pure, Result.andThen_ok]
        rw [Sem.run_bind, h2, Result.andThen_ok]
        simp only []
        rw [Sem.run_bind, run_size' hk, Result.andThen_ok, h3, h4, h5]
        simp only [Sem.run_pure, Result.andThen_ok, Option.map_some]
        congr 3
        split <;> rfl
      · exact h.elim
    · rename_i b lo' hi' hx hlo hhi hmx
      split at h
      · rename_i hu
        have hst : ∃ l hh, (∀ w' : World, (Instr.sliceBounds false b.size b.size lo' hi' none).run P w' = .ok (l, hh, b.size) w') ∧ K (.string (b.extract l hh)) w := by
          unfold strSl at h
          split at h
          · refine ⟨0, b.size, fun w' => by simp [Instr.sliceBounds], ?_⟩
            have : b.extract 0 b.size = b := by simp
            rw [this]; exact h
          · rename_i k hh
            obtain ⟨⟨h0, h1⟩, h⟩ := h
            exact ⟨0, hh.toNat, fun w' => by simp [Instr.sliceBounds, sliceBound_ok h0 h1], h⟩
          · rename_i k l
            obtain ⟨⟨h0, h1⟩, h⟩ := h
            exact ⟨l.toNat, b.size, fun w' => by simp [Instr.sliceBounds, sliceBound_ok h0 h1], h⟩
          · rename_i k l k' hh
            obtain ⟨⟨h0, h1, h2⟩, h⟩ := h
            have h3 : l ≤ ((hh.toNat : Nat) : Int) := by omega
            exact ⟨l.toNat, hh.toNat, fun w' => by simp [Instr.sliceBounds, sliceBound_ok (show 0 ≤ hh by omega) h2, sliceBound_ok h0 h3], h⟩
          · exact h.elim
        obtain ⟨l, hh, h1, h2⟩ := hst
        refine ⟨_, fun w' => ?_, h2⟩
        simp only [execOp, hr _ _ hx, optVal_ok hr hlo, optVal_ok hr hhi, optVal_ok hr hmx, Instr.sliceAt]
        rw [Sem.run_bind, Sem.run_bind, run_underlying hu]
        simp only [Result.andThen_ok, Instr.slice]
        rw [Sem.run_bind, run_underlying hu]
        simp only [Result.andThen_ok, Option.isSome_none]
        rw [if_neg (by simp), Sem.run_bind, h1]
        rfl
      · exact h.elim
    · exact h.elim
  · -- nilCheck
    rename_i x
    split at h
    · rename_i p hx
      cases p with
      | none => exact h.elim
      | some a => exact ⟨_, fun w' => by simp only [execOp, hr _ _ hx]; rfl, h⟩
    · exact h.elim
  · simp only [cls] at hc; cases hc
  · simp only [cls] at hc; cases hc
  · simp only [cls] at hc; cases hc
  · simp only [cls] at hc; cases hc
  · simp only [cls] at hc; cases hc
  · simp only [cls] at hc; cases hc
  · -- call
    rename_i c
    split at h
    · exact h.elim
    · rename_i vs hv
      split at h
      all_goals first
        | exact OutQ.tot hr h
        | (exfalso; rename_i hcal; simp only [cls] at hc; split at hc <;> simp_all; done)
  · exact OutQ.tot hr h
/-- a load -/
theorem opEv1 {o : Oper} {t : TypeId} {x : Operand} {a : Addr} {w : World} {K : Value → World → Prop} (ho : o.op = .load t x) (hx : ρ x = some (.pointer (some a))) (h : ldEv P t a w fun v => K v w) :
    OutR P e o w a (Ev.sizeOf P t) K := by
  obtain ⟨dst, op, ty, ps, af, gd⟩ := o
  simp only at ho
  subst ho
  obtain ⟨v, h1, h2⟩ := ldEv_ok h
  refine ⟨v, fun w' hw => ?_, h1⟩
  simp only [execOp, hr _ _ hx, Instr.loadAt]
  rw [Sem.run_bind, Sem.run_bind]
  simp only [Instr.sureAddr, Sem.run_pure, Result.andThen_ok]
  rw [h2 w' hw]
  rfl
/-- whatever it is -/
theorem opEv_out (hP : Good P) {o : Oper} {w : World} {K : Value → World → Prop} (h : opEv P m ρ o w K) : Out P e o w K := by
  by_cases hc : cls P o.op = 0
  · exact (opEv0 hr hc h).out
  obtain ⟨dst, op, ty, ps, af, gd⟩ := o
  simp only at hc
  unfold opEv at h
  simp only at h
  split at h
  · -- binOp on structs
    rename_i op t x y yt
    split at h
    · rename_i a b ha hb
      have h' := h
      unfold binEv at h
      split at h
      · obtain ⟨v, h1, h2⟩ := bin_ok h' (by simp) x y rfl
        rw [← hr _ _ ha, ← hr _ _ hb] at h1
        exact .inl ⟨v, w, bin_run (h1 w), h2⟩
      · obtain ⟨v, h1, h2⟩ := bin_ok h' (by simp) x y rfl
        rw [← hr _ _ ha, ← hr _ _ hb] at h1
        exact .inl ⟨v, w, bin_run (h1 w), h2⟩
      · obtain ⟨v, h1, h2⟩ := bin_ok h' (by simp) x y rfl
        rw [← hr _ _ ha, ← hr _ _ hb] at h1
        exact .inl ⟨v, w, bin_run (h1 w), h2⟩
      · rename_i ys
        split at h
        · rename_i xs
          split at h
          · obtain ⟨v, w', h1, b, h2, h3⟩ := h
            subst h2
            have hg : ∀ (x y : Operand) (w : World), (eqGuard op t x y (.agg xs) (.agg ys)).run P w = (eqGuard op t (.tmp 0) (.tmp 0) (.agg xs) (.agg ys)).run P w := fun x y w => by
              unfold eqGuard; cases op <;> rfl
            refine .inl ⟨_, w', bin_run ?_, h3⟩
            rw [hr _ _ ha, hr _ _ hb, Sem.run_bind, hg, ← Sem.run_bind]
            exact h1
          · exact h.elim
        · exact h.elim
      · obtain ⟨v, h1, h2⟩ := bin_ok h' (by simp) x y rfl
        rw [← hr _ _ ha, ← hr _ _ hb] at h1
        exact .inl ⟨v, w, bin_run (h1 w), h2⟩
      · rename_i hne1 hne2 hne3 hne4 hne5
        obtain ⟨v, h1, h2⟩ := bin_ok h' (fun ys e1 => hne4 ys e1) x y rfl
        rw [← hr _ _ ha, ← hr _ _ hb] at h1
        exact .inl ⟨v, w, bin_run (h1 w), h2⟩
    · exact h.elim
  · simp only [cls] at hc; exact absurd trivial hc
  · -- convert
    rename_i s d x
    split at h
    · rename_i hs hd hx; simp only [cls, hs, hd] at hc; exact absurd trivial hc
    · rename_i hs hd hx; simp only [cls, hs, hd] at hc; exact absurd trivial hc
    · rename_i el b hs hd hx
      split at h
      · rename_i hu
        obtain ⟨v, w', h1, s', h2, h3⟩ := h
        subst h2
        refine .inl ⟨_, w', ?_, h3⟩
        simp only [execOp, hr _ _ hx]
        refine val_run ?_
        unfold convert
        rw [Sem.run_bind, run_underlying hs, Result.andThen_ok, Sem.run_bind, run_underlying hd, Result.andThen_ok]
        simp only []
        rw [Sem.run_bind, run_underlying hu, Result.andThen_ok]
        exact h1
      · exact h.elim
    · rename_i e0 el a n c hs hd hx
      split at h
      · rename_i hu
        obtain ⟨hsd, h⟩ := cond_ok h
        unfold strishK at h
        split at h
        · rename_i a
          obtain ⟨w', h1, h2⟩ := h
          refine .inl ⟨_, w', ?_, h2⟩
          simp only [execOp, hr _ _ hx]
          refine val_run ?_
          unfold convert
          rw [Sem.run_bind, run_underlying hs, Result.andThen_ok, Sem.run_bind, run_underlying hd, Result.andThen_ok]
          simp only []
          rw [Sem.run_bind, run_underlying hu, Result.andThen_ok]
          have : (s == d) = true := by simpa using beq_eq.1 hsd
          rw [this]
          simp only []
          rw [Sem.run_bind, h1]
          rfl
        · exact h.elim
      · exact h.elim
    · rename_i el a n c hs hd hx
      split at h
      · rename_i hu
        obtain ⟨v, w', h1, s', h2, h3⟩ := h
        subst h2
        refine .inl ⟨_, w', ?_, h3⟩
        simp only [execOp, hr _ _ hx]
        refine val_run ?_
        unfold convert
        rw [Sem.run_bind, run_underlying hs, Result.andThen_ok, Sem.run_bind, run_underlying hd, Result.andThen_ok]
        simp only []
        rw [Sem.run_bind, run_underlying hu, Result.andThen_ok]
        exact h1
      · exact h.elim
    · exact h.elim
  · simp only [cls] at hc; exact absurd trivial hc
  · simp only [cls] at hc; exact absurd trivial hc
  · simp only [cls] at hc; exact absurd trivial hc
  · simp only [cls] at hc; exact absurd trivial hc
  · -- load
    split at h
    · rename_i t x _ a hx
      exact (opEv1 hr (o := ⟨dst, _, ty, ps, af, gd⟩) rfl hx h).out
    · exact h.elim
  · -- store
    rename_i t x y
    split at h
    · rename_i a v hx hy
      obtain ⟨w', h1, h2⟩ := stEv_ok h
      refine .inr (.inl ⟨w', ?_, h2⟩)
      simp only [execOp, hr _ _ hx, hr _ _ hy]
      refine unit_run ?_
      simp only [Instr.storeAt, Instr.sureAddr]
      exact h1
    · exact h.elim
  · -- alloc
    rename_i t
    obtain ⟨hz, h⟩ := cond_ok h
    refine .inl ⟨_, _, ?_, h⟩
    simp only [execOp]
    refine val_run ?_
    unfold Instr.alloc
    obtain ⟨zv, hz1, hz2, _⟩ := run_zero (P := P) hz w
    rw [Sem.run_bind, hz1]
    simp only [Result.andThen_ok]
    have : zv.cells = ⟨zc P t⟩ := Array.ext' hz2
    rw [Sem.run_bind, newVar_run, this]; rfl
  · -- box
    rename_i t x
    split at h
    · rename_i v hx
      refine .inl ⟨_, _, ?_, h⟩
      simp only [execOp, hr _ _ hx]
      refine val_run ?_
      simp only [Instr.box]
      rw [Sem.run_bind, newVar_run]; rfl
    · exact h.elim
  · -- buildSlice
    rename_i t n pts
    split at h
    · rename_i el vs hu hv
      split at h
      · rename_i cs hcs
        obtain ⟨hk, h⟩ := cond_ok h
        simp only [Bool.and_eq_true, Nat.ble_eq] at hk
        refine .inl ⟨_, _, ?_, h⟩
        simp only [execOp, parts_arr hr hv]
        refine val_run ?_
        unfold Instr.buildSlice
        obtain ⟨hkn, z0, hz, hrow⟩ := zeros_run hk.2 n w
        rw [Sem.run_bind, run_underlying hu, Result.andThen_ok]
        simp only []
        rw [Sem.run_bind, run_size' hkn, Result.andThen_ok, if_neg (by omega), hz]
        simp only [hrow]
        rw [fill_ok _ _ _ hcs]
        simp only []
        rw [Sem.run_bind, newRow_run]; rfl
      · exact h.elim
    · exact h.elim
  · -- makeSlice
    rename_i t l c
    split at h
    · rename_i el k l' k' c' hu hl hc'
      obtain ⟨hz, h⟩ := cond_ok h
      obtain ⟨⟨h0, h1, h2, h3⟩, h4⟩ := h
      refine .inl ⟨_, _, ?_, h4⟩
      simp only [execOp, hr _ _ hl, hr _ _ hc']
      refine val_run ?_
      unfold Instr.makeSlice
      obtain ⟨hkn, z0, hz, hrow⟩ := zeros_run hz c'.toNat w
      cases hi : P.info? el with
      | none => simp [known, hi] at hkn
      | some i =>
        have hb : Ev.bytesOf P el = i.bytes := by simp [Ev.bytesOf, hi]
        have wl : IntKind.i64.wrap l' = l' := wrap_nonneg h0 (by simp only [IntKind.max, IntKind.signed, IntKind.bits]; simp; omega)
        have wc : IntKind.i64.wrap c' = c' := wrap_nonneg (by omega) (by simp only [IntKind.max, IntKind.signed, IntKind.bits]; simp; omega)
        rw [Sem.run_bind, run_underlying hu, Result.andThen_ok]
        simp only []
        rw [Sem.run_bind]
        simp only [asInt, asIntOf, pure_bind, Sem.run_pure, Result.andThen_ok]
        rw [Sem.run_bind, run_info hi, Result.andThen_ok]
        simp only [wl, wc]
        rw [hb] at h3
        have hcond : ((decide (c' < 0) || decide ((i.bytes : Int) * c' > 2 ^ 48)) || decide (l' < 0) || decide (l' > c')) = false := by
          simp only [Bool.or_eq_false_iff, decide_eq_false_iff_not]
          omega
        rw [if_neg (by rw [hcond]; simp)]
        rw [Sem.run_bind]
        have hroom : (askRoom (c'.toNat * i.bytes)).run P w = .ok () w := by unfold askRoom; split <;> rfl
        rw [hroom, Result.andThen_ok, Sem.run_bind, run_size' hkn, Result.andThen_ok]
        refine Eq.trans (hz fun zero => newRow el ((Array.range (c'.toNat * Ev.sizeOf P el)).map (fun x => zero[x % zero.size]!)) >>= fun a => pure (.slice (some a) l'.toNat c'.toNat)) ?_
        simp only [hrow]
        rw [Sem.run_bind, newRow_run]; rfl
    · exact h.elim
  · -- call
    rename_i c
    split at h
    · exact h.elim
    · rename_i vs hv
      have hv' := vals_arr hr hv
      have enter : ∀ {f : Nat} {args : List Value}, bodied P f = true → (callK P f args w fun v w' => resEv P dst ty v fun v' => K v' w') → (execOp e ⟨dst, .call c, ty, ps, af, gd⟩).run P w = (callFunc f ⟨args⟩).run P w →
          Out P e ⟨dst, .call c, ty, ps, af, gd⟩ w K := by
        intro f args hb hk hrun
        exact .inr (.inr ⟨f, ⟨args⟩, by rw [hrun, callFunc_ok hP hb], hk.mono fun x w' ⟨v, h1, h2⟩ => ⟨v, h1, resEv_ok h2⟩⟩)
      split at h
      · rename_i hcal
        obtain ⟨v, w', h1, s', h2, h3⟩ := h
        subst h2
        refine .inl ⟨_, w', ?_, h3⟩
        simp only [execOp, resolve, hv', hcal, invoke, Sem.run_bind, Sem.run_pure, Result.andThen_ok, builtin]
        simp only [Array.toArray_toList] at h1
        rw [h1]; rfl
      · rename_i hcal
        obtain ⟨v, w', h1, s', h2, h3⟩ := h
        subst h2
        refine .inl ⟨_, w', ?_, h3⟩
        simp only [execOp, resolve, hv', hcal, invoke, Sem.run_bind, Sem.run_pure, Result.andThen_ok, builtin]
        simp only [Array.toArray_toList] at h1
        rw [h1]; rfl
      · rename_i g hcal
        split at h
        · rename_i gv hg
          unfold callV at h
          split at h
          · rename_i f first cap
            obtain ⟨hb, h⟩ := cond_ok h
            refine enter hb h ?_
            simp only [execOp, resolve, hv', hcal, hr _ _ hg, Deferred.ofValue, invoke, Sem.run_bind, Sem.run_pure, Result.andThen_ok]
            congr 2
            apply Array.ext'
            simp
          · exact h.elim
        · exact h.elim
      · exact (OutQ.tot hr h).out
  · exact (OutQ.tot hr h).out
end
end Go.Ev
