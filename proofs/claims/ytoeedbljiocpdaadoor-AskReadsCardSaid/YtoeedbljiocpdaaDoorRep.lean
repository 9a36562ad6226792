/- WHAT A CALL LEAVES OF THE WORLD, and how data lie in it: words of this claim's author. -/
import Derived.Test.YtoeedbljiocpdaaDoorEvOk8
import Derived.Laws.OwnMore
import Derived.Laws.MakeOwn
namespace Go.Ev
open Go Go.RowKit

variable {P : Program}
/-! ### worlds -/
/-- w' is w with new blocks, and of the elder ones those of S alone may have turned -/
structure Mod (S : List Nat) (w w' : World) : Prop where
  os : w'.os = w.os
  tape : w'.tape = w.tape
  output : w'.output = w.output
  size : w.heap.size ≤ w'.heap.size
  block : ∀ k, k < w.heap.size → k ∉ S → w'.heap[k]? = w.heap[k]?
theorem Mod.refl (S : List Nat) (w : World) : Mod S w w := ⟨rfl, rfl, rfl, Nat.le_refl _, fun _ _ _ => rfl⟩
theorem Mod.trans' {S T : List Nat} {w w1 w2 : World} (h : Mod S w w1) (k : Mod T w1 w2) (hT : ∀ b ∈ T, b ∈ S ∨ w.heap.size ≤ b) : Mod S w w2 :=
  ⟨k.os.trans h.os, k.tape.trans h.tape, k.output.trans h.output, Nat.le_trans h.size k.size, fun b hb hn =>
    (k.block b (Nat.lt_of_lt_of_le hb h.size) (fun hm => (hT b hm).elim hn (fun h1 => by omega))).trans (h.block b hb hn)⟩
theorem Mod.trans {S : List Nat} {w w1 w2 : World} (h : Mod S w w1) (k : Mod S w1 w2) : Mod S w w2 := h.trans' k fun _ hb => .inl hb
theorem Mod.then {S : List Nat} {w w1 w2 : World} (h : Mod S w w1) (k : Mod [] w1 w2) : Mod S w w2 := h.trans' k fun _ hb => by cases hb
theorem Mod.mono {S T : List Nat} {w w' : World} (h : Mod S w w') (hs : ∀ b ∈ S, b ∈ T) : Mod T w w' :=
  ⟨h.os, h.tape, h.output, h.size, fun b hb hn => h.block b hb fun hm => hn (hs b hm)⟩
theorem Mod.of_nil {T : List Nat} {w w' : World} (h : Mod [] w w') : Mod T w w' := h.mono fun _ hb => by cases hb
theorem Mod.drew (S : List Nat) (w : World) : Mod S w w.drew := ⟨rfl, rfl, rfl, Nat.le_refl _, fun _ _ _ => rfl⟩
theorem Mod.alloc (S : List Nat) (w : World) (o : Obj) : Mod S w (w.alloc o) := ⟨rfl, rfl, rfl, by simp, fun k hk _ => Below.heap_alloc _ _ _ hk⟩
theorem Mod.setCell (w : World) (a : Addr) (v : Value) : Mod [a.block] w (w.setCell a v) :=
  ⟨rfl, rfl, rfl, by simp, fun k _ hn => Below.heap_setCell _ _ _ _ (fun e => hn (by simp [e]))⟩
theorem Mod.grown {w w' : World} {row : Option Nat} (h : w.grownBy w' row) : Mod row.toList w w' :=
  ⟨h.os, h.tape, h.output, h.size, fun k hk hn => h.block k hk (fun e => hn (by rw [← e]; simp))⟩
theorem Mod.below {w w' : World} (h : Mod [] w w') : Below w.heap.size w w' := ⟨h.os, h.tape, h.output, h.size, fun k hk => h.block k hk (by simp)⟩
theorem Mod.cell? {S : List Nat} {w w' : World} (h : Mod S w w') {a : Addr} (ha : a.block < w.heap.size) (hn : a.block ∉ S) : w'.cell? a = w.cell? a :=
  World.cell?_of_block (h.block _ ha hn)
theorem Mod.cell {S : List Nat} {w w' : World} (h : Mod S w w') {a : Addr} {v : Value} (hv : w.cell? a = some v) (hn : a.block ∉ S) : w'.cell? a = some v :=
  (h.cell? (World.block_lt_of_cell? _ _ hv) hn).trans hv
theorem Mod.cell0 {w w' : World} (h : Mod [] w w') {a : Addr} {v : Value} (hv : w.cell? a = some v) : w'.cell? a = some v := h.cell hv (by simp)
theorem kept_of {S : List Nat} {w w' : World} (h : Mod S w w') {a : Addr} {n : Nat} (ha : a.block < w.heap.size) (hn : a.block ∉ S) : kept a n w w' := fun j _ => by
  have : (a.add j).block = a.block := by unfold Addr.add; split <;> rfl
  exact h.cell? (this ▸ ha) (this ▸ hn)
theorem kept_nil {w w' : World} (h : Mod [] w w') {a : Addr} {n : Nat} {v : Value} (ha : w.cell? a = some v) : kept a n w w' := kept_of h (World.block_lt_of_cell? _ _ ha) (by simp)

/-! ### whole blocks -/
def Blk (w : World) (b : Nat) (cs : List Value) (t : TypeId) : Prop := w.heap[b]? = some (.cells ⟨cs⟩ t (0, 0))
section
variable {w w' : World} {b : Nat} {cs : List Value} {t : TypeId}
theorem Blk.lt (h : Blk w b cs t) : b < w.heap.size := (Array.getElem?_eq_some_iff.1 h).1
theorem Blk.cell (h : Blk w b cs t) (i : Nat) : w.cell? ⟨b, i, none⟩ = cs[i]? := by
  unfold Blk at h; simp [World.cell?, h]
theorem Blk.frozen (h : Blk w b cs t) (i : Nat) : w.frozen? ⟨b, i, none⟩ = false := by
  unfold Blk at h; simp [World.frozen?, h]
theorem Blk.mod {S : List Nat} (h : Blk w b cs t) (hm : Mod S w w') (hn : b ∉ S) : Blk w' b cs t := (hm.block b h.lt hn).trans h
theorem Blk.mod0 (h : Blk w b cs t) (hm : Mod [] w w') : Blk w' b cs t := h.mod hm (by simp)
theorem Blk.new (w : World) (cs : List Value) (t : TypeId) : Blk (w.alloc (.cells ⟨cs⟩ t)) w.heap.size cs t := by
  unfold Blk World.alloc; simp
theorem Blk.set (h : Blk w b cs t) (i : Nat) (v : Value) : Blk (w.setCell ⟨b, i, none⟩ v) b (cs.set i v) t := by
  unfold Blk at *
  simp only [World.setCell, Array.getElem?_modify, if_true, h, Option.map_some]
  simp
theorem Blk.set_other (h : Blk w b cs t) {a : Addr} (v : Value) (hn : a.block ≠ b) : Blk (w.setCell a v) b cs t := (Below.heap_setCell _ _ _ _ (Ne.symm hn)).trans h
end
theorem add_mk (b o n : Nat) : Addr.add ⟨b, o, none⟩ n = ⟨b, o + n, none⟩ := by
  unfold Addr.add; split <;> simp_all
theorem add_block (a : Addr) (n : Nat) : (a.add n).block = a.block := by unfold Addr.add; split <;> rfl
theorem add_add (a : Addr) (m n : Nat) : (a.add m).add n = a.add (m + n) := by
  unfold Addr.add
  split <;> split <;> simp_all <;> omega

/-! ### the evaluator's words, as they are met -/
theorem ite_intro {b : Bool} {A B : Prop} (h1 : b = true → A) (h2 : b = false → B) : iteP b A B := by cases b <;> first | exact h2 rfl | exact h1 rfl
theorem ite_true {b : Bool} {A B : Prop} (hb : b = true) (h : A) : iteP b A B := by rw [hb]; exact h
theorem ite_false {b : Bool} {A B : Prop} (hb : b = false) (h : B) : iteP b A B := by rw [hb]; exact h
theorem call_of {f : FuncId} {args : List Value} {w : World} {R K : Value → World → Prop} (h : Ok P f args w R) (hk : ∀ v w', R v w' → K v w') : callK P f args w K :=
  Calls.mono h fun _ _ ⟨v, h1, h2⟩ => ⟨v, h1, hk v _ h2⟩
theorem Ok.mono {f : FuncId} {args : List Value} {w : World} {R K : Value → World → Prop} (h : Ok P f args w R) (hk : ∀ v w', R v w' → K v w') : Ok P f args w K := call_of h hk
theorem nw_of {t : TypeId} {cs : List Value} {w : World} {K : Addr → World → Prop} (h : ∀ p w', p = ⟨w.heap.size, 0, none⟩ → w' = w.alloc (.cells ⟨cs⟩ t) → K p w') : nw t cs w K := h _ _ rfl rfl
/-- a new block -/
theorem nw_blk {t : TypeId} {cs : List Value} {w : World} {K : Addr → World → Prop} (h : ∀ b w', b = w.heap.size → Blk w' b cs t → Mod [] w w' → w'.heap.size = w.heap.size + 1 → K ⟨b, 0, none⟩ w') : nw t cs w K :=
  h _ _ rfl (Blk.new w cs t) (Mod.alloc _ _ _) (by simp)
theorem st_of {a : Addr} {u v : Value} {w : World} {K : World → Prop} (h1 : w.cell? a = some u) (h2 : w.frozen? a = false) (h3 : isOne v = true) (h : K (w.setCell a v)) : st a v w K :=
  ⟨⟨u, h1⟩, h2, by cases v <;> first | exact h | cases h3⟩
theorem st_blk {b i : Nat} {v : Value} {w : World} {cs : List Value} {t : TypeId} {K : World → Prop} (hb : Blk w b cs t) (hi : i < cs.length) (h3 : isOne v = true)
    (h : ∀ w', Blk w' b (cs.set i v) t → Mod [b] w w' → w'.heap.size = w.heap.size → K w') : st ⟨b, i, none⟩ v w K :=
  st_of (u := cs[i]) (by rw [hb.cell]; simp [hi]) (hb.frozen i) h3 (h _ (hb.set i v) (Mod.setCell w ⟨b, i, none⟩ v) (by simp))
theorem setRow_blk {t : TypeId} {b : Nat} : ∀ (l : List Value) (cs : List Value) (w : World) (o : Nat), Blk w b cs t → o + l.length ≤ cs.length →
    Blk (setRow w ⟨b, 0, none⟩ o l) b (cs.take o ++ (l ++ cs.drop (o + l.length))) t ∧ Mod [b] w (setRow w ⟨b, 0, none⟩ o l) ∧ (setRow w ⟨b, 0, none⟩ o l).heap.size = w.heap.size
  | [], cs, w, o, hb, _ => by simp [setRow]; exact ⟨hb, Mod.refl _ _⟩
  | v :: r, cs, w, o, hb, hl => by
    simp only [List.length_cons] at hl
    have h1 := hb.set o v
    obtain ⟨h2, h3, h4⟩ := setRow_blk r (cs.set o v) (w.setCell ⟨b, o, none⟩ v) (o + 1) h1 (by simp; omega)
    simp only [setRow]
    rw [add_mk, Nat.zero_add]
    refine ⟨?_, (Mod.setCell w ⟨b, o, none⟩ v).trans h3, by rw [h4]; simp⟩
    have e : (cs.set o v).take (o + 1) ++ (r ++ (cs.set o v).drop (o + 1 + r.length)) = cs.take o ++ (v :: r ++ cs.drop (o + (v :: r).length)) := by
      have hlt : o < cs.length := by omega
      rw [List.take_succ_eq_append_getElem (by simpa using hlt)]
      simp only [List.getElem_set_self, List.take_set_of_le (Nat.le_refl _), List.append_assoc, List.cons_append, List.nil_append, List.length_cons]
      rw [List.drop_set_of_lt (by omega), show o + 1 + r.length = o + (r.length + 1) by omega]
    rw [← e]; exact h2
/-- a whole array is stored into a block of its own -/
theorem stA_blk {n b : Nat} {l cs : List Value} {w : World} {t : TypeId} {K : World → Prop} (hb : Blk w b cs t) (hl : l.length = n) (hn : n ≤ cs.length) (h1 : ∀ v ∈ l, isOne v = true)
    (h : ∀ w', Blk w' b (l ++ cs.drop n) t → Mod [b] w w' → w'.heap.size = w.heap.size → K w') : stA n ⟨b, 0, none⟩ l w K := by
  obtain ⟨h2, h3, h4⟩ := setRow_blk l cs w 0 hb (by omega)
  refine ⟨hl, fun i hi => ?_, h1, h _ ?_ h3 h4⟩
  · rw [add_mk, Nat.zero_add]
    exact ⟨⟨cs[i]'(by omega), by rw [hb.cell]; simp [show i < cs.length by omega]⟩, hb.frozen i⟩
  · rw [← hl]; simpa using h2
theorem ldA_blk {n b : Nat} {cs : List Value} {w : World} {t : TypeId} {K : List Value → Prop} (hb : Blk w b cs t) (hn : n ≤ cs.length) (h : K (cs.take n)) : ldA n ⟨b, 0, none⟩ w K :=
  ⟨cs.take n, (by simp; omega), fun i v hv => (by
    rw [add_mk, Nat.zero_add, hb.cell]
    rw [List.getElem?_take] at hv
    split at hv
    · exact hv
    · cases hv), h⟩

/-! ### slices -/
/-- what a slice's elements' cells are -/
structure Sl (w : World) (s : SlV) (sz : Nat) (vs : List Value) : Prop where
  len : vs.length = s.n * sz
  cap : s.n ≤ s.c
  pre : 0 < s.n → s.a.isSome = true
  cell : ∀ i v, vs[i]? = some v → w.cell? ((base s.a).add i) = some v
/-- a slice's elements lie apart from the blocks of S -/
def off (S : List Nat) (s : SlV) : Prop := 0 < s.n → ∀ a, s.a = some a → a.block ∉ S
theorem off_nil (s : SlV) : off [] s := fun _ _ _ => by simp
theorem off.mono {S T : List Nat} {s : SlV} (h : off S s) (hs : ∀ b ∈ T, b ∈ S) : off T s := fun h0 a ha hb => h h0 a ha (hs _ hb)
theorem Sl.mod {w w' : World} {s : SlV} {sz : Nat} {vs : List Value} (h : Sl w s sz vs) {S : List Nat} (hm : Mod S w w') (hn : off S s) : Sl w' s sz vs := by
  refine ⟨h.len, h.cap, h.pre, fun i v hv => ?_⟩
  have h1 := h.cell i v hv
  refine hm.cell h1 ?_
  rw [add_block]
  have h0 : 0 < s.n := by
    rcases Nat.eq_zero_or_pos s.n with e | e
    · have := h.len; rw [e, Nat.zero_mul] at this
      have := List.length_eq_zero_iff.1 this; rw [this] at hv; simp at hv
    · exact e
  obtain ⟨a, ha⟩ := Option.isSome_iff_exists.1 (h.pre h0)
  rw [ha]; exact hn h0 a ha
theorem Sl.mod0 {w w' : World} {s : SlV} {sz : Nat} {vs : List Value} (h : Sl w s sz vs) (hm : Mod [] w w') : Sl w' s sz vs := h.mod hm (off_nil s)
theorem Sl.block {w : World} {s : SlV} {sz : Nat} {vs : List Value} (h : Sl w s sz vs) (hsz : 0 < sz) (h0 : 0 < s.n) {a : Addr} (ha : s.a = some a) : a.block < w.heap.size := by
  have hl : 0 < vs.length := by rw [h.len]; exact Nat.mul_pos h0 hsz
  have h1 := h.cell 0 vs[0] (by simp [hl])
  have := World.block_lt_of_cell? _ _ h1
  rw [add_block, ha] at this
  exact this
/-- new blocks lie apart -/
theorem Sl.off_new {w : World} {s : SlV} {sz : Nat} {vs : List Value} (h : Sl w s sz vs) (hsz : 0 < sz) {S : List Nat} (hS : ∀ b ∈ S, w.heap.size ≤ b) : off S s := fun h0 a ha hb => by
  have := h.block hsz h0 ha
  have := hS _ hb
  omega
theorem Sl.nil (w : World) (sz : Nat) : Sl w ⟨none, 0, 0⟩ sz [] := ⟨by simp, by simp, by simp, by simp⟩
/-- numbers in a slice -/
def Ints (w : World) (s : SlV) (k : IntKind) (xs : List Int) : Prop := Sl w s 1 (xs.map (Value.int k)) ∧ ∀ x ∈ xs, k.min ≤ x ∧ x ≤ k.max
theorem Ints.mod0 {w w' : World} {s : SlV} {k : IntKind} {xs : List Int} (h : Ints w s k xs) (hm : Mod [] w w') : Ints w' s k xs := ⟨h.1.mod0 hm, h.2⟩
theorem Ints.mod {w w' : World} {s : SlV} {k : IntKind} {xs : List Int} (h : Ints w s k xs) {S : List Nat} (hm : Mod S w w') (hn : off S s) : Ints w' s k xs := ⟨h.1.mod hm hn, h.2⟩
theorem Ints.len {w : World} {s : SlV} {k : IntKind} {xs : List Int} (h : Ints w s k xs) : xs.length = s.n := by have := h.1.len; simpa using this
theorem Ints.isSome {w : World} {s : SlV} {k : IntKind} {xs : List Int} (h : Ints w s k xs) {i : Int} (h0 : 0 ≤ i) (h1 : i < (s.n : Int)) : s.a.isSome = true := h.1.pre (by omega)
theorem Ints.get {w : World} {s : SlV} {k : IntKind} {xs : List Int} (h : Ints w s k xs) {i : Nat} (hi : i < xs.length) : w.cell? ((base s.a).add i) = some (.int k xs[i]) :=
  h.1.cell i _ (by simp [hi])
/-- an element is read -/
theorem Ints.ld {w : World} {s : SlV} {k : IntKind} {xs : List Int} (h : Ints w s k xs) {i : Int} (h0 : 0 ≤ i) (h1 : i < (s.n : Int)) {K : Int → Prop} (hk : ∀ hi : i.toNat < xs.length, K xs[i.toNat]) :
    idxS s.a i s.n (ldI k (Addr.add (base s.a) (Int.toNat i * 1)) w K) := by
  have hl := h.len
  have hi : i.toNat < xs.length := by omega
  exact ⟨⟨h.isSome h0 h1, h0, h1⟩, xs[i.toNat], by rw [Nat.mul_one]; exact h.get hi, hk hi⟩

/-! ### what the call itself owns -/
/-- an element's type -/
def eltB (P : Program) (t e : TypeId) (sz bytes : Nat) : Bool :=
  (match P.underlying t with | some (.slice e') => Nat.beq e' e | _ => false) &&
  (match P.info? e with | some i => Nat.beq i.size sz && Nat.beq i.bytes bytes && (match i.zero with | some z => Nat.beq z.cells.toList.length sz | none => false) | none => false) && Nat.ble 1 sz
structure Elt (P : Program) (t e : TypeId) (sz bytes : Nat) : Prop where
  und : P.underlying t = some (.slice e)
  pos : 0 < sz
  info : ∃ i z, P.info? e = some i ∧ i.zero = some z ∧ i.size = sz ∧ i.bytes = bytes ∧ z.cells.size = sz
theorem Elt.of {t e : TypeId} {sz bytes : Nat} (h : eltB P t e sz bytes = true) : Elt P t e sz bytes := by
  unfold eltB at h
  simp only [Bool.and_eq_true] at h
  obtain ⟨⟨h1, h2⟩, h3⟩ := h
  refine ⟨?_, Nat.le_of_ble_eq_true h3, ?_⟩
  · split at h1
    · rename_i e' he; rw [he, beq_eq.1 h1]
    · cases h1
  · split at h2
    · rename_i i hi
      simp only [Bool.and_eq_true, beq_eq] at h2
      obtain ⟨⟨h4, h5⟩, h6⟩ := h2
      split at h6
      · rename_i z hz; exact ⟨i, z, hi, hz, h4, h5, by simpa using beq_eq.1 h6⟩
      · cases h6
    · cases h2
def Own (w : World) (lo : Nat) (e : TypeId) (sz : Nat) (s : SlV) (vs : List Value) : Prop := w.ownsRow lo e sz s.v s.n vs
def SlV.row (s : SlV) : List Nat := match s.a with | some a => [a.block] | none => []
theorem Own.sl {w : World} {lo : Nat} {e : TypeId} {sz : Nat} {s : SlV} {vs : List Value} (h : Own w lo e sz s vs) : Sl w s sz vs := by
  obtain ⟨a, n, c⟩ := s
  obtain ⟨hl, h1 | ⟨g, cap, cur, h1, h2, h3, h4, h5, h6, h7⟩⟩ := h
  · obtain ⟨h1, h2⟩ := h1
    simp only [SlV.v, Value.slice.injEq] at h1
    obtain ⟨rfl, rfl, rfl⟩ := h1
    simp only [Nat.zero_mul] at hl
    have := List.length_eq_zero_iff.1 hl
    subst this
    exact Sl.nil w sz
  · simp only [SlV.v, Value.slice.injEq] at h1
    obtain ⟨rfl, -, rfl⟩ := h1
    refine ⟨hl, h4, fun _ => rfl, fun i v hv => ?_⟩
    show w.cell? (Addr.add ⟨g, 0, none⟩ i) = some v
    rw [add_mk, Nat.zero_add]
    unfold World.cell?
    simp only [h3]
    rw [← h7] at hv
    rw [List.getElem?_take] at hv
    split at hv
    · simpa using hv
    · cases hv
theorem Own.mod {w w' : World} {lo : Nat} {e : TypeId} {sz : Nat} {s : SlV} {vs : List Value} (h : Own w lo e sz s vs) {S : List Nat} (hm : Mod S w w') (hn : ∀ b ∈ s.row, b ∉ S) : Own w' lo e sz s vs := by
  obtain ⟨a, n, c⟩ := s
  obtain ⟨hl, h1 | ⟨g, cap, cur, h1, h2, h3, h4⟩⟩ := h
  · exact ⟨hl, .inl h1⟩
  · refine ⟨hl, .inr ⟨g, cap, cur, h1, h2, ?_, h4⟩⟩
    simp only [SlV.v, Value.slice.injEq] at h1
    rw [hm.block g (Array.getElem?_eq_some_iff.1 h3).1 (hn g (by simp [SlV.row, h1.1]))]
    exact h3
theorem Own.mod0 {w w' : World} {lo : Nat} {e : TypeId} {sz : Nat} {s : SlV} {vs : List Value} (h : Own w lo e sz s vs) (hm : Mod [] w w') : Own w' lo e sz s vs := h.mod hm (by simp)
theorem Own.nil (w : World) (lo : Nat) (e : TypeId) (sz : Nat) : Own w lo e sz ⟨none, 0, 0⟩ [] := World.ownsRow_nil w lo e sz
theorem Own.row_ge {w : World} {lo : Nat} {e : TypeId} {sz : Nat} {s : SlV} {vs : List Value} (h : Own w lo e sz s vs) : ∀ b ∈ s.row, lo ≤ b ∧ b < w.heap.size := by
  intro b hb
  obtain ⟨a, n, c⟩ := s
  unfold SlV.row at hb
  cases a with
  | none => cases hb
  | some a =>
    have hb' : b = a.block := by simpa using hb
    have := World.ownsRow.lt h a.block rfl
    rw [hb']; exact this
/-- 'append' runs, where the first one is the call's own -/
theorem run_app {t ty e : TypeId} {sz bytes lo : Nat} {s x : SlV} {vs us : List Value} {w : World} (hel : Elt P t e sz bytes) (hs : Own w lo e sz s vs) (hx : Sl w x sz us)
    (h1 : ∀ u ∈ us, isOne u = true) (hb : (s.n + x.n) * bytes ≤ 140737488355328) (hm : s.n + x.n ≤ maxLen) (hlo : lo ≤ w.heap.size) :
    ∃ s' : SlV, ∃ w', (Builtin.append_ #[t, t] ty #[s.v, x.v]).run P w = .ok s'.v w' ∧ Own w' lo e sz s' (vs ++ us) ∧ Mod s.row w w' ∧ s'.n = s.n + x.n ∧ (∀ b ∈ s'.row, b ∈ s.row ∨ w.heap.size ≤ b) := by
  obtain ⟨i, z, hi, hz, hsz, hby, hzs⟩ := hel.info
  have h1' : ∀ u ∈ us, u.oneCell' = true := fun u hu => by
    have := h1 u hu
    cases u <;> first | rfl | cases this
  obtain ⟨xa, xn, xc⟩ := x
  cases xa with
  | none =>
    have h0 : xn = 0 := by
      rcases Nat.eq_zero_or_pos xn with e | e
      · exact e
      · cases hx.pre e
    have h2 := hx.cap
    subst h0
    have hu : us = [] := List.eq_nil_of_length_eq_zero (by simpa using hx.len)
    subst hu
    have hr : (Builtin.append_ #[t, t] ty #[s.v, .slice none 0 xc]).run P w = .ok s.v w := by
      obtain ⟨sa, sn, sc⟩ := s
      rcases hs.2 with ⟨hv, hn⟩ | ⟨g, cap, cur, hv, _, _, hnc, _⟩
      · simp only [SlV.v, Value.slice.injEq] at hv
        obtain ⟨rfl, rfl, rfl⟩ := hv
        simp [SlV.v, Builtin.append_, run_underlying hel.und, Go.sizeOf, Go.typeInfo, hi, Builtin.lenOf, Builtin.firstCells]
      · simp only [SlV.v, Value.slice.injEq] at hv
        obtain ⟨rfl, -, rfl⟩ := hv
        simp [SlV.v, Builtin.append_, run_underlying hel.und, Go.sizeOf, Go.typeInfo, hi, Builtin.lenOf, Builtin.firstCells, hnc, storeCells]
    exact ⟨s, w, hr, by simpa using hs, Mod.refl _ _, by simp, fun b hb => .inl hb⟩
  | some xa =>
    obtain ⟨sa, sn, sc⟩ := s
    have hxl : us.length = xn * sz := hx.len
    have hxc : ∀ j u, us[j]? = some u → w.cell? (xa.add j) = some u := hx.cell
    rcases hs.2 with ⟨hv, hn⟩ | ⟨g, cap, cur, hv, hlg, hg, hnc, hcm, hcs, htake⟩
    · simp only [SlV.v, Value.slice.injEq] at hv
      obtain ⟨rfl, rfl, rfl⟩ := hv
      have hvs : vs = [] := List.eq_nil_of_length_eq_zero (by simpa using hs.1)
      subst hvs
      obtain ⟨v', w', hr, ho, hg, hi⟩ := run_append_own (P := P) w w.heap.size t ty e i z sz bytes hel.und hi hz hsz hby hzs hel.pos (.slice none 0 0) 0 [] (World.ownsRow_nil w _ e sz) xa xn xc us hxl hxc h1'
        (by simpa using hm) (by simpa using hb) (Nat.le_refl _)
      have hmod : Mod [] w w' := ⟨hg.os, hg.tape, hg.output, hg.size, fun k hk _ => hg.block k hk (by simp [Value.ownBlock])⟩
      simp only [Nat.zero_add] at ho
      rcases ho.2 with ⟨rfl, h0⟩ | ⟨g, cap, cur, rfl, h3, h4, h5⟩
      · subst h0
        exact ⟨⟨none, 0, 0⟩, w', hr, ⟨ho.1, .inl ⟨rfl, rfl⟩⟩, hmod.of_nil, rfl, by simp [SlV.row]⟩
      · exact ⟨⟨some ⟨g, 0, none⟩, xn, cap⟩, w', hr, ⟨ho.1, .inr ⟨g, cap, cur, rfl, Nat.le_trans hlo h3, h4, h5⟩⟩, hmod.of_nil, by simp, fun b hb => by
          simp only [SlV.row, List.mem_singleton] at hb; subst hb; exact .inr h3⟩
    · simp only [SlV.v, Value.slice.injEq] at hv
      obtain ⟨rfl, -, rfl⟩ := hv
      have hmap : ∀ {w'}, w.grownBy w' (some g) → Mod (SlV.row ⟨some ⟨g, 0, none⟩, sn, sc⟩) w w' := fun hg => by simpa [SlV.row] using Mod.grown hg
      by_cases hroom : sn + xn ≤ sc
      · obtain ⟨w', hr, ho, hg⟩ := run_append_fits (P := P) w lo t ty e i sz hel.und hi hsz g sn sc vs hs xa xn xc us hxl hxc h1' hroom
        exact ⟨⟨some ⟨g, 0, none⟩, sn + xn, sc⟩, w', hr, ho, hmap hg, rfl, fun b hb => .inl hb⟩
      · have holds : ∀ j u, vs[j]? = some u → w.cell? ((⟨g, 0, none⟩ : Addr).add j) = some u := World.ownsRow.cells (g := g) hs rfl
        subst hsz hby
        have hm' : sn + xn ≤ 9223372036854775807 := by have h : sn + xn ≤ maxLen := hm; simp only [maxLen] at h; omega
        have hr := run_append_grow (P := P) w t ty e i z hel.und hi hz ⟨g, 0, none⟩ sn sc vs hs.1 holds xa xn xc us hxl hxc (by omega) (by omega) (growslice_fits (by omega) hb)
        have hge := grownCap_ge w (sn + xn) sc e
        have hcm : grownCap w (sn + xn) sc e ≤ maxLen := grownCap_le_maxLen w (sn + xn) sc e hm
        have hlen : (vs ++ us).length = (sn + xn) * i.size := by rw [List.length_append, hs.1, hxl, Nat.add_mul]
        refine ⟨⟨some ⟨w.heap.size, 0, none⟩, sn + xn, grownCap w (sn + xn) sc e⟩, _, hr, ⟨hlen, .inr ⟨w.heap.size, _, _, rfl, hlo, heap_alloc_new w.drew _, hge, hcm, ?_, ?_⟩⟩, (Mod.drew _ w).trans (Mod.alloc _ w.drew _), rfl, ?_⟩
        · simp only [Array.size_append, List.size_toArray, size_zeroCells, hzs, hs.1, hxl, ← Nat.add_mul]
          congr 1
          omega
        · simp only [Array.toList_append, List.append_assoc]
          rw [← List.append_assoc, ← hlen]
          exact List.take_left
        · intro b hb
          simp only [SlV.row, List.mem_singleton] at hb
          exact .inr (by omega)
/-- 'append(s, x...)' where s is the call's own -/
theorem app_own {t ty e : TypeId} {sz bytes lo : Nat} {s x : SlV} {vs us : List Value} {w : World} {K : SlV → World → Prop} (hel : Elt P t e sz bytes) (hs : Own w lo e sz s vs) (hx : Sl w x sz us)
    (h1 : ∀ u ∈ us, isOne u = true) (hb : (s.n + x.n) * bytes ≤ 140737488355328) (hm : s.n + x.n ≤ 9223372036854775807) (hlo : lo ≤ w.heap.size)
    (hk : ∀ s' w', Own w' lo e sz s' (vs ++ us) → Mod s.row w w' → s'.n = s.n + x.n → (∀ b ∈ s'.row, b ∈ s.row ∨ w.heap.size ≤ b) → K s' w') : appK P [t, t] ty [s.v, x.v] w K := by
  obtain ⟨s', w', hr, h2, h3, h4, h5⟩ := run_app (ty := ty) hel hs hx h1 hb (by simp only [maxLen]; omega) hlo
  exact ⟨_, w', hr, s', rfl, hk s' w' h2 h3 h4 h5⟩
end Go.Ev
