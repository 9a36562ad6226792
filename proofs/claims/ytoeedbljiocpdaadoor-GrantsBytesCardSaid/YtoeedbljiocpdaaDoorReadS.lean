/- ARGUMENTS THAT WERE READ AS DATA: structs, and slices of structs: words of this claim's author. -/
import Derived.Test.YtoeedbljiocpdaaDoorRead
import Derived.Deep.Slices
import Derived.Deep.Fields
namespace Go.Ev
open Go Go.RowKit Go.ChangeShapes Go.WideShapes Go.ChangeAt Go.Deep
variable {H : Type} {enc : TypeId × Value → H} {P : Program} {w : World} {held : Bool}
/-- kinds of a struct's fields of one cell -/
inductive Lk where
  | int (k : IntKind) | str | bool | bytes
def LkOk (w : World) : Lk → Value → Prop
  | .int k, v => ∃ z, v = .int k z ∧ k.min ≤ z ∧ z ≤ k.max
  | .str, v => ∃ s : ByteArray, v = .string s ∧ s.size ≤ 9223372036854775807
  | .bool, v => ∃ b, v = .bool b
  | .bytes, v => ∃ (s : SlV) (l : List B8), v = .slice s.a s.n s.c ∧ Bytes w s l ∧ s.n ≤ 9223372036854775807
def kindB (P : Program) (t : TypeId) : Lk → Bool
  | .int k => match P.underlying t with | some (.int k') => decide (k' = k) | _ => false
  | .str => match P.underlying t with | some .string => true | _ => false
  | .bool => match P.underlying t with | some .bool => true | _ => false
  | .bytes => match P.underlying t with | some (.slice e) => (match P.underlying e with | some (.int .u8) => decide (P.cellsOf e = 1) | _ => false) | _ => false
theorem read_leaf {t : TypeId} {k : Lk} {c : Value} {n : Nat} {x : DataW H × List MemPlace} (hk : kindB P t k = true) (h : DataW.trod enc P w 0 (fun _ => true) held n t [c] = some x) : LkOk w k c := by
  cases k with
  | int k =>
    simp only [kindB] at hk
    split at hk
    · rename_i k' hu
      have : k' = k := of_decide_eq_true hk
      subst this
      obtain ⟨z, hz, _, hw⟩ := DataW.trod_int hu h
      have hz : c = .int k' z := by simpa using hz
      have := wf_int hw
      exact ⟨z, hz, this.1, this.2⟩
    · cases hk
  | str =>
    simp only [kindB] at hk
    split at hk
    · rename_i hu
      obtain ⟨s, hs, _, hm⟩ := DataW.trod_string hu h
      have hs : c = .string s := by simpa using hs
      exact ⟨s, hs, by simp only [maxLen] at hm; omega⟩
    · cases hk
  | bool =>
    simp only [kindB] at hk
    split at hk
    · rename_i hu
      obtain ⟨b, hb, _⟩ := DataW.trod_bool hu h
      exact ⟨b, by simpa using hb⟩
    · cases hk
  | bytes =>
    simp only [kindB] at hk
    split at hk
    · rename_i e hu
      split at hk
      · rename_i he
        have hc : P.cellsOf e = 1 := of_decide_eq_true hk
        rcases open_ints hu he hc h with ⟨hcs, -⟩ | ⟨a, len, cap, zs, hcs, -, hl, hm, hz, -, hcell, hw⟩
        · exact ⟨⟨none, 0, 0⟩, [], by simpa using hcs, Bytes.nil w, by show 0 ≤ _; omega⟩
        · simp only [if_true] at hz
          have hI : Ints w ⟨some a, len, cap⟩ .u8 (zs.take len) := by
            refine ⟨⟨?_, hl, fun _ => rfl, fun i x hx => ?_⟩, fun x hx => wf_int (hw x (List.mem_of_mem_take hx))⟩
            · simp only [List.length_map, List.length_take, Nat.mul_one]; omega
            · rw [List.getElem?_map, List.getElem?_take] at hx
              split at hx
              · rename_i hi
                have := hcell i (by omega)
                rw [List.getD_eq_getElem?_getD] at this
                cases hzi : zs[i]? with
                | none => rw [hzi] at hx; cases hx
                | some z =>
                  rw [hzi] at hx this
                  simp only [Option.map_some, Option.some.injEq] at hx
                  subst hx
                  exact this
              · cases hx
          exact ⟨⟨some a, len, cap⟩, _, by simpa using hcs, bytes_of_ints hI, by simp only [maxLen] at hm; show len ≤ _; omega⟩
      · cases hk
    · cases hk
def AllLk (w : World) : List Lk → List Value → Prop
  | [], [] => True
  | k :: ks, c :: cs => LkOk w k c ∧ AllLk w ks cs
  | _, _ => False
theorem AllLk.cons {w : World} {k : Lk} {ks : List Lk} {cs : List Value} (h : AllLk w (k :: ks) cs) : ∃ c r, cs = c :: r ∧ LkOk w k c ∧ AllLk w ks r := by
  cases cs with
  | nil => exact h.elim
  | cons c r => exact ⟨c, r, rfl, h.1, h.2⟩
theorem AllLk.nil {w : World} {cs : List Value} (h : AllLk w [] cs) : cs = [] := by
  cases cs with
  | nil => rfl
  | cons c r => exact h.elim
def fsOf (P : Program) (t : TypeId) : Array Field := match P.underlying t with | some (.struct fs) => fs | _ => #[]
def isStruct (P : Program) (t : TypeId) : Bool := match P.underlying t with | some (.struct _) => true | _ => false
def kindsB (P : Program) (fs : List Field) : List Lk → Bool := go fs
where
  go : List Field → List Lk → Bool
    | [], [] => true
    | f :: fs, k :: ks => kindB P f.type k && go fs ks
    | _, _ => false
def structB (P : Program) (t : TypeId) (ks : List Lk) : Bool := isStruct P t && (oneCellFields P (fsOf P t) && (decide (P.cellsOf t = ks.length) && (decide ((fsOf P t).size = ks.length) && kindsB P (fsOf P t).toList ks)))
theorem und_fs {t : TypeId} (h : isStruct P t = true) : P.underlying t = some (.struct (fsOf P t)) := by
  unfold isStruct at h
  unfold fsOf
  split at h
  · rename_i fs hu; rw [hu]
  · cases h
theorem allLk_of : ∀ (fs : List Field) (ks : List Lk) (cs : List Value), kindsB P fs ks = true → cs.length = ks.length → (∀ (i : Nat) (f : Field) (c : Value), fs[i]? = some f → cs[i]? = some c → ∃ n x, DataW.trod enc P w 0 (fun _ => true) held n f.type [c] = some x) → AllLk w ks cs
  | [], [], [], _, _, _ => trivial
  | [], [], _ :: _, _, h, _ => by simp at h
  | [], _ :: _, _, h, _, _ => by cases h
  | _ :: _, [], _, h, _, _ => by cases h
  | _ :: _, _ :: _, [], _, h, _ => by simp at h
  | f :: fs, k :: ks, c :: cs, h, hl, hc => by
    have h : (kindB P f.type k && kindsB P fs ks) = true := h
    simp only [Bool.and_eq_true] at h
    obtain ⟨n, x, hx⟩ := hc 0 f c rfl rfl
    exact ⟨read_leaf h.1 hx, allLk_of fs ks cs h.2 (by simpa using hl) fun i f' c' hf hc' => hc (i + 1) f' c' (by simpa using hf) (by simpa using hc')⟩
theorem read_cells {t : TypeId} {ks : List Lk} {cs : List Value} {n : Nat} {x : DataW H × List MemPlace} (hs : structB P t ks = true) (h : DataW.trod enc P w 0 (fun _ => true) held n t cs = some x) : AllLk w ks cs ∧ cs.length = ks.length := by
  unfold structB at hs
  simp only [Bool.and_eq_true, decide_eq_true_eq] at hs
  obtain ⟨h1, h2, h3, h4, h5⟩ := hs
  obtain ⟨xs, m, _, _, hl, hxl, hf⟩ := DataW.trod_struct (und_fs h1) h
  refine ⟨allLk_of (enc := enc) (held := held) _ ks cs h5 (by omega) fun i f c hfi hci => ?_, by omega⟩
  have hfi' : (fsOf P t)[i]? = some f := by simpa using hfi
  have hi : i < (fsOf P t).size := (Array.getElem?_eq_some_iff.1 hfi').1
  obtain ⟨ho, hc1⟩ := hone_of h2 i f hfi'
  have := hf i f hfi'
  rw [ho, hc1, take1_drop cs i undef (by omega), List.getElem?_eq_getElem (by omega)] at this
  have hcd : cs.getD i undef = c := by simp [List.getD_eq_getElem?_getD, hci]
  rw [hcd] at this
  exact ⟨m, _, this⟩
theorem read_struct {t : TypeId} {ks : List Lk} {v : Value} {d : DataW H} {ps : List MemPlace} {r : Reach} {base : Nat} (hs : structB P t ks = true) (hv : Value.okWide P w r base t v) (h : DataW.Trod enc P w 0 (fun _ => true) held t v d ps) :
    ∃ cs, v = .agg ⟨cs⟩ ∧ AllLk w ks cs := by
  have hst : isStruct P t = true := by unfold structB at hs; simp only [Bool.and_eq_true] at hs; exact hs.1
  obtain ⟨cs, rfl, hsz⟩ := okWide_struct (und_fs hst) hv
  obtain ⟨fuel, h⟩ := h
  exact ⟨cs.toList, rfl, (read_cells hs (by simpa [Value.cells] using h)).1⟩
/-- a slice of structs -/
theorem read_structs {t e : TypeId} {ks : List Lk} {v : Value} {d : DataW H} {ps : List MemPlace} {r : Reach} {base : Nat} (ht : P.underlying t = some (.slice e)) (hs : structB P e ks = true) (hv : Value.okWide P w r base t v) (h : DataW.Trod enc P w 0 (fun _ => true) held t v d ps) :
    ∃ (s : SlV) (rows : List (List Value)), v = .slice s.a s.n s.c ∧ Sl w s ks.length rows.flatten ∧ rows.length = s.n ∧ (∀ row ∈ rows, AllLk w ks row ∧ row.length = ks.length) ∧ s.n ≤ 9223372036854775807 := by
  have hce : P.cellsOf e = ks.length := by unfold structB at hs; simp only [Bool.and_eq_true, decide_eq_true_eq] at hs; exact hs.2.2.1
  obtain ⟨va, vn, vc, rfl⟩ := Go.WideShapes.okWide_slice ht hv
  obtain ⟨fuel, h⟩ := h
  rcases open_slice ht h with ⟨hcs, -⟩ | ⟨a, len, cap, m, n, D, Pl, hcs, -, hl, hm, hmm, -, hr⟩
  · exact ⟨⟨none, 0, 0⟩, [], by simpa [Value.cells] using hcs, Sl.nil w _, rfl, (fun _ h => by cases h), by show 0 ≤ _; omega⟩
  · simp only [if_true] at hmm
    subst hmm
    have hex : ∀ i : Nat, ∃ cs', i < m → (w.cells? 0 (a.add (i * P.cellsOf e)) (P.cellsOf e) = some cs' ∧ DataW.trod enc P w 0 (fun _ => true) held n e cs' = some (D i, Pl i)) := fun i => by
      by_cases hi : i < m
      · obtain ⟨cs', h1⟩ := hr i hi; exact ⟨cs', fun _ => h1⟩
      · exact ⟨[], fun h => absurd h hi⟩
    obtain ⟨C, hC⟩ := Classical.axiomOfChoice hex
    have hrow : ∀ i, i < m → AllLk w ks (C i) ∧ (C i).length = ks.length := fun i hi => read_cells hs (hC i hi).2
    refine ⟨⟨some a, len, m⟩, (List.range len).map C, by simpa [Value.cells] using hcs, ⟨?_, hl, fun _ => rfl, ?_⟩, by simp, fun row hrow' => ?_, by simp only [maxLen] at hm; show len ≤ _; omega⟩
    · have : ∀ k, k ≤ m → ((List.range k).map C).flatten.length = k * ks.length := by
        intro k
        induction k with
        | zero => intro _; simp
        | succ k ih =>
          intro hk
          rw [List.range_succ, List.map_append, List.flatten_append, List.length_append, ih (by omega), Nat.succ_mul]
          simp [(hrow k (by omega)).2]
      exact this len hl
    · intro j v hj
      have key : ∀ k, k ≤ m → ∀ j v, ((List.range k).map C).flatten[j]? = some v → w.cell? (a.add j) = some v := by
        intro k
        induction k with
        | zero => intro _ j v h; simp at h
        | succ k ih =>
          intro hk j v h
          have hlen : ∀ k, k ≤ m → ((List.range k).map C).flatten.length = k * ks.length := by
            intro k
            induction k with
            | zero => intro _; simp
            | succ k ih =>
              intro hk
              rw [List.range_succ, List.map_append, List.flatten_append, List.length_append, ih (by omega), Nat.succ_mul]
              simp [(hrow k (by omega)).2]
          rw [List.range_succ, List.map_append, List.flatten_append] at h
          rcases Nat.lt_or_ge j (((List.range k).map C).flatten.length) with hjl | hjl
          · rw [List.getElem?_append_left hjl] at h
            exact ih (by omega) j v h
          · rw [List.getElem?_append_right hjl] at h
            simp only [List.map_cons, List.map_nil, List.flatten_cons, List.flatten_nil, List.append_nil] at h
            obtain ⟨hb, hl2, hcell⟩ := World.cells?_some (hC k (by omega)).1
            have hjlt : j - ((List.range k).map C).flatten.length < (C k).length := (List.getElem?_eq_some_iff.1 h).1
            have h2 := hcell (j - ((List.range k).map C).flatten.length) (by omega)
            rw [h] at h2
            rw [add_add] at h2
            rw [hlen k (by omega)] at hjl h2
            rw [hce] at h2
            rw [show k * ks.length + (j - k * ks.length) = j by omega] at h2
            exact h2
      exact key len hl j v hj
    · obtain ⟨i, hi, rfl⟩ := List.mem_map.1 hrow'
      exact hrow i (by have := List.mem_range.1 hi; omega)
end Go.Ev
