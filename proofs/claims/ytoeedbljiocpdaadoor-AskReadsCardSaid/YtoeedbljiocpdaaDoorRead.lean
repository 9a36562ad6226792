/- ARGUMENTS THAT WERE READ AS DATA: slices of numbers, of bytes, of slices of bytes: words of this claim's author. -/
import Derived.Test.YtoeedbljiocpdaaDoorRow
import Derived.Test.YtoeedbljiocpdaaDoorCardKit
import Derived.ChangeSlices
import Derived.Deep.Matrix
namespace Go.Ev
open Go Go.RowKit Go.ChangeShapes Go.WideShapes Go.ChangeAt Go.Deep
variable {H : Type} {enc : TypeId × Value → H} {P : Program} {w : World} {held : Bool}
theorem wf_int {k : IntKind} {n : Int} (h : (Lit.int k n).wf = true) : k.min ≤ n ∧ n ≤ k.max := by
  simpa [Lit.wf] using h
theorem range64 {n : Int} (h : (Lit.int .i64 n).wf = true) : -9223372036854775808 ≤ n ∧ n ≤ 9223372036854775807 := by
  have h1 := wf_int h
  have e1 : IntKind.min .i64 = -9223372036854775808 := by decide
  have e2 : IntKind.max .i64 = 9223372036854775807 := by decide
  rw [e1, e2] at h1
  exact h1
theorem b8_of {n : Int} (h : (Lit.int .u8 n).wf = true) : (((BitVec.ofInt 8 n).toNat : Nat) : Int) = n := by
  have h1 := wf_int h
  have e1 : IntKind.min .u8 = 0 := by decide
  have e2 : IntKind.max .u8 = 255 := by decide
  rw [e1, e2] at h1
  rw [BitVec.toNat_ofInt]
  omega
/-- a slice of numbers -/
theorem read_ints {t e : TypeId} {k : IntKind} {v : Value} {d : DataW H} {ps : List MemPlace} (ht : P.underlying t = some (.slice e)) (he : P.underlying e = some (.int k)) (hc : P.cellsOf e = 1) {r : Reach} {base : Nat} (hv : Value.okWide P w r base t v)
    (h : DataW.Trod enc P w 0 (fun _ => true) held t v d ps) : ∃ (s : SlV) (xs : List Int), v = .slice s.a s.n s.c ∧ Ints w s k xs ∧ s.n ≤ 9223372036854775807 := by
  obtain ⟨va, vn, vc, rfl⟩ := Go.WideShapes.okWide_slice ht hv
  obtain ⟨fuel, h⟩ := h
  rcases open_ints ht he hc h with ⟨hcs, -⟩ | ⟨a, len, cap, zs, hcs, -, hl, hm, hz, -, hcell, hw⟩
  · refine ⟨⟨none, 0, 0⟩, [], by simpa [Value.cells] using hcs, ⟨Sl.nil w 1, fun x hx => by cases hx⟩, by show 0 ≤ _; omega⟩
  · simp only [if_true] at hz
    refine ⟨⟨some a, len, cap⟩, zs.take len, by simpa [Value.cells] using hcs, ⟨⟨?_, hl, fun _ => rfl, fun i x hx => ?_⟩, fun x hx => wf_int (hw x (List.mem_of_mem_take hx))⟩, ?_⟩
    · simp only [List.length_map, List.length_take, Nat.mul_one]; omega
    · rw [List.getElem?_map, List.getElem?_take] at hx
      split at hx
      · rename_i hi
        have := hcell i (by omega)
        rw [List.getD_eq_getElem?_getD] at this
        cases hzi : zs[i]? with
        | none => rw [hzi] at hx; cases hx
        | some z =>
          rw [hzi] at hx this
          simp only [Option.map_some, Option.some.injEq] at hx
          subst hx
          exact this
      · cases hx
    · simp only [maxLen] at hm; show len ≤ _; omega
/-- numbers as bytes -/
theorem bytes_of_ints {s : SlV} {xs : List Int} (h : Ints w s .u8 xs) : Bytes w s (xs.map (BitVec.ofInt 8)) := by
  have e : u8s (xs.map (BitVec.ofInt 8)) = xs.map (Value.int .u8) := by
    unfold u8s
    rw [List.map_map]
    refine List.map_congr_left fun x hx => ?_
    have h1 := h.2 x hx
    have e1 : IntKind.min .u8 = 0 := by decide
    have e2 : IntKind.max .u8 = 255 := by decide
    rw [e1, e2] at h1
    show Value.int .u8 _ = _
    congr 1
    rw [BitVec.toNat_ofInt]
    omega
  unfold Bytes
  rw [e]
  exact h.1
theorem read_bytes {t e : TypeId} {v : Value} {d : DataW H} {ps : List MemPlace} (ht : P.underlying t = some (.slice e)) (he : P.underlying e = some (.int .u8)) (hc : P.cellsOf e = 1) {r : Reach} {base : Nat} (hv : Value.okWide P w r base t v)
    (h : DataW.Trod enc P w 0 (fun _ => true) held t v d ps) : ∃ (s : SlV) (l : List B8), v = .slice s.a s.n s.c ∧ Bytes w s l ∧ s.n ≤ 9223372036854775807 := by
  obtain ⟨s, xs, h1, h2, h3⟩ := read_ints ht he hc hv h
  exact ⟨s, _, h1, bytes_of_ints h2, h3⟩
/-- slices of bytes in a slice -/
theorem read_parts {t e q : TypeId} {v : Value} {d : DataW H} {ps : List MemPlace} (ht : P.underlying t = some (.slice e)) (he : P.underlying e = some (.slice q)) (hq : P.underlying q = some (.int .u8)) (ce : P.cellsOf e = 1) (cq : P.cellsOf q = 1) {r : Reach} {base : Nat} (hv : Value.okWide P w r base t v)
    (h : DataW.Trod enc P w 0 (fun _ => true) held t v d ps) : ∃ (s : SlV) (ls : List (List B8)), v = .slice s.a s.n s.c ∧ Parts w [] s ls ∧ s.n ≤ 9223372036854775807 := by
  obtain ⟨va, vn, vc, rfl⟩ := Go.WideShapes.okWide_slice ht hv
  obtain ⟨fuel, h⟩ := h
  rcases open_int_rows ht he hq ce cq h with ⟨hcs, -⟩ | ⟨a, len, cap, A, L, C, Z, hcs, -, hl, hm, -, hr⟩
  · exact ⟨⟨none, 0, 0⟩, [], by simpa [Value.cells] using hcs, Parts.nil w [], by show 0 ≤ _; omega⟩
  · have row : ∀ r, r < cap → Bytes w ⟨A r, L r, C r⟩ (((Z r).take (L r)).map (BitVec.ofInt 8)) := by
      intro r hr'
      obtain ⟨h1, h2, h3, h4, h5, h6, h7⟩ := hr r hr'
      refine bytes_of_ints ⟨⟨?_, h2, fun h0 => ?_, fun i x hx => ?_⟩, fun x hx => wf_int (h5 x (List.mem_of_mem_take hx))⟩
      · simp only [List.length_map, List.length_take, Nat.mul_one]; omega
      · have h0 : 0 < L r := h0
        cases hA : A r with
        | none => have := h6 hA; omega
        | some a' => simp
      · rw [List.getElem?_map, List.getElem?_take] at hx
        split at hx
        · rename_i hi
          cases hA : A r with
          | none => have := h6 hA; omega
          | some a' =>
            have := (h7 a' hA).2 i (by omega)
            rw [List.getD_eq_getElem?_getD] at this
            cases hzi : (Z r)[i]? with
            | none => rw [hzi] at hx; cases hx
            | some z =>
              rw [hzi] at hx this
              simp only [Option.map_some, Option.some.injEq] at hx
              subst hx
              exact this
        · cases hx
    refine ⟨⟨some a, len, cap⟩, (List.range len).map fun r => ((Z r).take (L r)).map (BitVec.ofInt 8), by simpa [Value.cells] using hcs, ⟨(List.range len).map fun r => ⟨A r, L r, C r⟩, ⟨by simp, hl, fun _ => rfl, fun i x hx => ?_⟩, off_nil _, by simp, fun i x l hx hl' => ⟨?_, off_nil _⟩⟩, by simp only [maxLen] at hm; show len ≤ _; omega⟩
    · simp only [List.getElem?_map] at hx
      rcases Nat.lt_or_ge i len with hi | hi
      · rw [List.getElem?_range hi] at hx
        simp only [Option.map_some, Option.some.injEq] at hx
        subst hx
        exact (hr i (by omega)).1
      · rw [List.getElem?_eq_none (by simpa using hi)] at hx; cases hx
    · simp only [List.getElem?_map] at hx hl'
      rcases Nat.lt_or_ge i len with hi | hi
      · rw [List.getElem?_range hi] at hx hl'
        simp only [Option.map_some, Option.some.injEq] at hx hl'
        subst hx hl'
        exact row i (by omega)
      · rw [List.getElem?_eq_none (by simpa using hi)] at hx; cases hx
end Go.Ev
