/- REQUESTS THAT WERE READ AS ARGUMENTS: words of this claim's author. -/
import Derived.Test.YtoeedbljiocpdaaDoorReadS
import Derived.Test.YtoeedbljiocpdaaDoorAsk
namespace Go.Proofs.YtoeedbljiocpdaaDoor
open Go Go.Ev Go.RowKit
set_option maxRecDepth 20000
def askKinds : List Lk := [.int .i64, .int .i64, .int .i64, .int .i64, .int .i64, .int .i64, .int .i64, .int .i64, .int .i64, .int .i64, .int .i64, .str, .bytes, .bytes]
theorem structAsk : structB Pr t_api_Ask askKinds = true := by kernel_rfl
theorem read_ask {H : Type} {enc : TypeId × Value → H} {w : World} {held : Bool} {v : Value} {d : DataW H} {ps : List MemPlace} {r : Reach} {base : Nat} (hv : Value.okWide Pr w r base t_api_Ask v) (h : DataW.Trod enc Pr w 0 (fun _ => true) held t_api_Ask v d ps) :
    ∃ (q : AskV) (lb lt : List B8), v = .agg ⟨q.cells⟩ ∧ Bytes w q.by_ lb ∧ Bytes w q.tok lt ∧ ∀ n ∈ q.nums, -9223372036854775808 ≤ n ∧ n ≤ 9223372036854775807 := by
  obtain ⟨cs, rfl, hall⟩ := read_struct structAsk hv h
  have e1 : IntKind.min .i64 = -9223372036854775808 := by decide
  have e2 : IntKind.max .i64 = 9223372036854775807 := by decide
  obtain ⟨c0, r0, rfl, ⟨z0, rfl, b0⟩, h0⟩ := hall.cons
  obtain ⟨c1, r1, rfl, ⟨z1, rfl, b1⟩, h1⟩ := h0.cons
  obtain ⟨c2, r2, rfl, ⟨z2, rfl, b2⟩, h2⟩ := h1.cons
  obtain ⟨c3, r3, rfl, ⟨z3, rfl, b3⟩, h3⟩ := h2.cons
  obtain ⟨c4, r4, rfl, ⟨z4, rfl, b4⟩, h4⟩ := h3.cons
  obtain ⟨c5, r5, rfl, ⟨z5, rfl, b5⟩, h5⟩ := h4.cons
  obtain ⟨c6, r6, rfl, ⟨z6, rfl, b6⟩, h6⟩ := h5.cons
  obtain ⟨c7, r7, rfl, ⟨z7, rfl, b7⟩, h7⟩ := h6.cons
  obtain ⟨c8, r8, rfl, ⟨z8, rfl, b8⟩, h8⟩ := h7.cons
  obtain ⟨c9, r9, rfl, ⟨z9, rfl, b9⟩, h9⟩ := h8.cons
  obtain ⟨c10, r10, rfl, ⟨z10, rfl, b10⟩, h10⟩ := h9.cons
  obtain ⟨c11, r11, rfl, ⟨s, rfl, _⟩, h11⟩ := h10.cons
  obtain ⟨c12, r12, rfl, ⟨u, l, rfl, hl, _⟩, h12⟩ := h11.cons
  obtain ⟨c13, r13, rfl, ⟨v, m, rfl, hm, _⟩, h13⟩ := h12.cons
  obtain rfl := h13.nil
  refine ⟨⟨z0, z1, z2, z3, z4, z5, z6, z7, z8, z9, z10, s, u, v⟩, l, m, rfl, hl, hm, fun n hn => ?_⟩
  rw [e1, e2] at b0 b1 b2 b3 b4 b5 b6 b7 b8 b9 b10
  simp only [AskV.nums, List.mem_cons, List.not_mem_nil, or_false] at hn
  rcases hn with rfl | rfl | rfl | rfl | rfl | rfl | rfl | rfl | rfl | rfl | rfl <;> assumption
end Go.Proofs.YtoeedbljiocpdaaDoor
