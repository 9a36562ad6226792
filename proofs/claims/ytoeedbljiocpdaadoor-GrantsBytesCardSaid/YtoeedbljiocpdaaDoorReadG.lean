/- GRANTS THAT WERE READ AS ARGUMENTS: words of this claim's author. -/
import Derived.Test.YtoeedbljiocpdaaDoorReadS
import Derived.Test.YtoeedbljiocpdaaDoorGr1
namespace Go.Proofs.YtoeedbljiocpdaaDoor
open Go Go.Ev Go.RowKit
set_option maxRecDepth 20000
def grKinds : List Lk := [.int .i64, .int .i64, .int .i64, .int .i64, .int .i64, .bool]
theorem structGrant : structB Pr t_api_Grant grKinds = true := by kernel_rfl
theorem und_grants : Pr.underlying t_s_api_Grant = some (.slice t_api_Grant) := by kernel_rfl
theorem row_grant {w : World} {cs : List Value} (h : AllLk w grKinds cs) : ∃ g : GrV, cs = g.cells ∧ g.fit := by
  have e1 : IntKind.min .i64 = -9223372036854775808 := by decide
  obtain ⟨c0, r0, rfl, ⟨z0, rfl, b0⟩, h0⟩ := h.cons
  obtain ⟨c1, r1, rfl, ⟨z1, rfl, b1⟩, h1⟩ := h0.cons
  obtain ⟨c2, r2, rfl, ⟨z2, rfl, b2⟩, h2⟩ := h1.cons
  obtain ⟨c3, r3, rfl, ⟨z3, rfl, b3⟩, h3⟩ := h2.cons
  obtain ⟨c4, r4, rfl, ⟨z4, rfl, b4⟩, h4⟩ := h3.cons
  obtain ⟨c5, r5, rfl, ⟨z5, rfl⟩, h5⟩ := h4.cons
  obtain rfl := h5.nil
  rw [e1] at b3
  exact ⟨⟨z0, z1, z2, z3, z4, z5⟩, rfl, b3.1⟩
theorem rows_grants {w : World} : ∀ (rows : List (List Value)), (∀ row ∈ rows, AllLk w grKinds row ∧ row.length = grKinds.length) → ∃ l : List GrV, rows.flatten = grC l ∧ l.length = rows.length ∧ ∀ g ∈ l, g.fit
  | [], _ => ⟨[], rfl, rfl, fun g h => by cases h⟩
  | r :: rs, h => by
    obtain ⟨l, h1, h2, h3⟩ := rows_grants rs fun row hr => h row (List.mem_cons_of_mem _ hr)
    obtain ⟨g, hg, hf⟩ := row_grant (h r (List.mem_cons_self ..)).1
    refine ⟨g :: l, ?_, by simp [h2], fun x hx => ?_⟩
    · show r ++ rs.flatten = g.cells ++ grC l
      rw [h1, hg]
    · rcases List.mem_cons.1 hx with rfl | hx
      · exact hf
      · exact h3 x hx
theorem read_grant {H : Type} {enc : TypeId × Value → H} {w : World} {held : Bool} {v : Value} {d : DataW H} {ps : List MemPlace} {r : Reach} {base : Nat} (hv : Value.okWide Pr w r base t_api_Grant v) (h : DataW.Trod enc Pr w 0 (fun _ => true) held t_api_Grant v d ps) :
    ∃ g : GrV, v = .agg ⟨g.cells⟩ ∧ g.fit := by
  obtain ⟨cs, rfl, hall⟩ := read_struct structGrant hv h
  obtain ⟨g, rfl, hf⟩ := row_grant hall
  exact ⟨g, rfl, hf⟩
theorem read_grants {H : Type} {enc : TypeId × Value → H} {w : World} {held : Bool} {v : Value} {d : DataW H} {ps : List MemPlace} {r : Reach} {base : Nat} (hv : Value.okWide Pr w r base t_s_api_Grant v) (h : DataW.Trod enc Pr w 0 (fun _ => true) held t_s_api_Grant v d ps) :
    ∃ (s : SlV) (l : List GrV), v = .slice s.a s.n s.c ∧ Grs w s l ∧ ∀ g ∈ l, g.fit := by
  obtain ⟨s, rows, rfl, hs, hn, hr, _⟩ := read_structs und_grants structGrant hv h
  obtain ⟨l, h1, h2, h3⟩ := rows_grants rows hr
  rw [h1] at hs
  exact ⟨s, l, rfl, hs, h3⟩
end Go.Proofs.YtoeedbljiocpdaaDoor
