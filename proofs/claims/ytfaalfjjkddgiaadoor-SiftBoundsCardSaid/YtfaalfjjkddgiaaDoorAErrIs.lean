/- Texts of this claim, packed. -/
import Derived.Test.YtfaalfjjkddgiaaDoorProg
import Derived.WalkKit
import Derived.LaidEql
import Derived.Stop.Asserts
import Derived.RowKitTokens
/- ERRORS OF THE LAYERS, met by errors.Is: Go's own text, walked, after the kit's worked example 'sentry'. -/
namespace Go.Proofs.YtfaalfjjkddgiaaDoor
open Go.RowKit Go.Extern.Stop Go.Stop Go.Extern
theorem run_eql_iface_int {P : Program} {ti te : TypeId} {ms : Array (String × TypeId)} {k : IntKind} {i : TypeInfo} (c : Int) (hi : P.underlying ti = some (.interface ms)) (hu : P.underlying te = some (.int k)) (hj : P.info? te = some i) (hc : i.comparable = true) (w : World) :
    (binOp .eql ti (.iface te (.int k c)) (.iface te (.int k c))).run P w = .ok (.bool true) w := by
  have h : ∀ d : Nat, (Op.equalIn (d + 2) ti (.iface te (.int k c)) (.iface te (.int k c))).run P w = .ok true w := fun d => by
    simp [Op.equalIn, run_underlying hi, run_underlying hu, Go.typeInfo, hj, hc]
  simp only [binOp]
  simp [Op.equal, Op.maxDepth, h 9998]
theorem Ef.isTypeOf (v : Value) (w : World) : (Extern.ReflectliteType.typeOf #[.iface 54 v]).run Tryd.prog w = .ok (.iface 121 (.agg #[.pointer (some ⟨1, 54, none⟩)])) w := by kernel_rfl
theorem Ef.isComparable (w : World) : ((Extern.ReflectliteType.method fun t => do Rtype.noPackHeld "Comparable" t; (fun a => Value.bool a.comparable) <$> typeInfo t) #[.agg #[.pointer (some ⟨1, 54, none⟩)]]).run Tryd.prog w = .ok (.bool true) w := by kernel_rfl
theorem Ef.isMethodComparable (v : Value) (w : World) : (Go.method 269 121 v "Comparable").run Tryd.prog w = .ok (120, v) w := by kernel_rfl
theorem Ef.isComp : (Tryd.prog.info? 54).map (·.comparable) = some true := by kernel_rfl
theorem Ef.noIsF (v : Value) (xT : TypeId) (w : World) : (Instr.typeAssert (.iface 81 v) xT 133 true).run Tryd.prog w = .ok (.tuple #[.nilIface, .bool false]) w := run_typeAssert_lacksB Tryd.underlying133 (by kernel_rfl) (by kernel_rfl) v xT w
theorem Ef.hasUnwrapF (v : Value) (xT : TypeId) (w : World) : (Instr.typeAssert (.iface 81 v) xT 128 true).run Tryd.prog w = .ok (.tuple #[.iface 81 v, .bool true]) w := run_typeAssert_hasB Tryd.underlying128 (by kernel_rfl) v xT w
theorem Ef.methodUnwrap (v : Value) (w : World) : (Go.method 269 81 v "Unwrap").run Tryd.prog w = .ok (114, v) w := by kernel_rfl
set_option maxRecDepth 100000 in
set_option maxHeartbeats 4000000 in
/-- errors.Is(e, c), e a Fault of that code. -/
theorem is_code (b : Nat) (c : Int) (w : World) (h1 : w.cell? ⟨b, 0, none⟩ = some (.int .i64 c)) :
    Calls Tryd.prog 52 #[.iface 81 (.pointer (some ⟨b, 0, none⟩)), .iface 54 (.int .i64 c)] w fun e w' => e = .returned (.bool true) ∧ w' = w := by
  obtain ⟨i, hi, hcmp⟩ := Option.map_eq_some_iff.1 Ef.isComp
  have h46 := @run_callFunc_extern Tryd.prog 70 _ Extern.ReflectliteType.typeOf Tryd.func70 (by kernel_rfl) (by kernel_rfl) (by kernel_rfl) (by kernel_rfl)
  have h89 := @run_callFunc_extern Tryd.prog 120 _ (Extern.ReflectliteType.method fun t => do Rtype.noPackHeld "Comparable" t; pure (.bool (← typeInfo t).comparable)) Tryd.func120 (by kernel_rfl) (by kernel_rfl) (by kernel_rfl) (by kernel_rfl)
  have tT := Ef.isTypeOf
  have cT := Ef.isComparable
  have mR := Ef.isMethodComparable
  have nW := Ef.noIsF
  have uW := Ef.hasUnwrapF
  have mU := Ef.methodUnwrap
  have heq := run_eql_iface_int (P := Tryd.prog) c Tryd.underlying31 Tryd.underlying54 hi hcmp w
  have hty := run_eql_iface_types (P := Tryd.prog) 81 54 (.pointer (some ⟨b, 0, none⟩)) (.int .i64 c) Tryd.underlying31 (by decide) w
  go_enter Tryd.func52, Tryd.ntmps52
  go_wp2
  refine wp_loop_rounds 2 ?_
  rw [rounds_succ]
  go_wp2
  rw [rounds_succ]
  go_wp2
  go_ret
  exact ⟨rfl, rfl⟩
end Go.Proofs.YtfaalfjjkddgiaaDoor

