/- Texts of this claim, packed. -/
import Derived.Test.YtdnhoebcomffoaaGreatDoorProg
import Derived.WalkKit
import Derived.LaidEql
import Derived.Stop.Asserts
import Derived.RowKitTokens
/- ERRORS OF THE LAYERS, met by errors.Is: Go's own text, walked, after the kit's worked example 'sentry'. -/
namespace Go.Proofs.YtdnhoebcomffoaaGreatDoor
open Go.RowKit Go.Extern.Stop Go.Stop Go.Extern
theorem run_eql_iface_int {P : Program} {ti te : TypeId} {ms : Array (String × TypeId)} {k : IntKind} {i : TypeInfo} (c : Int) (hi : P.underlying ti = some (.interface ms)) (hu : P.underlying te = some (.int k)) (hj : P.info? te = some i) (hc : i.comparable = true) (w : World) :
    (binOp .eql ti (.iface te (.int k c)) (.iface te (.int k c))).run P w = .ok (.bool true) w := by
  have h : ∀ d : Nat, (Op.equalIn (d + 2) ti (.iface te (.int k c)) (.iface te (.int k c))).run P w = .ok true w := fun d => by
    simp [Op.equalIn, run_underlying hi, run_underlying hu, Go.typeInfo, hj, hc]
  simp only [binOp]
  simp [Op.equal, Op.maxDepth, h 9998]
theorem Ef.isTypeOf (v : Value) (w : World) : (Extern.ReflectliteType.typeOf #[.iface 61 v]).run Tryz.prog w = .ok (.iface 205 (.agg #[.pointer (some ⟨1, 61, none⟩)])) w := by kernel_rfl
theorem Ef.isComparable (w : World) : ((Extern.ReflectliteType.method fun t => do Rtype.noPackHeld "Comparable" t; (fun a => Value.bool a.comparable) <$> typeInfo t) #[.agg #[.pointer (some ⟨1, 61, none⟩)]]).run Tryz.prog w = .ok (.bool true) w := by kernel_rfl
theorem Ef.isMethodComparable (v : Value) (w : World) : (Go.method 364 205 v "Comparable").run Tryz.prog w = .ok (255, v) w := by kernel_rfl
theorem Ef.isComp : (Tryz.prog.info? 61).map (·.comparable) = some true := by kernel_rfl
theorem Ef.noIsF (v : Value) (xT : TypeId) (w : World) : (Instr.typeAssert (.iface 89 v) xT 216 true).run Tryz.prog w = .ok (.tuple #[.nilIface, .bool false]) w := run_typeAssert_lacksB Tryz.underlying216 (by kernel_rfl) (by kernel_rfl) v xT w
theorem Ef.hasUnwrapF (v : Value) (xT : TypeId) (w : World) : (Instr.typeAssert (.iface 89 v) xT 212 true).run Tryz.prog w = .ok (.tuple #[.iface 89 v, .bool true]) w := run_typeAssert_hasB Tryz.underlying212 (by kernel_rfl) v xT w
theorem Ef.methodUnwrap (v : Value) (w : World) : (Go.method 364 89 v "Unwrap").run Tryz.prog w = .ok (248, v) w := by kernel_rfl
set_option maxRecDepth 100000 in
set_option maxHeartbeats 4000000 in
/-- errors.Is(e, c), e a Fault of that code. -/
theorem is_code (b : Nat) (c : Int) (w : World) (h1 : w.cell? ⟨b, 0, none⟩ = some (.int .i64 c)) :
    Calls Tryz.prog 50 #[.iface 89 (.pointer (some ⟨b, 0, none⟩)), .iface 61 (.int .i64 c)] w fun e w' => e = .returned (.bool true) ∧ w' = w := by
  obtain ⟨i, hi, hcmp⟩ := Option.map_eq_some_iff.1 Ef.isComp
  have h46 := @run_callFunc_extern Tryz.prog 131 _ Extern.ReflectliteType.typeOf Tryz.func131 (by kernel_rfl) (by kernel_rfl) (by kernel_rfl) (by kernel_rfl)
  have h89 := @run_callFunc_extern Tryz.prog 255 _ (Extern.ReflectliteType.method fun t => do Rtype.noPackHeld "Comparable" t; pure (.bool (← typeInfo t).comparable)) Tryz.func255 (by kernel_rfl) (by kernel_rfl) (by kernel_rfl) (by kernel_rfl)
  have tT := Ef.isTypeOf
  have cT := Ef.isComparable
  have mR := Ef.isMethodComparable
  have nW := Ef.noIsF
  have uW := Ef.hasUnwrapF
  have mU := Ef.methodUnwrap
  have heq := run_eql_iface_int (P := Tryz.prog) c Tryz.underlying25 Tryz.underlying61 hi hcmp w
  have hty := run_eql_iface_types (P := Tryz.prog) 89 61 (.pointer (some ⟨b, 0, none⟩)) (.int .i64 c) Tryz.underlying25 (by decide) w
  go_enter Tryz.func50, Tryz.ntmps50
  go_wp2
  refine wp_loop_rounds 2 ?_
  rw [rounds_succ]
  go_wp2
  rw [rounds_succ]
  go_wp2
  go_ret
  exact ⟨rfl, rfl⟩
end Go.Proofs.YtdnhoebcomffoaaGreatDoor

