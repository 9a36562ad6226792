/- Texts of this claim, packed and shortened. -/
import Derived.Test.YtpchgbolambkcaaGreatDoorProg
import Derived.WalkKit
import Derived.LaidEql
import Derived.Stop.Asserts
import Derived.RowKitTokens
namespace Go.Proofs.YtpchgbolambkcaaGreatDoor
open Go.RowKit Go.Extern.Stop Go.Stop Go.Extern
theorem afo {P:Program} {ti te:TypeId} {ms:Array (String×TypeId)} {k:IntKind} {i:TypeInfo} (c:Int) (hi:P.underlying ti=some (.interface ms)) (hu:P.underlying te=some (.int k)) (hj:P.info? te=some i) (hc:i.comparable=true) (w:World) :
  (binOp .eql ti (.iface te (.int k c)) (.iface te (.int k c))).run P w=.ok (.bool true) w:=by
 have h:∀ d:Nat,(Op.equalIn (d+2) ti (.iface te (.int k c)) (.iface te (.int k c))).run P w=.ok true w:=fun d=>by
  simp [Op.equalIn,run_underlying hi,run_underlying hu,Go.typeInfo,hj,hc]
 simp only [binOp]
 simp [Op.equal,Op.maxDepth,h 9998]
theorem Ef.Zo (v:Value) (w:World):(Extern.ReflectliteType.typeOf #[.iface 67 v]).run Tryz.prog w=.ok (.iface 196 (.agg #[.pointer (some ⟨1,67,none⟩)])) w:=by kernel_rfl
theorem Ef.ah2 (w:World):((Extern.ReflectliteType.method fun t=>do Rtype.noPackHeld "Comparable" t; (fun a=>Value.bool a.comparable) <$> typeInfo t) #[.agg #[.pointer (some ⟨1,67,none⟩)]]).run Tryz.prog w=.ok (.bool true) w:=by kernel_rfl
theorem Ef.ae4 (v:Value) (w:World):(Go.method 513 196 v "Comparable").run Tryz.prog w=.ok (389,v) w:=by kernel_rfl
theorem Ef.amm:(Tryz.prog.info? 67).map (·.comparable)=some true:=by kernel_rfl
theorem Ef.anb (v:Value) (xT:TypeId) (w:World):(Instr.typeAssert (.iface 95 v) xT 207 true).run Tryz.prog w=.ok (.tuple #[.nilIface,.bool false]) w:=run_typeAssert_lacksB Tryz.underlying207 (by kernel_rfl) (by kernel_rfl) v xT w
theorem Ef.Yn (v:Value) (xT:TypeId) (w:World):(Instr.typeAssert (.iface 95 v) xT 203 true).run Tryz.prog w=.ok (.tuple #[.iface 95 v,.bool true]) w:=run_typeAssert_hasB Tryz.underlying203 (by kernel_rfl) v xT w
theorem Ef.XH (v:Value) (w:World):(Go.method 513 95 v "Unwrap").run Tryz.prog w=.ok (381,v) w:=by kernel_rfl
set_option maxRecDepth 100000 in
set_option maxHeartbeats 4000000 in
theorem alg (b:Nat) (c:Int) (w:World) (h1:w.cell? ⟨b,0,none⟩=some (.int .i64 c)) :
  Calls Tryz.prog 53 #[.iface 95 (.pointer (some ⟨b,0,none⟩)),.iface 67 (.int .i64 c)] w fun e w'=>e=.returned (.bool true)∧w'=w:=by
 obtain ⟨i,hi,an0⟩:=Option.map_eq_some_iff.1 Ef.amm
 have h46:=@run_callFunc_extern Tryz.prog 89 _ Extern.ReflectliteType.typeOf Tryz.func89 (by kernel_rfl) (by kernel_rfl) (by kernel_rfl) (by kernel_rfl)
 have h89:=@run_callFunc_extern Tryz.prog 389 _ (Extern.ReflectliteType.method fun t=>do Rtype.noPackHeld "Comparable" t; pure (.bool (← typeInfo t).comparable)) Tryz.func389 (by kernel_rfl) (by kernel_rfl) (by kernel_rfl) (by kernel_rfl)
 have tT:=Ef.Zo
 have cT:=Ef.ah2
 have mR:=Ef.ae4
 have nW:=Ef.anb
 have uW:=Ef.Yn
 have mU:=Ef.XH
 have heq:=afo (P:=Tryz.prog) c Tryz.underlying33 Tryz.underlying67 hi an0 w
 have hty:=run_eql_iface_types (P:=Tryz.prog) 95 67 (.pointer (some ⟨b,0,none⟩)) (.int .i64 c) Tryz.underlying33 (by decide) w
 go_enter Tryz.func53,Tryz.ntmps53
 go_wp2
 refine wp_loop_rounds 2 ?_
 rw [rounds_succ]
 go_wp2
 rw [rounds_succ]
 go_wp2
 go_ret
 exact ⟨rfl,rfl⟩
end Go.Proofs.YtpchgbolambkcaaGreatDoor
