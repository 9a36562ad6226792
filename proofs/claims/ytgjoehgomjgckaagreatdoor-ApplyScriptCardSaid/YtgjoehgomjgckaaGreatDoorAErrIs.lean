/- Texts of this claim, packed and shortened. -/
import Derived.Test.YtgjoehgomjgckaaGreatDoorProg
import Derived.WalkKit
import Derived.LaidEql
import Derived.Stop.Asserts
import Derived.RowKitTokens
namespace Go.Proofs.YtgjoehgomjgckaaGreatDoor
open Go.RowKit Go.Extern.Stop Go.Stop Go.Extern
theorem YG{P:Program}{ti te:TypeId}{ms:Array (String × TypeId)}{k:IntKind}{i:TypeInfo}(c:Int)(hi:P.underlying ti=some (.interface ms))(hu:P.underlying te=some (.int k))(hj:P.info? te=some i)(hc:i.comparable=true)(w:World):
  (binOp .eql ti (.iface te (.int k c)) (.iface te (.int k c))).run P w=.ok (.bool true) w:=by
 have h:∀d:Nat,(Op.equalIn (d+2) ti (.iface te (.int k c)) (.iface te (.int k c))).run P w=.ok true w:=λd=>by
  simp[Op.equalIn,run_underlying hi,run_underlying hu,Go.typeInfo,hj,hc]
 simp only[binOp]
 simp[Op.equal,Op.maxDepth,h 9998]
theorem Ef.Ld(v:Value)(w:World):(Extern.ReflectliteType.typeOf #[.iface 37 v]).run Tryz.prog w=.ok (.iface 183 (.agg #[.pointer (some ⟨1,37,none⟩)])) w:=by kernel_rfl
theorem Ef.Qr(w:World):((Extern.ReflectliteType.method λt=>do Rtype.noPackHeld "Comparable" t;(λa=>Value.bool a.comparable) <$> typeInfo t) #[.agg #[.pointer (some ⟨1,37,none⟩)]]).run Tryz.prog w=.ok (.bool true) w:=by kernel_rfl
theorem Ef.O4(v:Value)(w:World):(Go.method 452 183 v "Comparable").run Tryz.prog w=.ok (327,v) w:=by kernel_rfl
theorem Ef.UJ:(Tryz.prog.info? 37).map (·.comparable)=some true:=by kernel_rfl
theorem Ef.Vq(v:Value)(xT:TypeId)(w:World):(Instr.typeAssert (.iface 85 v) xT 194 true).run Tryz.prog w=.ok (.tuple #[.nilIface,.bool false]) w:=run_typeAssert_lacksB Tryz.underlying194 (by kernel_rfl) (by kernel_rfl) v xT w
theorem Ef.KG(v:Value)(xT:TypeId)(w:World):(Instr.typeAssert (.iface 85 v) xT 190 true).run Tryz.prog w=.ok (.tuple #[.iface 85 v,.bool true]) w:=run_typeAssert_hasB Tryz.underlying190 (by kernel_rfl) v xT w
theorem Ef.J9(v:Value)(w:World):(Go.method 452 85 v "Unwrap").run Tryz.prog w=.ok (321,v) w:=by kernel_rfl
set_option maxRecDepth 100000 in
set_option maxHeartbeats 4000000 in
theorem TU(b:Nat)(c:Int)(w:World)(h1:w.cell? ⟨b,0,none⟩=some (.int .i64 c)):
  Calls Tryz.prog 33 #[.iface 85 (.pointer (some ⟨b,0,none⟩)),.iface 37 (.int .i64 c)] w λe w'=>e=.returned (.bool true)/\w'=w:=by
 obtain⟨i,hi,MK⟩:=Option.map_eq_some_iff.1 Ef.UJ
 have h46:=@run_callFunc_extern Tryz.prog 65 _ Extern.ReflectliteType.typeOf Tryz.func65 (by kernel_rfl) (by kernel_rfl) (by kernel_rfl) (by kernel_rfl)
 have h89:=@run_callFunc_extern Tryz.prog 327 _ (Extern.ReflectliteType.method λt=>do Rtype.noPackHeld "Comparable" t;pure (.bool (<- typeInfo t).comparable)) Tryz.func327 (by kernel_rfl) (by kernel_rfl) (by kernel_rfl) (by kernel_rfl)
 have tT:=Ef.Ld
 have cT:=Ef.Qr
 have mR:=Ef.O4
 have nW:=Ef.Vq
 have uW:=Ef.KG
 have mU:=Ef.J9
 have heq:=YG (P:=Tryz.prog) c Tryz.underlying41 Tryz.underlying37 hi MK w
 have hty:=run_eql_iface_types (P:=Tryz.prog) 85 37 (.pointer (some ⟨b,0,none⟩)) (.int .i64 c) Tryz.underlying41 (by decide) w
 go_enter Tryz.func33,Tryz.ntmps33
 go_wp2
 refine wp_loop_rounds 2 ?_
 rw[rounds_succ]
 go_wp2
 rw[rounds_succ]
 go_wp2
 go_ret
 exact⟨rfl,rfl⟩
end Go.Proofs.YtgjoehgomjgckaaGreatDoor
