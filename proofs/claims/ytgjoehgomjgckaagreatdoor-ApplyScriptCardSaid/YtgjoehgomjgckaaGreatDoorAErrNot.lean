/- Texts of this claim, packed and shortened. -/
import Derived.Test.YtgjoehgomjgckaaGreatDoorAErrIs
namespace Go.Proofs.YtgjoehgomjgckaaGreatDoor
open Go.RowKit Go.Extern.Stop Go.Stop Go.Extern
theorem X7{P:Program}{ti te:TypeId}{ms:Array (String × TypeId)}{k:IntKind}{i:TypeInfo}{c d:Int}(wT:c≠d)(hi:P.underlying ti=some (.interface ms))(hu:P.underlying te=some (.int k))(hj:P.info? te=some i)(hc:i.comparable=true)(w:World):
  (binOp .eql ti (.iface te (.int k c)) (.iface te (.int k d))).run P w=.ok (.bool false) w:=by
 have h:∀n:Nat,(Op.equalIn (n+2) ti (.iface te (.int k c)) (.iface te (.int k d))).run P w=.ok false w:=λn=>by
  simp[Op.equalIn,run_underlying hi,run_underlying hu,Go.typeInfo,hj,hc,wT]
 simp only[binOp]
 simp[Op.equal,Op.maxDepth,h 9998]
theorem YO{P:Program}{ti te:TypeId}{ms:Array (String × TypeId)}{v:Value}(hi:P.underlying ti=some (.interface ms))(w:World):(binOp .eql ti .nilIface (.iface te v)).run P w=.ok (.bool false) w:=by
 have h:∀n:Nat,(Op.equalIn (n+2) ti .nilIface (.iface te v)).run P w=.ok false w:=λn=>by
  simp[Op.equalIn,run_underlying hi]
 simp only[binOp]
 simp[Op.equal,Op.maxDepth,h 9998]
theorem Ef.aj6(v:Value)(xT:TypeId)(w:World):(Instr.typeAssert (.iface 37 v) xT 194 true).run Tryz.prog w=.ok (.tuple #[.nilIface,.bool false]) w:=run_typeAssert_lacksB Tryz.underlying194 (by kernel_rfl) (by kernel_rfl) v xT w
theorem Ef.agf(v:Value)(xT:TypeId)(w:World):(Instr.typeAssert (.iface 37 v) xT 190 true).run Tryz.prog w=.ok (.tuple #[.nilIface,.bool false]) w:=run_typeAssert_lacksB Tryz.underlying190 (by kernel_rfl) (by kernel_rfl) v xT w
theorem Ef.afi(v:Value)(xT:TypeId)(w:World):(Instr.typeAssert (.iface 37 v) xT 191 true).run Tryz.prog w=.ok (.tuple #[.nilIface,.bool false]) w:=run_typeAssert_lacksB Tryz.underlying191 (by kernel_rfl) (by kernel_rfl) v xT w
set_option maxRecDepth 100000 in
set_option maxHeartbeats 4000000 in
theorem adX(b:Nat)(c d:Int)(wT:c≠d)(w:World)(h1:w.cell? ⟨b,0,none⟩=some (.int .i64 c)):
  Calls Tryz.prog 33 #[.iface 85 (.pointer (some ⟨b,0,none⟩)),.iface 37 (.int .i64 d)] w λe w'=>e=.returned (.bool false)/\w'=w:=by
 obtain⟨i,hi,MK⟩:=Option.map_eq_some_iff.1 Ef.UJ
 have h46:=@run_callFunc_extern Tryz.prog 65 _ Extern.ReflectliteType.typeOf Tryz.func65 (by kernel_rfl) (by kernel_rfl) (by kernel_rfl) (by kernel_rfl)
 have h89:=@run_callFunc_extern Tryz.prog 327 _ (Extern.ReflectliteType.method λt=>do Rtype.noPackHeld "Comparable" t;pure (.bool (<- typeInfo t).comparable)) Tryz.func327 (by kernel_rfl) (by kernel_rfl) (by kernel_rfl) (by kernel_rfl)
 have tT:=Ef.Ld
 have cT:=Ef.Qr
 have mR:=Ef.O4
 have nW:=Ef.Vq
 have uW:=Ef.KG
 have mU:=Ef.J9
 have nE:=Ef.aj6
 have uE:=Ef.agf
 have sE:=Ef.afi
 have heq:=X7 (P:=Tryz.prog) wT Tryz.underlying41 Tryz.underlying37 hi MK w
 have hty:=run_eql_iface_types (P:=Tryz.prog) 85 37 (.pointer (some ⟨b,0,none⟩)) (.int .i64 d) Tryz.underlying41 (by decide) w
 go_enter Tryz.func33,Tryz.ntmps33
 go_wp2
 refine wp_loop_rounds 2 ?_
 rw[rounds_succ]
 go_wp2
 rw[rounds_succ]
 go_wp2
 go_ret
 exact⟨rfl,rfl⟩
set_option maxRecDepth 100000 in
theorem afj(d:Int)(w:World):
  Calls Tryz.prog 33 #[.nilIface,.iface 37 (.int .i64 d)] w λe w'=>e=.returned (.bool false)/\w'=w:=by
 have hq:=YO (P:=Tryz.prog) (te:=37) (v:=.int .i64 d) Tryz.underlying41 w
 go_enter Tryz.func33,Tryz.ntmps33
 go_wp2
 go_ret
 exact⟨rfl,rfl⟩
end Go.Proofs.YtgjoehgomjgckaaGreatDoor
