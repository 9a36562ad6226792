/- Texts of this claim, packed and shortened. -/
import Derived.Test.YtgjoehgomjgckaaGreatDoorProg
import Derived.WalkKit
import Derived.LaidEql
import Derived.Stop.Asserts
import Derived.RowKitTokens
namespace Go.Proofs.YtgjoehgomjgckaaGreatDoor
open Go.RowKit Go.Extern.Stop Go.Stop Go.Extern
theorem Ef.afT(t:Addr)(w:World):(ReflectliteValue.unpack (.iface 87 (.pointer (some t)))).run Tryz.prog w
  = .ok (.agg #[.pointer (some ⟨1,87,none⟩),.pointer (some ⟨w.heap.size,0,none⟩),.int .u64 150]) (w.alloc (.cells #[.pointer (some t)] 87)):=by kernel_rfl
theorem Ef.type27(a:Addr)(w:World):(ReflectliteValue.methodAny (ReflectliteValue.valueError "reflectlite.Value.Type" 0) (λt _ _ _=>ReflectliteType.toType t) #[.agg #[.pointer (some ⟨1,87,none⟩),.pointer (some a),.int .u64 150]]).run Tryz.prog w
  = .ok (.iface 183 (.agg #[.pointer (some ⟨1,87,none⟩)])) w:=by kernel_rfl
theorem Ef.Rm(h:Value)(w:World):(Go.method 452 183 (.agg #[h]) "Kind").run Tryz.prog w=.ok (316,h) w:=by kernel_rfl
theorem Ef.ai3(w:World):((ReflectliteType.abiMethod λt=>(λa:Nat=>Value.int IntKind.u8 (a:Int)) <$> Rtype.kind t) #[.pointer (some ⟨1,87,none⟩)]).run Tryz.prog w=.ok (.int .u8 22) w:=by kernel_rfl
theorem Ef.ai4(w:World):((ReflectliteType.abiMethod λt=>(λa:Nat=>Value.int IntKind.u8 (a:Int)) <$> Rtype.kind t) #[.pointer (some ⟨1,85,none⟩)]).run Tryz.prog w=.ok (.int .u8 22) w:=by kernel_rfl
theorem IU(z:Sem Value)(f:TypeId->Addr->Nat->Nat->Sem Value)(v:Value):
  ReflectliteValue.method z f #[v]=(do match <- ReflectliteValue.parts v with|none=>z|some (t,a,fl)=>f t a fl (fl%32)):=rfl
theorem Ef.TT(a:Addr)(w:World):(ReflectliteValue.parts (.agg #[.pointer (some ⟨1,87,none⟩),.pointer (some a),.int .u64 150])).run Tryz.prog w=.ok (some (87,a,150)) w:=by kernel_rfl
theorem Ef.ah8(a p:Addr)(W:World)(ha:W.cell? a=some (.pointer (some p))):
  (ReflectliteValue.method (ReflectliteValue.valueError "reflectlite.Value.IsNil" 0) ReflectliteValue.isNil #[.agg #[.pointer (some ⟨1,87,none⟩),.pointer (some a),.int .u64 150]]).run Tryz.prog W=.ok (.bool false) W:=by
 rw[IU]
 simp only[Sem.run_bind,Ef.TT,Result.andThen]
 simp[ReflectliteValue.isNil,loadVar,isAgg,underlying,Tryz.underlying87,ha,Result.andThen]
theorem Ef.Rn(h:Value)(w:World):(Go.method 452 183 (.agg #[h]) "Elem").run Tryz.prog w=.ok (328,.agg #[h]) w:=by kernel_rfl
theorem Ef.O8(h:Value)(w:World):(Go.method 452 183 (.agg #[h]) "Implements").run Tryz.prog w=.ok (329,.agg #[h]) w:=by kernel_rfl
theorem Ef.O3(h:Value)(w:World):(Go.method 452 183 (.agg #[h]) "AssignableTo").run Tryz.prog w=.ok (326,.agg #[h]) w:=by kernel_rfl
theorem Ef.ai5(w:World):(ReflectliteType.method ReflectliteType.elem #[.agg #[.pointer (some ⟨1,87,none⟩)]]).run Tryz.prog w=.ok (.iface 183 (.agg #[.pointer (some ⟨1,85,none⟩)])) w:=by kernel_rfl
theorem Ef.abQ(w:World):(ReflectliteType.relation "Implements" ReflectliteType.implements_ #[.agg #[.pointer (some ⟨1,85,none⟩)],.iface 183 (.agg #[.pointer (some ⟨1,41,none⟩)])]).run Tryz.prog w=.ok (.bool true) w:=by kernel_rfl
theorem Ef.agX(v:Value)(w:World):(ReflectliteType.typeOf #[.iface 85 v]).run Tryz.prog w=.ok (.iface 183 (.agg #[.pointer (some ⟨1,85,none⟩)])) w:=by kernel_rfl
theorem Ef.abR(w:World):(ReflectliteType.relation "AssignableTo" ReflectliteType.assignableTo #[.agg #[.pointer (some ⟨1,85,none⟩)],.iface 183 (.agg #[.pointer (some ⟨1,85,none⟩)])]).run Tryz.prog w=.ok (.bool true) w:=by kernel_rfl
theorem Ef.afU(e:Addr)(w:World):(ReflectliteValue.unpack (.iface 85 (.pointer (some e)))).run Tryz.prog w
  = .ok (.agg #[.pointer (some ⟨1,85,none⟩),.pointer (some ⟨w.heap.size,0,none⟩),.int .u64 150]) (w.alloc (.cells #[.pointer (some e)] 85)):=by kernel_rfl
theorem Ef.agY(w:World):(Rtype.elem? 87).run Tryz.prog w=.ok (some 85) w:=by kernel_rfl
theorem Ef.akI(p:Addr)(w:World):(ReflectliteValue.mk 85 p ReflectliteValue.flagAddr).run Tryz.prog w=.ok (.agg #[.pointer (some ⟨1,85,none⟩),.pointer (some p),.int .u64 406]) w:=by kernel_rfl
theorem Ef.ah9(a p:Addr)(W:World)(ha:W.cell? a=some (.pointer (some p))):
  (ReflectliteValue.method (ReflectliteValue.valueError "reflectlite.Value.Elem" 0) ReflectliteValue.elem #[.agg #[.pointer (some ⟨1,87,none⟩),.pointer (some a),.int .u64 150]]).run Tryz.prog W
   = .ok (.agg #[.pointer (some ⟨1,85,none⟩),.pointer (some p),.int .u64 406]) W:=by
 rw[IU]
 simp only[Sem.run_bind,Ef.TT,Result.andThen]
 simp[ReflectliteValue.elem,loadVar,isAgg,underlying,Tryz.underlying87,ha,Result.andThen,Ef.agY,Ef.akI]
theorem Wq(v x:Value):ReflectliteValue.set #[v,x]=(do
  let (some (dst,a,fl),some (src,b,_)):=(<- ReflectliteValue.parts v,<- ReflectliteValue.parts x)
   |unsupported (.noEntry "extern/(internal/reflectlite.Value).Set.zeroValue")
  if fl / ReflectliteValue.flagAddr%2 == 0 then unsupported (.noEntry "extern/(internal/reflectlite.Value).Set.unaddressable")
  let val <- loadVar src b
  if <- Rtype.directlyAssignable dst src then storeVar dst a val
  else if <- Rtype.implements dst src then
   if (<- Rtype.kind src) == 20 then
    match val with
    |.nilIface=>unsupported (.noEntry "extern/reflectlite: a nil value of one interface type handed on as a value of another")
    |_=>storeVar dst a val
   else storeVar dst a (.iface src val)
  else panicString ("reflectlite.Set: value of type "++(<- Rtype.spelt src)++ " is not assignable to type "++(<- Rtype.spelt dst))
  pure (.tuple #[])):=rfl
theorem Ef.agZ(a:Addr)(w:World):(ReflectliteValue.parts (.agg #[.pointer (some ⟨1,85,none⟩),.pointer (some a),.int .u64 406])).run Tryz.prog w=.ok (some (85,a,406)) w:=by kernel_rfl
theorem Ef.aia(a:Addr)(w:World):(ReflectliteValue.parts (.agg #[.pointer (some ⟨1,85,none⟩),.pointer (some a),.int .u64 150])).run Tryz.prog w=.ok (some (85,a,150)) w:=by kernel_rfl
theorem Ef.ag0(w:World):(Rtype.directlyAssignable 85 85).run Tryz.prog w=.ok true w:=by kernel_rfl
theorem Ef.ajV(ta b e:Addr)(old:Value)(W:World)(hb:W.cell? b=some (.pointer (some e)))(ht:W.cell? ta=some old)(hf:W.frozen? ta=false):
  (ReflectliteValue.set #[.agg #[.pointer (some ⟨1,85,none⟩),.pointer (some ta),.int .u64 406],.agg #[.pointer (some ⟨1,85,none⟩),.pointer (some b),.int .u64 150]]).run Tryz.prog W
   = .ok (.tuple #[]) (W.setCell ta (.pointer (some e))):=by
 rw[Wq]
 simp only[Sem.run_bind,Ef.agZ,Ef.aia,Result.andThen]
 simp[ReflectliteValue.flagAddr,loadVar,isAgg,underlying,Tryz.underlying85,hb,Result.andThen,Ef.ag0,storeVar,Value.cells,storeCells,Addr.add]
 rw[run_store Tryz.prog W ta _ _ (by rfl)]
 simp[ht,hf]
set_option maxRecDepth 100000 in
set_option maxHeartbeats 4000000 in
theorem ai6(e t:Addr)(old:Value)(w:World)(hg:w.cell? ⟨0,0,none⟩=some (.iface 183 (.agg #[.pointer (some ⟨1,41,none⟩)])))(EZ:w.cell? t=some old)(Nu:w.frozen? t=false):
  Calls Tryz.prog 32 #[.iface 85 (.pointer (some e)),.iface 87 (.pointer (some t))] w λev w'=>ev=.returned (.bool true)/\w'=((((w.alloc (.cells #[.pointer (some t)] 87)).alloc (.cells #[.pointer (some ⟨1,87,none⟩),.pointer (some ⟨w.heap.size,0,none⟩),.int .u64 150] 118)).alloc (.cells #[.pointer (some ⟨1,87,none⟩),.pointer (some ⟨w.heap.size,0,none⟩),.int .u64 150] 118)).alloc (.cells #[.pointer (some e)] 85)).setCell t (.pointer (some e)):=by
 have h6:=@run_callFunc_extern Tryz.prog 61 _ (λargs=>ReflectliteValue.unpack (args.getD 0 (.tuple #[]))) Tryz.func61 (by kernel_rfl) (by kernel_rfl) (by kernel_rfl) (by kernel_rfl)
 have h7:=@run_callFunc_extern Tryz.prog 62 _ (ReflectliteValue.methodAny (ReflectliteValue.valueError "reflectlite.Value.Type" 0) (λt _ _ _=>ReflectliteType.toType t)) Tryz.func62 (by kernel_rfl) (by kernel_rfl) (by kernel_rfl) (by kernel_rfl)
 have h8:=@run_callFunc_extern Tryz.prog 63 _ (ReflectliteValue.method (ReflectliteValue.valueError "reflectlite.Value.IsNil" 0) ReflectliteValue.isNil) Tryz.func63 (by kernel_rfl) (by kernel_rfl) (by kernel_rfl) (by kernel_rfl)
 have h27:=@run_callFunc_extern Tryz.prog 316 _ (ReflectliteType.abiMethod λt=>do pure (.int .u8 (<- Rtype.kind t))) Tryz.func316 (by kernel_rfl) (by kernel_rfl) (by kernel_rfl) (by kernel_rfl)
 have h37:=@run_callFunc_extern Tryz.prog 328 _ (ReflectliteType.method ReflectliteType.elem) Tryz.func328 (by kernel_rfl) (by kernel_rfl) (by kernel_rfl) (by kernel_rfl)
 have h38:=@run_callFunc_extern Tryz.prog 329 _ (ReflectliteType.relation "Implements" ReflectliteType.implements_) Tryz.func329 (by kernel_rfl) (by kernel_rfl) (by kernel_rfl) (by kernel_rfl)
 have jr:=@run_callFunc_extern Tryz.prog 65 _ ReflectliteType.typeOf Tryz.func65 (by kernel_rfl) (by kernel_rfl) (by kernel_rfl) (by kernel_rfl)
 have h35:=@run_callFunc_extern Tryz.prog 326 _ (ReflectliteType.relation "AssignableTo" ReflectliteType.assignableTo) Tryz.func326 (by kernel_rfl) (by kernel_rfl) (by kernel_rfl) (by kernel_rfl)
 have yP:=@run_callFunc_extern Tryz.prog 121 _ (ReflectliteValue.method (ReflectliteValue.valueError "reflectlite.Value.Elem" 0) ReflectliteValue.elem) Tryz.func121 (by kernel_rfl) (by kernel_rfl) (by kernel_rfl) (by kernel_rfl)
 have iC:=@run_callFunc_extern Tryz.prog 122 _ ReflectliteValue.set Tryz.func122 (by kernel_rfl) (by kernel_rfl) (by kernel_rfl) (by kernel_rfl)
 have tO:=Ef.agX
 have mA:=Ef.O3
 have a25:=Ef.abR
 have v25:=Ef.afU
 have f6:=Ef.afT
 have f7:=Ef.type27
 have mK:=Ef.Rm
 have mE:=Ef.Rn
 have mI:=Ef.O8
 have k27:=Ef.ai3
 have k25:=Ef.ai4
 have e27:=Ef.ai5
 have i25:=Ef.abQ
 have n8:=Ef.ah8 ⟨w.heap.size,0,none⟩ t ((w.alloc (.cells #[.pointer (some t)] 87)).alloc (.cells #[.pointer (some ⟨1,87,none⟩),.pointer (some ⟨w.heap.size,0,none⟩),.int .u64 150] 118)) (by simp)
 have bB:0<w.heap.size:=by
  rcases Nat.eq_zero_or_pos w.heap.size with h0|h
  ·simp[World.cell?,h0]at hg
  ·exact h
 have hg2:((w.alloc (.cells #[.pointer (some t)] 87)).alloc (.cells #[.pointer (some ⟨1,87,none⟩),.pointer (some ⟨w.heap.size,0,none⟩),.int .u64 150] 118)).cell? ⟨0,0,none⟩=some (.iface 183 (.agg #[.pointer (some ⟨1,41,none⟩)])):=by
  rw[World.cell?_alloc_lt _ _ ⟨0,0,none⟩ (by simp),World.cell?_alloc_lt _ _ ⟨0,0,none⟩ bB];exact hg
 have AE:t.block<w.heap.size:=by
  rcases Nat.lt_or_ge t.block w.heap.size with h|h
  ·exact h
  ·simp[World.cell?,Array.getElem?_eq_none h]at EZ
 have el:=Ef.ah9 ⟨w.heap.size,0,none⟩ t (((w.alloc (.cells #[.pointer (some t)] 87)).alloc (.cells #[.pointer (some ⟨1,87,none⟩),.pointer (some ⟨w.heap.size,0,none⟩),.int .u64 150] 118)).alloc (.cells #[.pointer (some ⟨1,87,none⟩),.pointer (some ⟨w.heap.size,0,none⟩),.int .u64 150] 118)) (by rw[World.cell?_alloc_lt _ _ ⟨w.heap.size,0,none⟩ (by simp;omega)];simp)
 have st:=Ef.ajV t ⟨w.heap.size+1+1+1,0,none⟩ e old ((((w.alloc (.cells #[.pointer (some t)] 87)).alloc (.cells #[.pointer (some ⟨1,87,none⟩),.pointer (some ⟨w.heap.size,0,none⟩),.int .u64 150] 118)).alloc (.cells #[.pointer (some ⟨1,87,none⟩),.pointer (some ⟨w.heap.size,0,none⟩),.int .u64 150] 118)).alloc (.cells #[.pointer (some e)] 85))
  (by rw[World.cell?_alloc_at _ _ _ _ (by simp)];rfl)
  (by rw[World.cell?_alloc_lt _ _ t (by simp;omega),World.cell?_alloc_lt _ _ t (by simp;omega),World.cell?_alloc_lt _ _ t (by simp;omega),World.cell?_alloc_lt _ _ t AE];exact EZ)
  (by rw[World.frozen?_alloc_old _ _ t (by simp;omega),World.frozen?_alloc_old _ _ t (by simp;omega),World.frozen?_alloc_old _ _ t (by simp;omega),World.frozen?_alloc_old _ _ t (Nat.ne_of_lt AE)];exact Nu)
 go_enter Tryz.func32,Tryz.ntmps32
 go_wp2
 refine wp_loop_rounds 1 ?_
 rw[rounds_succ]
 go_wp2
 go_ret
 exact⟨rfl,rfl⟩
end Go.Proofs.YtgjoehgomjgckaaGreatDoor
