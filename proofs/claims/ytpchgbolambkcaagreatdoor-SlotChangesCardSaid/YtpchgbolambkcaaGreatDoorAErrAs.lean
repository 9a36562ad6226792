/- Texts of this claim, packed and shortened. -/
import Derived.Test.YtpchgbolambkcaaGreatDoorProg
import Derived.WalkKit
import Derived.LaidEql
import Derived.Stop.Asserts
import Derived.RowKitTokens
namespace Go.Proofs.YtpchgbolambkcaaGreatDoor
open Go.RowKit Go.Extern.Stop Go.Stop Go.Extern
theorem Ef.ajs (t:Addr) (w:World):(ReflectliteValue.unpack (.iface 97 (.pointer (some t)))).run Tryz.prog w
  = .ok (.agg #[.pointer (some ⟨1,97,none⟩),.pointer (some ⟨w.heap.size,0,none⟩),.int .u64 150]) (w.alloc (.cells #[.pointer (some t)] 97)):=by kernel_rfl
theorem Ef.type27 (a:Addr) (w:World):(ReflectliteValue.methodAny (ReflectliteValue.valueError "reflectlite.Value.Type" 0) (fun t _ _ _=>ReflectliteType.toType t) #[.agg #[.pointer (some ⟨1,97,none⟩),.pointer (some a),.int .u64 150]]).run Tryz.prog w
  = .ok (.iface 196 (.agg #[.pointer (some ⟨1,97,none⟩)])) w:=by kernel_rfl
theorem Ef.Yh (h:Value) (w:World):(Go.method 513 196 (.agg #[h]) "Kind").run Tryz.prog w=.ok (375,h) w:=by kernel_rfl
theorem Ef.ami (w:World):((ReflectliteType.abiMethod fun t=>(fun a:Nat=>Value.int IntKind.u8 (a:Int)) <$> Rtype.kind t) #[.pointer (some ⟨1,97,none⟩)]).run Tryz.prog w=.ok (.int .u8 22) w:=by kernel_rfl
theorem Ef.amj (w:World):((ReflectliteType.abiMethod fun t=>(fun a:Nat=>Value.int IntKind.u8 (a:Int)) <$> Rtype.kind t) #[.pointer (some ⟨1,95,none⟩)]).run Tryz.prog w=.ok (.int .u8 22) w:=by kernel_rfl
theorem K6 (z:Sem Value) (f:TypeId→Addr→Nat→Nat→Sem Value) (v:Value) :
  ReflectliteValue.method z f #[v]=(do match ← ReflectliteValue.parts v with | none=>z | some (t,a,fl)=>f t a fl (fl % 32)):=rfl
theorem Ef.Z0 (a:Addr) (w:World):(ReflectliteValue.parts (.agg #[.pointer (some ⟨1,97,none⟩),.pointer (some a),.int .u64 150])).run Tryz.prog w=.ok (some (97,a,150)) w:=by kernel_rfl
theorem Ef.ald (a p:Addr) (W:World) (ha:W.cell? a=some (.pointer (some p))) :
  (ReflectliteValue.method (ReflectliteValue.valueError "reflectlite.Value.IsNil" 0) ReflectliteValue.isNil #[.agg #[.pointer (some ⟨1,97,none⟩),.pointer (some a),.int .u64 150]]).run Tryz.prog W=.ok (.bool false) W:=by
 rw [K6]
 simp only [Sem.run_bind,Ef.Z0,Result.andThen]
 simp [ReflectliteValue.isNil,loadVar,isAgg,underlying,Tryz.underlying97,ha,Result.andThen]
theorem Ef.Ym (h:Value) (w:World):(Go.method 513 196 (.agg #[h]) "Elem").run Tryz.prog w=.ok (390,.agg #[h]) w:=by kernel_rfl
theorem Ef.WM (h:Value) (w:World):(Go.method 513 196 (.agg #[h]) "Implements").run Tryz.prog w=.ok (391,.agg #[h]) w:=by kernel_rfl
theorem Ef.WH (h:Value) (w:World):(Go.method 513 196 (.agg #[h]) "AssignableTo").run Tryz.prog w=.ok (388,.agg #[h]) w:=by kernel_rfl
theorem Ef.amk (w:World):(ReflectliteType.method ReflectliteType.elem #[.agg #[.pointer (some ⟨1,97,none⟩)]]).run Tryz.prog w=.ok (.iface 196 (.agg #[.pointer (some ⟨1,95,none⟩)])) w:=by kernel_rfl
theorem Ef.ah0 (w:World):(ReflectliteType.relation "Implements" ReflectliteType.implements_ #[.agg #[.pointer (some ⟨1,95,none⟩)],.iface 196 (.agg #[.pointer (some ⟨1,33,none⟩)])]).run Tryz.prog w=.ok (.bool true) w:=by kernel_rfl
theorem Ef.aj4 (v:Value) (w:World):(ReflectliteType.typeOf #[.iface 95 v]).run Tryz.prog w=.ok (.iface 196 (.agg #[.pointer (some ⟨1,95,none⟩)])) w:=by kernel_rfl
theorem Ef.ah1 (w:World):(ReflectliteType.relation "AssignableTo" ReflectliteType.assignableTo #[.agg #[.pointer (some ⟨1,95,none⟩)],.iface 196 (.agg #[.pointer (some ⟨1,95,none⟩)])]).run Tryz.prog w=.ok (.bool true) w:=by kernel_rfl
theorem Ef.ajt (e:Addr) (w:World):(ReflectliteValue.unpack (.iface 95 (.pointer (some e)))).run Tryz.prog w
  = .ok (.agg #[.pointer (some ⟨1,95,none⟩),.pointer (some ⟨w.heap.size,0,none⟩),.int .u64 150]) (w.alloc (.cells #[.pointer (some e)] 95)):=by kernel_rfl
theorem Ef.aj5 (w:World):(Rtype.elem? 97).run Tryz.prog w=.ok (some 95) w:=by kernel_rfl
theorem Ef.anZ (p:Addr) (w:World):(ReflectliteValue.mk 95 p ReflectliteValue.flagAddr).run Tryz.prog w=.ok (.agg #[.pointer (some ⟨1,95,none⟩),.pointer (some p),.int .u64 406]) w:=by kernel_rfl
theorem Ef.ale (a p:Addr) (W:World) (ha:W.cell? a=some (.pointer (some p))) :
  (ReflectliteValue.method (ReflectliteValue.valueError "reflectlite.Value.Elem" 0) ReflectliteValue.elem #[.agg #[.pointer (some ⟨1,97,none⟩),.pointer (some a),.int .u64 150]]).run Tryz.prog W
   = .ok (.agg #[.pointer (some ⟨1,95,none⟩),.pointer (some p),.int .u64 406]) W:=by
 rw [K6]
 simp only [Sem.run_bind,Ef.Z0,Result.andThen]
 simp [ReflectliteValue.elem,loadVar,isAgg,underlying,Tryz.underlying97,ha,Result.andThen,Ef.aj5,Ef.anZ]
theorem rls (v x:Value):ReflectliteValue.set #[v,x]=(do
  let (some (dst,a,fl),some (src,b,_)):=(← ReflectliteValue.parts v,← ReflectliteValue.parts x)
   | unsupported (.noEntry "extern/(internal/reflectlite.Value).Set.zeroValue")
  if fl / ReflectliteValue.flagAddr % 2 == 0 then unsupported (.noEntry "extern/(internal/reflectlite.Value).Set.unaddressable")
  let val ← loadVar src b
  if ← Rtype.directlyAssignable dst src then storeVar dst a val
  else if ← Rtype.implements dst src then
   if (← Rtype.kind src) == 20 then
    match val with
    | .nilIface=>unsupported (.noEntry "extern/reflectlite: a nil value of one interface type handed on as a value of another")
    | _=>storeVar dst a val
   else storeVar dst a (.iface src val)
  else panicString ("reflectlite.Set: value of type " ++ (← Rtype.spelt src) ++ " is not assignable to type " ++ (← Rtype.spelt dst))
  pure (.tuple #[])):=rfl
theorem Ef.aj6 (a:Addr) (w:World):(ReflectliteValue.parts (.agg #[.pointer (some ⟨1,95,none⟩),.pointer (some a),.int .u64 406])).run Tryz.prog w=.ok (some (95,a,406)) w:=by kernel_rfl
theorem Ef.alf (a:Addr) (w:World):(ReflectliteValue.parts (.agg #[.pointer (some ⟨1,95,none⟩),.pointer (some a),.int .u64 150])).run Tryz.prog w=.ok (some (95,a,150)) w:=by kernel_rfl
theorem Ef.aj7 (w:World):(Rtype.directlyAssignable 95 95).run Tryz.prog w=.ok true w:=by kernel_rfl
theorem Ef.ana (ta b e:Addr) (old:Value) (W:World) (hb:W.cell? b=some (.pointer (some e))) (ht:W.cell? ta=some old) (hf:W.frozen? ta=false) :
  (ReflectliteValue.set #[.agg #[.pointer (some ⟨1,95,none⟩),.pointer (some ta),.int .u64 406],.agg #[.pointer (some ⟨1,95,none⟩),.pointer (some b),.int .u64 150]]).run Tryz.prog W
   = .ok (.tuple #[]) (W.setCell ta (.pointer (some e))):=by
 rw [rls]
 simp only [Sem.run_bind,Ef.aj6,Ef.alf,Result.andThen]
 simp [ReflectliteValue.flagAddr,loadVar,isAgg,underlying,Tryz.underlying95,hb,Result.andThen,Ef.aj7,storeVar,Value.cells,storeCells,Addr.add]
 rw [run_store Tryz.prog W ta _ _ (by rfl)]
 simp [ht,hf]
set_option maxRecDepth 100000 in
set_option maxHeartbeats 4000000 in
theorem aml (e t:Addr) (old:Value) (w:World) (hg:w.cell? ⟨0,0,none⟩=some (.iface 196 (.agg #[.pointer (some ⟨1,33,none⟩)]))) (Gs:w.cell? t=some old) (T7:w.frozen? t=false) :
  Calls Tryz.prog 52 #[.iface 95 (.pointer (some e)),.iface 97 (.pointer (some t))] w fun ev w'=>ev=.returned (.bool true)∧w'=((((w.alloc (.cells #[.pointer (some t)] 97)).alloc (.cells #[.pointer (some ⟨1,97,none⟩),.pointer (some ⟨w.heap.size,0,none⟩),.int .u64 150] 149)).alloc (.cells #[.pointer (some ⟨1,97,none⟩),.pointer (some ⟨w.heap.size,0,none⟩),.int .u64 150] 149)).alloc (.cells #[.pointer (some e)] 95)).setCell t (.pointer (some e)):=by
 have h6:=@run_callFunc_extern Tryz.prog 85 _ (fun args=>ReflectliteValue.unpack (args.getD 0 (.tuple #[]))) Tryz.func85 (by kernel_rfl) (by kernel_rfl) (by kernel_rfl) (by kernel_rfl)
 have h7:=@run_callFunc_extern Tryz.prog 86 _ (ReflectliteValue.methodAny (ReflectliteValue.valueError "reflectlite.Value.Type" 0) (fun t _ _ _=>ReflectliteType.toType t)) Tryz.func86 (by kernel_rfl) (by kernel_rfl) (by kernel_rfl) (by kernel_rfl)
 have h8:=@run_callFunc_extern Tryz.prog 87 _ (ReflectliteValue.method (ReflectliteValue.valueError "reflectlite.Value.IsNil" 0) ReflectliteValue.isNil) Tryz.func87 (by kernel_rfl) (by kernel_rfl) (by kernel_rfl) (by kernel_rfl)
 have h27:=@run_callFunc_extern Tryz.prog 375 _ (ReflectliteType.abiMethod fun t=>do pure (.int .u8 (← Rtype.kind t))) Tryz.func375 (by kernel_rfl) (by kernel_rfl) (by kernel_rfl) (by kernel_rfl)
 have h37:=@run_callFunc_extern Tryz.prog 390 _ (ReflectliteType.method ReflectliteType.elem) Tryz.func390 (by kernel_rfl) (by kernel_rfl) (by kernel_rfl) (by kernel_rfl)
 have h38:=@run_callFunc_extern Tryz.prog 391 _ (ReflectliteType.relation "Implements" ReflectliteType.implements_) Tryz.func391 (by kernel_rfl) (by kernel_rfl) (by kernel_rfl) (by kernel_rfl)
 have Bp:=@run_callFunc_extern Tryz.prog 89 _ ReflectliteType.typeOf Tryz.func89 (by kernel_rfl) (by kernel_rfl) (by kernel_rfl) (by kernel_rfl)
 have h35:=@run_callFunc_extern Tryz.prog 388 _ (ReflectliteType.relation "AssignableTo" ReflectliteType.assignableTo) Tryz.func388 (by kernel_rfl) (by kernel_rfl) (by kernel_rfl) (by kernel_rfl)
 have Bq:=@run_callFunc_extern Tryz.prog 122 _ (ReflectliteValue.method (ReflectliteValue.valueError "reflectlite.Value.Elem" 0) ReflectliteValue.elem) Tryz.func122 (by kernel_rfl) (by kernel_rfl) (by kernel_rfl) (by kernel_rfl)
 have Gt:=@run_callFunc_extern Tryz.prog 123 _ ReflectliteValue.set Tryz.func123 (by kernel_rfl) (by kernel_rfl) (by kernel_rfl) (by kernel_rfl)
 have tO:=Ef.aj4
 have mA:=Ef.WH
 have a25:=Ef.ah1
 have v25:=Ef.ajt
 have f6:=Ef.ajs
 have f7:=Ef.type27
 have mK:=Ef.Yh
 have mE:=Ef.Ym
 have mI:=Ef.WM
 have k27:=Ef.ami
 have k25:=Ef.amj
 have e27:=Ef.amk
 have i25:=Ef.ah0
 have n8:=Ef.ald ⟨w.heap.size,0,none⟩ t ((w.alloc (.cells #[.pointer (some t)] 97)).alloc (.cells #[.pointer (some ⟨1,97,none⟩),.pointer (some ⟨w.heap.size,0,none⟩),.int .u64 150] 149)) (by simp)
 have cI:0<w.heap.size:=by
  rcases Nat.eq_zero_or_pos w.heap.size with h0 | h
  ·simp [World.cell?,h0] at hg
  ·exact h
 have hg2:((w.alloc (.cells #[.pointer (some t)] 97)).alloc (.cells #[.pointer (some ⟨1,97,none⟩),.pointer (some ⟨w.heap.size,0,none⟩),.int .u64 150] 149)).cell? ⟨0,0,none⟩=some (.iface 196 (.agg #[.pointer (some ⟨1,33,none⟩)])):=by
  rw [World.cell?_alloc_lt _ _ ⟨0,0,none⟩ (by simp),World.cell?_alloc_lt _ _ ⟨0,0,none⟩ cI]; exact hg
 have Br:t.block<w.heap.size:=by
  rcases Nat.lt_or_ge t.block w.heap.size with h | h
  ·exact h
  ·simp [World.cell?,Array.getElem?_eq_none h] at Gs
 have el:=Ef.ale ⟨w.heap.size,0,none⟩ t (((w.alloc (.cells #[.pointer (some t)] 97)).alloc (.cells #[.pointer (some ⟨1,97,none⟩),.pointer (some ⟨w.heap.size,0,none⟩),.int .u64 150] 149)).alloc (.cells #[.pointer (some ⟨1,97,none⟩),.pointer (some ⟨w.heap.size,0,none⟩),.int .u64 150] 149)) (by rw [World.cell?_alloc_lt _ _ ⟨w.heap.size,0,none⟩ (by simp; omega)]; simp)
 have st:=Ef.ana t ⟨w.heap.size+1+1+1,0,none⟩ e old ((((w.alloc (.cells #[.pointer (some t)] 97)).alloc (.cells #[.pointer (some ⟨1,97,none⟩),.pointer (some ⟨w.heap.size,0,none⟩),.int .u64 150] 149)).alloc (.cells #[.pointer (some ⟨1,97,none⟩),.pointer (some ⟨w.heap.size,0,none⟩),.int .u64 150] 149)).alloc (.cells #[.pointer (some e)] 95))
  (by rw [World.cell?_alloc_at _ _ _ _ (by simp)]; rfl)
  (by rw [World.cell?_alloc_lt _ _ t (by simp; omega),World.cell?_alloc_lt _ _ t (by simp; omega),World.cell?_alloc_lt _ _ t (by simp; omega),World.cell?_alloc_lt _ _ t Br]; exact Gs)
  (by rw [World.frozen?_alloc_old _ _ t (by simp; omega),World.frozen?_alloc_old _ _ t (by simp; omega),World.frozen?_alloc_old _ _ t (by simp; omega),World.frozen?_alloc_old _ _ t (Nat.ne_of_lt Br)]; exact T7)
 go_enter Tryz.func52,Tryz.ntmps52
 go_wp2
 refine wp_loop_rounds 1 ?_
 rw [rounds_succ]
 go_wp2
 go_ret
 exact ⟨rfl,rfl⟩
end Go.Proofs.YtpchgbolambkcaaGreatDoor
