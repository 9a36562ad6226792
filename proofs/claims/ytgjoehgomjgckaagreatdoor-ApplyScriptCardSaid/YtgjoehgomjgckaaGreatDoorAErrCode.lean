/- Texts of this claim, packed and shortened. -/
import Derived.Test.YtgjoehgomjgckaaGreatDoorAErrAs
import Derived.Test.YtgjoehgomjgckaaGreatDoorAErrIs
namespace Go.Proofs.YtgjoehgomjgckaaGreatDoor
open Go.RowKit Go.Extern.Stop Go.Stop Go.Extern
theorem Ec.ag1(t:Addr)(w:World):(ReflectliteValue.unpack (.iface 114 (.pointer (some t)))).run Tryz.prog w
  = .ok (.agg #[.pointer (some ⟨1,114,none⟩),.pointer (some ⟨w.heap.size,0,none⟩),.int .u64 150]) (w.alloc (.cells #[.pointer (some t)] 114)):=by kernel_rfl
theorem Ec.ajW(a:Addr)(w:World):(ReflectliteValue.methodAny (ReflectliteValue.valueError "reflectlite.Value.Type" 0) (λt _ _ _=>ReflectliteType.toType t) #[.agg #[.pointer (some ⟨1,114,none⟩),.pointer (some a),.int .u64 150]]).run Tryz.prog w
  = .ok (.iface 183 (.agg #[.pointer (some ⟨1,114,none⟩)])) w:=by kernel_rfl
theorem Ec.ajX(w:World):((ReflectliteType.abiMethod λt=>(λa:Nat=>Value.int IntKind.u8 (a:Int)) <$> Rtype.kind t) #[.pointer (some ⟨1,114,none⟩)]).run Tryz.prog w=.ok (.int .u8 22) w:=by kernel_rfl
theorem Ec.ajY(w:World):((ReflectliteType.abiMethod λt=>(λa:Nat=>Value.int IntKind.u8 (a:Int)) <$> Rtype.kind t) #[.pointer (some ⟨1,37,none⟩)]).run Tryz.prog w=.ok (.int .u8 2) w:=by kernel_rfl
theorem Ec.UK(a:Addr)(w:World):(ReflectliteValue.parts (.agg #[.pointer (some ⟨1,114,none⟩),.pointer (some a),.int .u64 150])).run Tryz.prog w=.ok (some (114,a,150)) w:=by kernel_rfl
theorem Ec.ai7(a p:Addr)(W:World)(ha:W.cell? a=some (.pointer (some p))):
  (ReflectliteValue.method (ReflectliteValue.valueError "reflectlite.Value.IsNil" 0) ReflectliteValue.isNil #[.agg #[.pointer (some ⟨1,114,none⟩),.pointer (some a),.int .u64 150]]).run Tryz.prog W=.ok (.bool false) W:=by
 rw[IU]
 simp only[Sem.run_bind,Ec.UK,Result.andThen]
 simp[ReflectliteValue.isNil,loadVar,isAgg,underlying,Tryz.underlying114,ha,Result.andThen]
theorem Ec.ajZ(w:World):(ReflectliteType.method ReflectliteType.elem #[.agg #[.pointer (some ⟨1,114,none⟩)]]).run Tryz.prog w=.ok (.iface 183 (.agg #[.pointer (some ⟨1,37,none⟩)])) w:=by kernel_rfl
theorem Ec.acZ(w:World):(ReflectliteType.relation "Implements" ReflectliteType.implements_ #[.agg #[.pointer (some ⟨1,37,none⟩)],.iface 183 (.agg #[.pointer (some ⟨1,41,none⟩)])]).run Tryz.prog w=.ok (.bool true) w:=by kernel_rfl
theorem Ec.abS(w:World):(ReflectliteType.relation "AssignableTo" ReflectliteType.assignableTo #[.agg #[.pointer (some ⟨1,85,none⟩)],.iface 183 (.agg #[.pointer (some ⟨1,37,none⟩)])]).run Tryz.prog w=.ok (.bool false) w:=by kernel_rfl
theorem Ec.abT(w:World):(ReflectliteType.relation "AssignableTo" ReflectliteType.assignableTo #[.agg #[.pointer (some ⟨1,37,none⟩)],.iface 183 (.agg #[.pointer (some ⟨1,37,none⟩)])]).run Tryz.prog w=.ok (.bool true) w:=by kernel_rfl
theorem Ec.aj0(v:Value)(xT:TypeId)(w:World):(Instr.typeAssert (.iface 85 v) xT 187 true).run Tryz.prog w=.ok (.tuple #[.nilIface,.bool false]) w:=run_typeAssert_lacksB Tryz.underlying187 (by kernel_rfl) (by kernel_rfl) v xT w
theorem Ec.ag2(c:Int)(w:World):(ReflectliteValue.unpack (.iface 37 (.int .i64 c))).run Tryz.prog w
  = .ok (.agg #[.pointer (some ⟨1,37,none⟩),.pointer (some ⟨w.heap.size,0,none⟩),.int .u64 130]) (w.alloc (.cells #[.int .i64 c] 37)):=by kernel_rfl
theorem Ec.aib(w:World):(Rtype.elem? 114).run Tryz.prog w=.ok (some 37) w:=by kernel_rfl
theorem Ec.mkE(p:Addr)(w:World):(ReflectliteValue.mk 37 p ReflectliteValue.flagAddr).run Tryz.prog w=.ok (.agg #[.pointer (some ⟨1,37,none⟩),.pointer (some p),.int .u64 386]) w:=by kernel_rfl
theorem Ec.ai8(a p:Addr)(W:World)(ha:W.cell? a=some (.pointer (some p))):
  (ReflectliteValue.method (ReflectliteValue.valueError "reflectlite.Value.Elem" 0) ReflectliteValue.elem #[.agg #[.pointer (some ⟨1,114,none⟩),.pointer (some a),.int .u64 150]]).run Tryz.prog W
   = .ok (.agg #[.pointer (some ⟨1,37,none⟩),.pointer (some p),.int .u64 386]) W:=by
 rw[IU]
 simp only[Sem.run_bind,Ec.UK,Result.andThen]
 simp[ReflectliteValue.elem,loadVar,isAgg,underlying,Tryz.underlying114,ha,Result.andThen,Ec.aib,Ec.mkE]
theorem Ec.aic(a:Addr)(w:World):(ReflectliteValue.parts (.agg #[.pointer (some ⟨1,37,none⟩),.pointer (some a),.int .u64 386])).run Tryz.prog w=.ok (some (37,a,386)) w:=by kernel_rfl
theorem Ec.ai9(a:Addr)(w:World):(ReflectliteValue.parts (.agg #[.pointer (some ⟨1,37,none⟩),.pointer (some a),.int .u64 130])).run Tryz.prog w=.ok (some (37,a,130)) w:=by kernel_rfl
theorem Ec.aie(w:World):(Rtype.directlyAssignable 37 37).run Tryz.prog w=.ok true w:=by kernel_rfl
theorem Ec.akJ(ta b:Addr)(c:Int)(old:Value)(W:World)(hb:W.cell? b=some (.int .i64 c))(ht:W.cell? ta=some old)(hf:W.frozen? ta=false):
  (ReflectliteValue.set #[.agg #[.pointer (some ⟨1,37,none⟩),.pointer (some ta),.int .u64 386],.agg #[.pointer (some ⟨1,37,none⟩),.pointer (some b),.int .u64 130]]).run Tryz.prog W
   = .ok (.tuple #[]) (W.setCell ta (.int .i64 c)):=by
 rw[Wq]
 simp only[Sem.run_bind,Ec.aic,Ec.ai9,Result.andThen]
 simp[ReflectliteValue.flagAddr,loadVar,isAgg,underlying,Tryz.underlying37,hb,Result.andThen,Ec.aie,storeVar,Value.cells,storeCells,Addr.add]
 rw[run_store Tryz.prog W ta _ _ (by rfl)]
 simp[ht,hf]
theorem Ec.aif(v:Value)(w:World):(ReflectliteType.typeOf #[.iface 85 v]).run Tryz.prog w=.ok (.iface 183 (.agg #[.pointer (some ⟨1,85,none⟩)])) w:=by kernel_rfl
set_option maxRecDepth 100000 in
set_option maxHeartbeats 4000000 in
theorem aih(b:Nat)(c:Int)(t:Addr)(old:Value)(w:World)(hg:w.cell? ⟨0,0,none⟩=some (.iface 183 (.agg #[.pointer (some ⟨1,41,none⟩)])))(hc:w.cell? ⟨b,0,none⟩=some (.int .i64 c))(EZ:w.cell? t=some old)(Nu:w.frozen? t=false):
  Calls Tryz.prog 32 #[.iface 85 (.pointer (some ⟨b,0,none⟩)),.iface 114 (.pointer (some t))] w λev w'=>ev=.returned (.bool true)/\w'=((((w.alloc (.cells #[.pointer (some t)] 114)).alloc (.cells #[.pointer (some ⟨1,114,none⟩),.pointer (some ⟨w.heap.size,0,none⟩),.int .u64 150] 118)).alloc (.cells #[.pointer (some ⟨1,114,none⟩),.pointer (some ⟨w.heap.size,0,none⟩),.int .u64 150] 118)).alloc (.cells #[.int .i64 c] 37)).setCell t (.int .i64 c):=by
 have h6:=@run_callFunc_extern Tryz.prog 61 _ (λargs=>ReflectliteValue.unpack (args.getD 0 (.tuple #[]))) Tryz.func61 (by kernel_rfl) (by kernel_rfl) (by kernel_rfl) (by kernel_rfl)
 have h7:=@run_callFunc_extern Tryz.prog 62 _ (ReflectliteValue.methodAny (ReflectliteValue.valueError "reflectlite.Value.Type" 0) (λt _ _ _=>ReflectliteType.toType t)) Tryz.func62 (by kernel_rfl) (by kernel_rfl) (by kernel_rfl) (by kernel_rfl)
 have h8:=@run_callFunc_extern Tryz.prog 63 _ (ReflectliteValue.method (ReflectliteValue.valueError "reflectlite.Value.IsNil" 0) ReflectliteValue.isNil) Tryz.func63 (by kernel_rfl) (by kernel_rfl) (by kernel_rfl) (by kernel_rfl)
 have h27:=@run_callFunc_extern Tryz.prog 316 _ (ReflectliteType.abiMethod λt=>do pure (.int .u8 (<- Rtype.kind t))) Tryz.func316 (by kernel_rfl) (by kernel_rfl) (by kernel_rfl) (by kernel_rfl)
 have h37:=@run_callFunc_extern Tryz.prog 328 _ (ReflectliteType.method ReflectliteType.elem) Tryz.func328 (by kernel_rfl) (by kernel_rfl) (by kernel_rfl) (by kernel_rfl)
 have h38:=@run_callFunc_extern Tryz.prog 329 _ (ReflectliteType.relation "Implements" ReflectliteType.implements_) Tryz.func329 (by kernel_rfl) (by kernel_rfl) (by kernel_rfl) (by kernel_rfl)
 have jr:=@run_callFunc_extern Tryz.prog 65 _ ReflectliteType.typeOf Tryz.func65 (by kernel_rfl) (by kernel_rfl) (by kernel_rfl) (by kernel_rfl)
 have h35:=@run_callFunc_extern Tryz.prog 326 _ (ReflectliteType.relation "AssignableTo" ReflectliteType.assignableTo) Tryz.func326 (by kernel_rfl) (by kernel_rfl) (by kernel_rfl) (by kernel_rfl)
 have yP:=@run_callFunc_extern Tryz.prog 121 _ (ReflectliteValue.method (ReflectliteValue.valueError "reflectlite.Value.Elem" 0) ReflectliteValue.elem) Tryz.func121 (by kernel_rfl) (by kernel_rfl) (by kernel_rfl) (by kernel_rfl)
 have iC:=@run_callFunc_extern Tryz.prog 122 _ ReflectliteValue.set Tryz.func122 (by kernel_rfl) (by kernel_rfl) (by kernel_rfl) (by kernel_rfl)
 have tF:=Ec.aif
 have tE:=Ef.Ld
 have mA:=Ef.O3
 have aFE:=Ec.abS
 have aEE:=Ec.abT
 have nA:=Ec.aj0
 have uW:=Ef.KG
 have mU:=Ef.J9
 have vE:=Ec.ag2
 have vP:=Ec.ag1
 have f7:=Ec.ajW
 have mK:=Ef.Rm
 have mE:=Ef.Rn
 have mI:=Ef.O8
 have kP:=Ec.ajX
 have kE:=Ec.ajY
 have eP:=Ec.ajZ
 have iE:=Ec.acZ
 have n8:=Ec.ai7 ⟨w.heap.size,0,none⟩ t ((w.alloc (.cells #[.pointer (some t)] 114)).alloc (.cells #[.pointer (some ⟨1,114,none⟩),.pointer (some ⟨w.heap.size,0,none⟩),.int .u64 150] 118)) (by simp)
 have bB:0<w.heap.size:=by
  rcases Nat.eq_zero_or_pos w.heap.size with h0|h
  ·simp[World.cell?,h0]at hg
  ·exact h
 have hg2:((w.alloc (.cells #[.pointer (some t)] 114)).alloc (.cells #[.pointer (some ⟨1,114,none⟩),.pointer (some ⟨w.heap.size,0,none⟩),.int .u64 150] 118)).cell? ⟨0,0,none⟩=some (.iface 183 (.agg #[.pointer (some ⟨1,41,none⟩)])):=by
  rw[World.cell?_alloc_lt _ _ ⟨0,0,none⟩ (by simp),World.cell?_alloc_lt _ _ ⟨0,0,none⟩ bB];exact hg
 have AE:t.block<w.heap.size:=by
  rcases Nat.lt_or_ge t.block w.heap.size with h|h
  ·exact h
  ·simp[World.cell?,Array.getElem?_eq_none h]at EZ
 have fc:b<w.heap.size:=by
  rcases Nat.lt_or_ge b w.heap.size with h|h
  ·exact h
  ·simp[World.cell?,Array.getElem?_eq_none h]at hc
 have Wr:(((w.alloc (.cells #[.pointer (some t)] 114)).alloc (.cells #[.pointer (some ⟨1,114,none⟩),.pointer (some ⟨w.heap.size,0,none⟩),.int .u64 150] 118)).alloc (.cells #[.pointer (some ⟨1,114,none⟩),.pointer (some ⟨w.heap.size,0,none⟩),.int .u64 150] 118)).cell? ⟨b,0,none⟩=some (.int .i64 c):=by
  rw[World.cell?_alloc_lt _ _ ⟨b,0,none⟩ (by simp;omega),World.cell?_alloc_lt _ _ ⟨b,0,none⟩ (by simp;omega),World.cell?_alloc_lt _ _ ⟨b,0,none⟩ fc];exact hc
 have el:=Ec.ai8 ⟨w.heap.size,0,none⟩ t (((w.alloc (.cells #[.pointer (some t)] 114)).alloc (.cells #[.pointer (some ⟨1,114,none⟩),.pointer (some ⟨w.heap.size,0,none⟩),.int .u64 150] 118)).alloc (.cells #[.pointer (some ⟨1,114,none⟩),.pointer (some ⟨w.heap.size,0,none⟩),.int .u64 150] 118)) (by rw[World.cell?_alloc_lt _ _ ⟨w.heap.size,0,none⟩ (by simp;omega)];simp)
 have st:=Ec.akJ t ⟨w.heap.size+1+1+1,0,none⟩ c old ((((w.alloc (.cells #[.pointer (some t)] 114)).alloc (.cells #[.pointer (some ⟨1,114,none⟩),.pointer (some ⟨w.heap.size,0,none⟩),.int .u64 150] 118)).alloc (.cells #[.pointer (some ⟨1,114,none⟩),.pointer (some ⟨w.heap.size,0,none⟩),.int .u64 150] 118)).alloc (.cells #[.int .i64 c] 37))
  (by rw[World.cell?_alloc_at _ _ _ _ (by simp)];rfl)
  (by rw[World.cell?_alloc_lt _ _ t (by simp;omega),World.cell?_alloc_lt _ _ t (by simp;omega),World.cell?_alloc_lt _ _ t (by simp;omega),World.cell?_alloc_lt _ _ t AE];exact EZ)
  (by rw[World.frozen?_alloc_old _ _ t (by simp;omega),World.frozen?_alloc_old _ _ t (by simp;omega),World.frozen?_alloc_old _ _ t (by simp;omega),World.frozen?_alloc_old _ _ t (Nat.ne_of_lt AE)];exact Nu)
 go_enter Tryz.func32,Tryz.ntmps32
 go_wp2
 refine wp_loop_rounds 2 ?_
 rw[rounds_succ]
 go_wp2
 rw[rounds_succ]
 go_wp2
 go_ret
 exact⟨rfl,rfl⟩
end Go.Proofs.YtgjoehgomjgckaaGreatDoor
