/- THE STATEMENT 'ApplyApart': A request that is taken changes what it asks for, and its person's nonces, and nothing else. For every input the law returns true, where the package variable errors.errorType holds what the program's text lays. -/
import Derived.Test.YtgjoehgomjgckaaGreatDoorQ2
import Derived.Test.YtgjoehgomjgckaaGreatDoorQ6
import Derived.Test.YtgjoehgomjgckaaGreatDoorQ7
import Derived.Test.YtgjoehgomjgckaaGreatDoorACfApplyApartA
import Derived.Test.YtgjoehgomjgckaaGreatDoorACfApplyApartB
namespace Go.Proofs.YtgjoehgomjgckaaGreatDoor.yJ
open Go Go.Ev Go.ChangeShapes Go.WideShapes Go.ChangeAt Go.RowKit
theorem types:Es Tryz.prog Tryz.f5.params.toList=true:=by kernel_rfl
set_option maxRecDepth 100000 in
theorem akx (H:Type) (enc:TypeId×Value→H) (W:World) (base:Nat) (args:Array Value) (ds gs:List (DataW H)) (before:List MemPlace)
  (Fy:∀ (j:Nat) t v,Tryz.f5.params[j]? = some t→args[j]? = some v→Value.okWide Tryz.prog W .any base t v)
  (hW:DataW.Whole enc Tryz.prog Tryz.f5.params.toList Rows.applyApartSpec.vars false W args.toList ds gs before) (hL:laidMetH Tryz.prog Rows.applyApartRow.laid W) :
  Calls Tryz.prog 5 args W fun e W'=>∃ v,e=.returned v∧Rows.applyApartSpec.post enc Tryz.prog Tryz.f5 false true false false W args v W':=by
 have Tq:=hW
 obtain ⟨p,q,hA,hV,rfl,hfz,An⟩:=hW
 rw [Tryz.params5] at hA Fy
 obtain ⟨v0,vs0,d0,ds0,p0,q0,arj,rfl,rfl,h0,r0⟩:=trodAll_cons hA
 obtain ⟨v1,vs1,d1,ds1,p1,q1,rfl,rfl,rfl,h1,r1⟩:=trodAll_cons r0
 obtain ⟨rfl,rfl,rfl⟩:=trodAll_nil r1
 obtain rfl:args=#[v0,v1]:=by cases args; simp_all
 obtain ⟨a0,l0,rfl,g0,n0⟩:=ajk (Fy 0 22 v0 rfl rfl) h0
 obtain ⟨a1,l1,m1,n1,rfl,g1⟩:=akw (Fy 1 27 v1 rfl rfl) h1
 refine Calls.mono (agI a0 l0 a1 l1 m1 n1 W (akU hL) g0 n0 g1) ?_
 rintro _ W' ⟨_,rfl,rfl,m⟩
 exact ⟨_,rfl,ajA Tq m.below laidOut types (by kernel_rfl) Tryz.underlying4 rfl rfl⟩
theorem reads (os:Os) {H:Type} (enc:TypeId×Value→H):∃ places,DataW.whole enc Tryz.prog ((QB os).forCall (fun _ _=>0) ⟨#[],#[.slice none 0 0,.agg #[.int .i64 0,.int .i64 0,.int .i64 0,.int .i64 0,.int .i64 0,.int .i64 0,.int .i64 0,.int .i64 0,.int .i64 0,.int .i64 0,.int .i64 0,.string ⟨#[]⟩,.slice none 0 0,.slice none 0 0,.slice none 0 0,.bool false]],[]⟩).memory Tryz.f5.params.toList Rows.applyApartSpec.vars false (#[.slice none 0 0,.agg #[.int .i64 0,.int .i64 0,.int .i64 0,.int .i64 0,.int .i64 0,.int .i64 0,.int .i64 0,.int .i64 0,.int .i64 0,.int .i64 0,.int .i64 0,.string ⟨#[]⟩,.slice none 0 0,.slice none 0 0,.slice none 0 0,.bool false]]:Array Value).toList 8=some ([.nil,.agg [.agg [.lit (.int .i64 0),.lit (.int .i64 0),.lit (.int .i64 0),.lit (.int .i64 0),.lit (.int .i64 0),.lit (.int .i64 0),.lit (.int .i64 0),.lit (.int .i64 0),.lit (.int .i64 0),.lit (.int .i64 0),.lit (.int .i64 0),.lit (.string []),.nil,.nil],.nil,.lit (.bool false)]],[],places):=
 ⟨[],by kernel_rfl⟩
set_option maxRecDepth 100000 in
theorem lifted (os:Os) (started:os.Started) (H:Type) (enc:TypeId×Value→H) (F:Stop.Interp) :
  ReturnsInHanded {} Tryz.checked os 5 .any ((OpenSpec.ofChange Rows.applyApartSpec).preRow enc Tryz.prog Tryz.f5 Rows.applyApartRow.domain false Rows.applyApartRow.laid) (((OpenSpec.ofChange Rows.applyApartSpec).at F).post enc Tryz.prog Tryz.f5 false true false false):=by
 obtain ⟨places,hx⟩:=reads os enc
 refine returnsInHanded_of_row (C:=Tryz.checked) (s:=OpenSpec.ofChange Rows.applyApartSpec) own started (by kernel_rfl) Tryz.func5
  (witness_row_at (enc:=enc) (C:=Tryz.checked) false (QB os) #[.slice none 0 0,.agg #[.int .i64 0,.int .i64 0,.int .i64 0,.int .i64 0,.int .i64 0,.int .i64 0,.int .i64 0,.int .i64 0,.int .i64 0,.int .i64 0,.int .i64 0,.string ⟨#[]⟩,.slice none 0 0,.slice none 0 0,.slice none 0 0,.bool false]] rfl (by kernel_rfl) (by kernel_rfl) (by kernel_rfl)
   (OpenSpec.preRow_of_cond 8 hx (by kernel_rfl) (fun k hk=>by cases hk) (by kernel_rfl) (afW os _))) ?_
 intro W base args ds gs before Fy hW _ _ _ hL _ _
 exact akx H enc W base args ds gs before Fy hW hL
theorem c1:laidOutB Tryz.pinned.checked.prog=true:=laidOut
theorem c2:mapsRowed Tryz.pinned.checked.prog=true:=by kernel_rfl
theorem closed:joinedFacts Tryz.pinned.checked.prog 5 Tryz.f5 (OpenSpec.ofChange Rows.applyApartSpec).bare Rows.applyApartRow=true:=by
 unfold joinedFacts
 rw [c1,c2,c3,c4,c5,c6]
 kernel_rfl
theorem said:Rows.ApplyApartSaid:=
 OpenClaim.holds_of_cond 5 Tryz.f5 rfl rfl rfl rfl rfl rfl rfl ⟨rfl,rfl,rfl,rfl,rfl⟩ rfl rfl rfl rfl rfl (by kernel_rfl) Tryz.func5 closed
  (of_decide_eq_true (by kernel_rfl)) (by unfold Func.isWrapper; first | (rw [if_pos (by decide +kernel)]; kernel_rfl) | (rw [if_neg (by decide +kernel)]; exact ⟨rfl,rfl⟩))
  (fun os started H enc _ F=>by rw [OpenClaim.pre_eq_preRow]; exact lifted os started H enc F)
theorem plain (f:FuncId) (fn:Func) (hf:Tryz.pinned.checked.prog.funcNamed "chatelaine/chatelainelaw21.ApplyApart"=some f) (hfn:Tryz.pinned.checked.prog.funcs[f]? = some fn) :
  true=Tryz.pinned.checked.prog.looks []∧∀ (j:Nat) t,fn.params[j]? = some t→Tryz.pinned.checked.prog.wantsStandIn t=false:=by
 obtain rfl:f=5:=Option.some.inj ((show Tryz.prog.funcNamed "chatelaine/chatelainelaw21.ApplyApart"=some 5 by kernel_rfl).symm.trans hf) |>.symm
 obtain rfl:fn=Tryz.f5:=(Option.some.inj (Tryz.func5.symm.trans hfn)).symm
 refine ⟨by kernel_rfl,fun j t ht=>?_⟩
 have h:Tryz.f5.params.all (fun t=>!Tryz.prog.wantsStandIn t)=true:=by kernel_rfl
 show Tryz.prog.wantsStandIn t=false
 simpa using Array.all_eq_true_iff_forall_mem.1 h t (Array.mem_of_getElem? ht)
end Go.Proofs.YtgjoehgomjgckaaGreatDoor.yJ
namespace Go.Proofs.YtgjoehgomjgckaaGreatDoor
open Go
theorem ApplyApart_card:Rows.ApplyApartCardSaid:=
 Claim7.holds_tied_plain_at .later [] _ _ _ _ yJ.said (fun _ h=>by cases h) (by kernel_rfl) (fun _ h=>by cases h) applyApart_row_tie rfl ⟨rfl,rfl⟩ (by kernel_rfl) rfl yJ.plain (by kernel_rfl)
#print axioms ApplyApart_card
end Go.Proofs.YtgjoehgomjgckaaGreatDoor
