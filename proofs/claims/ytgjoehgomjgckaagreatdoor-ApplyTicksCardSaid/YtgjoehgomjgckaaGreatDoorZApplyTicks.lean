/- THE STATEMENT 'ApplyTicks': Ticked twice it is as ticked to the later time at once, but for nothing; back it does not go; what is doomed goes just when its time has come. For every input the law returns true, where the package variable errors.errorType holds what the program's text lays. -/
import Derived.Test.YtgjoehgomjgckaaGreatDoorQ2
import Derived.Test.YtgjoehgomjgckaaGreatDoorQ6
import Derived.Test.YtgjoehgomjgckaaGreatDoorACfApplyTicksA
import Derived.Test.YtgjoehgomjgckaaGreatDoorACfApplyTicksB
namespace Go.Proofs.YtgjoehgomjgckaaGreatDoor.yS
open Go Go.Ev Go.ChangeShapes Go.WideShapes Go.ChangeAt Go.RowKit
theorem types:EE Tryz.prog Tryz.f4.params.toList=true:=by kernel_rfl
set_option maxRecDepth 100000 in
theorem akz (H:Type) (enc:TypeId×Value→H) (W:World) (base:Nat) (args:Array Value) (ds gs:List (DataW H)) (before:List MemPlace)
  (CJ:∀ (j:Nat) t v,Tryz.f4.params[j]? = some t→args[j]? = some v→Value.okWide Tryz.prog W .any base t v)
  (hW:DataW.Whole enc Tryz.prog Tryz.f4.params.toList Rows.applyTicksSpec.vars false W args.toList ds gs before) (hL:laidMetH Tryz.prog Rows.applyTicksRow.laid W) :
  Calls Tryz.prog 4 args W fun e W'=>∃ v,e=.returned v∧Rows.applyTicksSpec.post enc Tryz.prog Tryz.f4 false true false false W args v W':=by
 have Tu:=hW
 obtain ⟨p,q,hA,hV,rfl,hfz,At⟩:=hW
 rw [Tryz.params4] at hA CJ
 obtain ⟨v0,vs0,d0,ds0,p0,q0,arD,rfl,rfl,h0,r0⟩:=trodAll_cons hA
 obtain ⟨v1,vs1,d1,ds1,p1,q1,rfl,rfl,rfl,h1,r1⟩:=trodAll_cons r0
 obtain ⟨v2,vs2,d2,CZ,p2,q2,rfl,rfl,rfl,h2,r2⟩:=trodAll_cons r1
 obtain ⟨rfl,rfl,rfl⟩:=trodAll_nil r2
 obtain rfl:args=#[v0,v1,v2]:=by cases args; simp_all
 obtain ⟨a0,l0,rfl,g0,n0⟩:=ajk (CJ 0 22 v0 rfl rfl) h0
 obtain ⟨a1,rfl,rfl,rfl,w1⟩:=open_int Tryz.underlying3 (CJ 1 3 v1 rfl rfl) h1
 obtain ⟨a2,rfl,rfl,rfl,w2⟩:=open_int Tryz.underlying3 (CJ 2 3 v2 rfl rfl) h2
 refine Calls.mono (agH a0 l0 a1 a2 W (akW hL) g0 n0) ?_
 rintro _ W' ⟨_,rfl,rfl,m⟩
 exact ⟨_,rfl,ajA Tu m.below laidOut types (by kernel_rfl) Tryz.underlying4 rfl rfl⟩
theorem reads (os:Os) {H:Type} (enc:TypeId×Value→H):∃ places,DataW.whole enc Tryz.prog ((QK os).forCall (fun _ _=>0) ⟨#[],#[.slice none 0 0,.int .i64 0,.int .i64 0],[]⟩).memory Tryz.f4.params.toList Rows.applyTicksSpec.vars false (#[.slice none 0 0,.int .i64 0,.int .i64 0]:Array Value).toList 8=some ([.nil,.lit (.int .i64 0),.lit (.int .i64 0)],[],places):=
 ⟨[],by kernel_rfl⟩
set_option maxRecDepth 100000 in
theorem lifted (os:Os) (started:os.Started) (H:Type) (enc:TypeId×Value→H) (F:Stop.Interp) :
  ReturnsInHanded {} Tryz.checked os 4 .any ((OpenSpec.ofChange Rows.applyTicksSpec).preRow enc Tryz.prog Tryz.f4 Rows.applyTicksRow.domain false Rows.applyTicksRow.laid) (((OpenSpec.ofChange Rows.applyTicksSpec).at F).post enc Tryz.prog Tryz.f4 false true false false):=by
 obtain ⟨places,hx⟩:=reads os enc
 refine returnsInHanded_of_row (C:=Tryz.checked) (s:=OpenSpec.ofChange Rows.applyTicksSpec) own started (by kernel_rfl) Tryz.func4
  (witness_row_at (enc:=enc) (C:=Tryz.checked) false (QK os) #[.slice none 0 0,.int .i64 0,.int .i64 0] rfl (by kernel_rfl) (by kernel_rfl) (by kernel_rfl)
   (OpenSpec.preRow_of_cond 8 hx (by kernel_rfl) (fun k hk=>by cases hk) (by kernel_rfl) (afW os _))) ?_
 intro W base args ds gs before CJ hW _ _ _ hL _ _
 exact akz H enc W base args ds gs before CJ hW hL
theorem c1:laidOutB Tryz.pinned.checked.prog=true:=laidOut
theorem c2:mapsRowed Tryz.pinned.checked.prog=true:=by kernel_rfl
theorem closed:joinedFacts Tryz.pinned.checked.prog 4 Tryz.f4 (OpenSpec.ofChange Rows.applyTicksSpec).bare Rows.applyTicksRow=true:=by
 unfold joinedFacts
 rw [c1,c2,c3,c4,c5,c6]
 kernel_rfl
theorem said:Rows.ApplyTicksSaid:=
 OpenClaim.holds_of_cond 4 Tryz.f4 rfl rfl rfl rfl rfl rfl rfl ⟨rfl,rfl,rfl,rfl,rfl⟩ rfl rfl rfl rfl rfl (by kernel_rfl) Tryz.func4 closed
  (of_decide_eq_true (by kernel_rfl)) (by unfold Func.isWrapper; first | (rw [if_pos (by decide +kernel)]; kernel_rfl) | (rw [if_neg (by decide +kernel)]; exact ⟨rfl,rfl⟩))
  (fun os started H enc _ F=>by rw [OpenClaim.pre_eq_preRow]; exact lifted os started H enc F)
theorem plain (f:FuncId) (fn:Func) (hf:Tryz.pinned.checked.prog.funcNamed "chatelaine/chatelainelaw21.ApplyTicks"=some f) (hfn:Tryz.pinned.checked.prog.funcs[f]? = some fn) :
  true=Tryz.pinned.checked.prog.looks []∧∀ (j:Nat) t,fn.params[j]? = some t→Tryz.pinned.checked.prog.wantsStandIn t=false:=by
 obtain rfl:f=4:=Option.some.inj ((show Tryz.prog.funcNamed "chatelaine/chatelainelaw21.ApplyTicks"=some 4 by kernel_rfl).symm.trans hf) |>.symm
 obtain rfl:fn=Tryz.f4:=(Option.some.inj (Tryz.func4.symm.trans hfn)).symm
 refine ⟨by kernel_rfl,fun j t ht=>?_⟩
 have h:Tryz.f4.params.all (fun t=>!Tryz.prog.wantsStandIn t)=true:=by kernel_rfl
 show Tryz.prog.wantsStandIn t=false
 simpa using Array.all_eq_true_iff_forall_mem.1 h t (Array.mem_of_getElem? ht)
end Go.Proofs.YtgjoehgomjgckaaGreatDoor.yS
namespace Go.Proofs.YtgjoehgomjgckaaGreatDoor
open Go
theorem ApplyTicks_card:Rows.ApplyTicksCardSaid:=
 Claim7.holds_tied_plain_at .later [] _ _ _ _ yS.said (fun _ h=>by cases h) (by kernel_rfl) (fun _ h=>by cases h) applyTicks_row_tie rfl ⟨rfl,rfl⟩ (by kernel_rfl) rfl yS.plain (by kernel_rfl)
#print axioms ApplyTicks_card
end Go.Proofs.YtgjoehgomjgckaaGreatDoor
