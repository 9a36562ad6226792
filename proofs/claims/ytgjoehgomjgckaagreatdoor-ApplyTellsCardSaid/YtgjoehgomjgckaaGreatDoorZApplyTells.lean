/- Texts of this claim, packed and shortened. -/
import Derived.Test.YtgjoehgomjgckaaGreatDoorQ2
import Derived.Test.YtgjoehgomjgckaaGreatDoorQ7
import Derived.Test.YtgjoehgomjgckaaGreatDoorACfApplyTellsA
import Derived.Test.YtgjoehgomjgckaaGreatDoorACfApplyTellsB
namespace Go.Proofs.YtgjoehgomjgckaaGreatDoor.zD
open Go Go.Ev Go.ChangeShapes Go.WideShapes Go.ChangeAt Go.RowKit
theorem types:Ci Tryz.prog Tryz.f6.params.toList=true:=by kernel_rfl
set_option maxRecDepth 100000 in
theorem Lw(H:Type)(enc:TypeId × Value->H)(W:World)(base:Nat)(args:Array Value)(ds gs:List (DataW H))(before:List MemPlace)
  (qQ:∀(j:Nat) t v,Tryz.f6.params[j]? = some t->args[j]? = some v->Value.okWide Tryz.prog W .any base t v)
  (hW:DataW.Whole enc Tryz.prog Tryz.f6.params.toList Rows.applyTellsSpec.vars false W args.toList ds gs before) (hL:laidMetH Tryz.prog Rows.applyTellsRow.laid W) :
  Calls Tryz.prog 6 args W λe W'=>∃v,e=.returned v/\Rows.applyTellsSpec.post enc Tryz.prog Tryz.f6 false true false false W args v W':=by
 have Fa:=hW
 obtain⟨p,q,hA,hV,rfl,hfz,yS⟩:=hW
 rw[Tryz.params6]at hA qQ
 obtain⟨v0,vs0,d0,ds0,p0,q0,akH,rfl,rfl,h0,r0⟩:=trodAll_cons hA
 obtain⟨v1,vs1,d1,ds1,p1,q1,rfl,rfl,rfl,h1,r1⟩:=trodAll_cons r0
 obtain⟨rfl,rfl,rfl⟩:=trodAll_nil r1
 obtain rfl:args=#[v0,v1]:=by cases args;simp_all
 obtain⟨a0,l0,rfl,g0,n0⟩:=ah7 (qQ 0 35 v0 rfl rfl) h0
 obtain⟨a1,l1,m1,n1,rfl,g1⟩:=ah6 (qQ 1 27 v1 rfl rfl) h1
 refine Calls.mono (abP a0 l0 a1 l1 m1 n1 n0 W (Ub hL) g0 g1) ?_
 rintro _ W' ⟨_,rfl,rfl,m⟩
 exact⟨_,rfl,S3 Fa m.below laidOut types (by kernel_rfl) Tryz.underlying4 rfl rfl⟩
theorem reads(os:Os){H:Type}(enc:TypeId × Value->H):∃places,DataW.whole enc Tryz.prog ((DN os).forCall (λ_ _=>0) ⟨#[],#[.agg #[.int .i64 0,.slice none 0 0,.slice none 0 0,.slice none 0 0,.slice none 0 0,.slice none 0 0],.agg #[.int .i64 0,.int .i64 0,.int .i64 0,.int .i64 0,.int .i64 0,.int .i64 0,.int .i64 0,.int .i64 0,.int .i64 0,.int .i64 0,.int .i64 0,.string ⟨#[]⟩,.slice none 0 0,.slice none 0 0,.slice none 0 0,.bool false]],[]⟩).memory Tryz.f6.params.toList Rows.applyTellsSpec.vars false (#[.agg #[.int .i64 0,.slice none 0 0,.slice none 0 0,.slice none 0 0,.slice none 0 0,.slice none 0 0],.agg #[.int .i64 0,.int .i64 0,.int .i64 0,.int .i64 0,.int .i64 0,.int .i64 0,.int .i64 0,.int .i64 0,.int .i64 0,.int .i64 0,.int .i64 0,.string ⟨#[]⟩,.slice none 0 0,.slice none 0 0,.slice none 0 0,.bool false]]:Array Value).toList 8=some ([.agg [.lit (.int .i64 0),.nil,.nil,.nil,.nil,.nil],.agg [.agg [.lit (.int .i64 0),.lit (.int .i64 0),.lit (.int .i64 0),.lit (.int .i64 0),.lit (.int .i64 0),.lit (.int .i64 0),.lit (.int .i64 0),.lit (.int .i64 0),.lit (.int .i64 0),.lit (.int .i64 0),.lit (.int .i64 0),.lit (.string []),.nil,.nil],.nil,.lit (.bool false)]],[],places):=
 ⟨[],by kernel_rfl⟩
set_option maxRecDepth 100000 in
theorem lifted(os:Os)(started:os.Started)(H:Type)(enc:TypeId × Value->H)(F:Stop.Interp):
  ReturnsInHanded {} Tryz.checked os 6 .any ((OpenSpec.ofChange Rows.applyTellsSpec).preRow enc Tryz.prog Tryz.f6 Rows.applyTellsRow.domain false Rows.applyTellsRow.laid) (((OpenSpec.ofChange Rows.applyTellsSpec).at F).post enc Tryz.prog Tryz.f6 false true false false):=by
 obtain⟨places,hx⟩:=reads os enc
 refine returnsInHanded_of_row (C:=Tryz.checked) (s:=OpenSpec.ofChange Rows.applyTellsSpec) own started (by kernel_rfl) Tryz.func6
  (witness_row_at (enc:=enc) (C:=Tryz.checked) false (DN os) #[.agg #[.int .i64 0,.slice none 0 0,.slice none 0 0,.slice none 0 0,.slice none 0 0,.slice none 0 0],.agg #[.int .i64 0,.int .i64 0,.int .i64 0,.int .i64 0,.int .i64 0,.int .i64 0,.int .i64 0,.int .i64 0,.int .i64 0,.int .i64 0,.int .i64 0,.string ⟨#[]⟩,.slice none 0 0,.slice none 0 0,.slice none 0 0,.bool false]] rfl (by kernel_rfl) (by kernel_rfl) (by kernel_rfl)
   (OpenSpec.preRow_of_cond 8 hx (by kernel_rfl) (λk hk=>by cases hk) (by kernel_rfl) (Qj os _))) ?_
 intro W base args ds gs before qQ hW _ _ _ hL _ _
 exact Lw H enc W base args ds gs before qQ hW hL
theorem c1:laidOutB Tryz.pinned.checked.prog=true:=laidOut
theorem c2:mapsRowed Tryz.pinned.checked.prog=true:=by kernel_rfl
theorem closed:joinedFacts Tryz.pinned.checked.prog 6 Tryz.f6 (OpenSpec.ofChange Rows.applyTellsSpec).bare Rows.applyTellsRow=true:=by
 unfold joinedFacts
 rw[c1,c2,c3,c4,c5,c6]
 kernel_rfl
theorem said:Rows.ApplyTellsSaid:=
 OpenClaim.holds_of_cond 6 Tryz.f6 rfl rfl rfl rfl rfl rfl rfl ⟨rfl,rfl,rfl,rfl,rfl⟩ rfl rfl rfl rfl rfl (by kernel_rfl) Tryz.func6 closed
  (of_decide_eq_true (by kernel_rfl)) (by unfold Func.isWrapper;first|(rw[if_pos (by decide +kernel)];kernel_rfl)|(rw[if_neg (by decide +kernel)];exact⟨rfl,rfl⟩))
  (λos started H enc _ F=>by rw[OpenClaim.pre_eq_preRow];exact lifted os started H enc F)
theorem plain(f:FuncId)(fn:Func)(hf:Tryz.pinned.checked.prog.funcNamed "chatelaine/chatelainelaw21.ApplyTells"=some f)(ON:Tryz.pinned.checked.prog.funcs[f]? = some fn):
  true=Tryz.pinned.checked.prog.looks []/\∀(j:Nat) t,fn.params[j]? = some t->Tryz.pinned.checked.prog.wantsStandIn t=false:=by
 obtain rfl:f=6:=Option.some.inj ((show Tryz.prog.funcNamed "chatelaine/chatelainelaw21.ApplyTells"=some 6 by kernel_rfl).symm.trans hf) |>.symm
 obtain rfl:fn=Tryz.f6:=(Option.some.inj (Tryz.func6.symm.trans ON)).symm
 refine⟨by kernel_rfl,λj t ht=>?_⟩
 have h:Tryz.f6.params.all (λt=>!Tryz.prog.wantsStandIn t)=true:=by kernel_rfl
 show Tryz.prog.wantsStandIn t=false
 simpa using Array.all_eq_true_iff_forall_mem.1 h t (Array.mem_of_getElem? ht)
end Go.Proofs.YtgjoehgomjgckaaGreatDoor.zD
namespace Go.Proofs.YtgjoehgomjgckaaGreatDoor
open Go
theorem ApplyTells_card:Rows.ApplyTellsCardSaid:=
 Claim7.holds_tied_plain_at .later [] _ _ _ _ zD.said (λ_ h=>by cases h) (by kernel_rfl) (λ_ h=>by cases h) applyTells_row_tie rfl ⟨rfl,rfl⟩ (by kernel_rfl) rfl zD.plain (by kernel_rfl)
#print axioms ApplyTells_card
end Go.Proofs.YtgjoehgomjgckaaGreatDoor
