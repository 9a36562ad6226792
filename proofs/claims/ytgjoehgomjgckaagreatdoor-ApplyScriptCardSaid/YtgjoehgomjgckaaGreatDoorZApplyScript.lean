/- THE STATEMENT 'ApplyScript': From the first table on, whatever is asked, each request answers as the document says; the table may be throughout. For every input the law returns true, where the package variable errors.errorType holds what the program's text lays. -/
import Derived.Test.YtgjoehgomjgckaaGreatDoorQ2
import Derived.Test.YtgjoehgomjgckaaGreatDoorQ7
import Derived.Test.YtgjoehgomjgckaaGreatDoorACfApplyScriptA
import Derived.Test.YtgjoehgomjgckaaGreatDoorACfApplyScriptB
namespace Go.Proofs.YtgjoehgomjgckaaGreatDoor.zy
open Go Go.Ev Go.ChangeShapes Go.WideShapes Go.ChangeAt Go.RowKit
theorem types:Ci Tryz.prog Tryz.f7.params.toList=true:=by kernel_rfl
set_option maxRecDepth 100000 in
theorem Lw(H:Type)(enc:TypeId × Value->H)(W:World)(base:Nat)(args:Array Value)(ds gs:List (DataW H))(before:List MemPlace)
  (qQ:∀(j:Nat) t v,Tryz.f7.params[j]? = some t->args[j]? = some v->Value.okWide Tryz.prog W .any base t v)
  (hW:DataW.Whole enc Tryz.prog Tryz.f7.params.toList Rows.applyScriptSpec.vars false W args.toList ds gs before) (hL:laidMetH Tryz.prog Rows.applyScriptRow.laid W) :
  Calls Tryz.prog 7 args W λe W'=>∃v,e=.returned v/\Rows.applyScriptSpec.post enc Tryz.prog Tryz.f7 false true false false W args v W':=by
 have Fa:=hW
 obtain⟨p,q,hA,hV,rfl,hfz,yS⟩:=hW
 rw[Tryz.params7]at hA qQ
 obtain⟨v0,vs0,d0,ds0,p0,q0,akH,rfl,rfl,h0,r0⟩:=trodAll_cons hA
 obtain⟨rfl,rfl,rfl⟩:=trodAll_nil r0
 obtain rfl:args=#[v0]:=by cases args;simp_all
 obtain⟨a0,l0,rfl,g0,n0⟩:=agU (qQ 0 22 v0 rfl rfl) h0
 refine Calls.mono (aaH a0 l0 W (Ub hL) g0 n0) ?_
 rintro _ W' ⟨_,rfl,rfl,m⟩
 exact⟨_,rfl,S3 Fa m.below laidOut types (by kernel_rfl) Tryz.underlying4 rfl rfl⟩
theorem reads(os:Os){H:Type}(enc:TypeId × Value->H):∃places,DataW.whole enc Tryz.prog ((DN os).forCall (λ_ _=>0) ⟨#[],#[.slice none 0 0],[]⟩).memory Tryz.f7.params.toList Rows.applyScriptSpec.vars false (#[.slice none 0 0]:Array Value).toList 8=some ([.nil],[],places):=
 ⟨[],by kernel_rfl⟩
set_option maxRecDepth 100000 in
theorem lifted(os:Os)(started:os.Started)(H:Type)(enc:TypeId × Value->H)(F:Stop.Interp):
  ReturnsInHanded {} Tryz.checked os 7 .any ((OpenSpec.ofChange Rows.applyScriptSpec).preRow enc Tryz.prog Tryz.f7 Rows.applyScriptRow.domain false Rows.applyScriptRow.laid) (((OpenSpec.ofChange Rows.applyScriptSpec).at F).post enc Tryz.prog Tryz.f7 false true false false):=by
 obtain⟨places,hx⟩:=reads os enc
 refine returnsInHanded_of_row (C:=Tryz.checked) (s:=OpenSpec.ofChange Rows.applyScriptSpec) own started (by kernel_rfl) Tryz.func7
  (witness_row_at (enc:=enc) (C:=Tryz.checked) false (DN os) #[.slice none 0 0] rfl (by kernel_rfl) (by kernel_rfl) (by kernel_rfl)
   (OpenSpec.preRow_of_cond 8 hx (by kernel_rfl) (λk hk=>by cases hk) (by kernel_rfl) (Qj os _))) ?_
 intro W base args ds gs before qQ hW _ _ _ hL _ _
 exact Lw H enc W base args ds gs before qQ hW hL
theorem c1:laidOutB Tryz.pinned.checked.prog=true:=laidOut
theorem c2:mapsRowed Tryz.pinned.checked.prog=true:=by kernel_rfl
theorem closed:joinedFacts Tryz.pinned.checked.prog 7 Tryz.f7 (OpenSpec.ofChange Rows.applyScriptSpec).bare Rows.applyScriptRow=true:=by
 unfold joinedFacts
 rw[c1,c2,c3,c4,c5,c6]
 kernel_rfl
theorem said:Rows.ApplyScriptSaid:=
 OpenClaim.holds_of_cond 7 Tryz.f7 rfl rfl rfl rfl rfl rfl rfl ⟨rfl,rfl,rfl,rfl,rfl⟩ rfl rfl rfl rfl rfl (by kernel_rfl) Tryz.func7 closed
  (of_decide_eq_true (by kernel_rfl)) (by unfold Func.isWrapper;first|(rw[if_pos (by decide +kernel)];kernel_rfl)|(rw[if_neg (by decide +kernel)];exact⟨rfl,rfl⟩))
  (λos started H enc _ F=>by rw[OpenClaim.pre_eq_preRow];exact lifted os started H enc F)
theorem plain(f:FuncId)(fn:Func)(hf:Tryz.pinned.checked.prog.funcNamed "chatelaine/chatelainelaw21.ApplyScript"=some f)(ON:Tryz.pinned.checked.prog.funcs[f]? = some fn):
  true=Tryz.pinned.checked.prog.looks []/\∀(j:Nat) t,fn.params[j]? = some t->Tryz.pinned.checked.prog.wantsStandIn t=false:=by
 obtain rfl:f=7:=Option.some.inj ((show Tryz.prog.funcNamed "chatelaine/chatelainelaw21.ApplyScript"=some 7 by kernel_rfl).symm.trans hf) |>.symm
 obtain rfl:fn=Tryz.f7:=(Option.some.inj (Tryz.func7.symm.trans ON)).symm
 refine⟨by kernel_rfl,λj t ht=>?_⟩
 have h:Tryz.f7.params.all (λt=>!Tryz.prog.wantsStandIn t)=true:=by kernel_rfl
 show Tryz.prog.wantsStandIn t=false
 simpa using Array.all_eq_true_iff_forall_mem.1 h t (Array.mem_of_getElem? ht)
end Go.Proofs.YtgjoehgomjgckaaGreatDoor.zy
namespace Go.Proofs.YtgjoehgomjgckaaGreatDoor
open Go
theorem ApplyScript_card:Rows.ApplyScriptCardSaid:=
 Claim7.holds_tied_plain_at .later [] _ _ _ _ zy.said (λ_ h=>by cases h) (by kernel_rfl) (λ_ h=>by cases h) applyScript_row_tie rfl ⟨rfl,rfl⟩ (by kernel_rfl) rfl zy.plain (by kernel_rfl)
#print axioms ApplyScript_card
end Go.Proofs.YtgjoehgomjgckaaGreatDoor
