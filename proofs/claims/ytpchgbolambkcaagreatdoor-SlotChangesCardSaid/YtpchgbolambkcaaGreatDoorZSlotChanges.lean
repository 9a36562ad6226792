/- THE STATEMENT 'SlotChanges': A change's bytes are the document's; any bytes are read as a change, or refused; what was laid is read again. For every input the law returns true, where the package variable errors.errorType holds what the program's text lays. -/
import Derived.Test.YtpchgbolambkcaaGreatDoorQ2
import Derived.Test.YtpchgbolambkcaaGreatDoorQ7
import Derived.Test.YtpchgbolambkcaaGreatDoorACfSlotChangesC
import Derived.Test.YtpchgbolambkcaaGreatDoorACfSlotChangesE
namespace Go.Proofs.YtpchgbolambkcaaGreatDoor.qS
open Go Go.Ev Go.ChangeShapes Go.WideShapes Go.ChangeAt Go.RowKit
theorem types:vC Tryz.prog Tryz.f3.params.toList=true:=by kernel_rfl
set_option maxRecDepth 100000 in
theorem tJ (H:Type) (enc:TypeId×Value→H) (W:World) (base:Nat) (args:Array Value) (ds gs:List (DataW H)) (before:List MemPlace)
  (eY:∀ (j:Nat) t v,Tryz.f3.params[j]? = some t→args[j]? = some v→Value.okWide Tryz.prog W .any base t v)
  (hW:DataW.Whole enc Tryz.prog Tryz.f3.params.toList Rows.slotChangesSpec.vars false W args.toList ds gs before) (hL:laidMetH Tryz.prog Rows.slotChangesRow.laid W) :
  Calls Tryz.prog 3 args W fun e W'=>∃ v,e=.returned v∧Rows.slotChangesSpec.post enc Tryz.prog Tryz.f3 false true false false W args v W':=by
 have rE:=hW
 obtain ⟨p,q,hA,hV,rfl,HY,sK⟩:=hW
 rw [Tryz.params3] at hA eY
 obtain ⟨v0,HZ,d0,Ih,p0,q0,FM,rfl,rfl,h0,r0⟩:=trodAll_cons hA
 obtain ⟨v1,Im,d1,Io,p1,q1,rfl,rfl,rfl,h1,r1⟩:=trodAll_cons r0
 obtain ⟨rfl,rfl,rfl⟩:=trodAll_nil r1
 obtain rfl:args=#[v0,v1]:=by cases args; simp_all
 obtain ⟨a0,b0,l0,m0,k0,rfl,gA0,gB0,gC0,n0⟩:=aiT (eY 0 26 v0 rfl rfl) h0
 obtain ⟨a1,l1,rfl,g1,n1⟩:=ai5 Tryz.underlying22 Tryz.underlying5 (by kernel_rfl) (eY 1 22 v1 rfl rfl) h1
 refine Calls.mono (ahv a0 b0 a1 l0 m0 k0 l1 W (CP hL) gA0 gB0 gC0 g1 n0) ?_
 rintro _ W' ⟨_,rfl,rfl,m⟩
 exact ⟨_,rfl,CG rE m.below laidOut types (by kernel_rfl) Tryz.underlying4 rfl rfl⟩
theorem reads (os:Os) {H:Type} (enc:TypeId×Value→H):∃ places,DataW.whole enc Tryz.prog ((qW os).forCall (fun _ _=>0) ⟨#[],#[.agg #[.int .i64 0,.int .i64 0,.int .i64 0,.int .i64 0,.int .i64 0,.int .i64 0,.int .i64 0,.int .i64 0,.int .i64 0,.int .i64 0,.int .i64 0,.string ⟨#[]⟩,.slice none 0 0,.slice none 0 0,.slice none 0 0],.slice none 0 0],[]⟩).memory Tryz.f3.params.toList Rows.slotChangesSpec.vars false (#[.agg #[.int .i64 0,.int .i64 0,.int .i64 0,.int .i64 0,.int .i64 0,.int .i64 0,.int .i64 0,.int .i64 0,.int .i64 0,.int .i64 0,.int .i64 0,.string ⟨#[]⟩,.slice none 0 0,.slice none 0 0,.slice none 0 0],.slice none 0 0]:Array Value).toList 8=some ([.agg [.agg [.lit (.int .i64 0),.lit (.int .i64 0),.lit (.int .i64 0),.lit (.int .i64 0),.lit (.int .i64 0),.lit (.int .i64 0),.lit (.int .i64 0),.lit (.int .i64 0),.lit (.int .i64 0),.lit (.int .i64 0),.lit (.int .i64 0),.lit (.string []),.nil,.nil],.nil],.nil],[],places):=
 ⟨[],by kernel_rfl⟩
set_option maxRecDepth 100000 in
theorem lifted (os:Os) (started:os.Started) (H:Type) (enc:TypeId×Value→H) (F:Stop.Interp) :
  ReturnsInHanded {} Tryz.checked os 3 .any ((OpenSpec.ofChange Rows.slotChangesSpec).preRow enc Tryz.prog Tryz.f3 Rows.slotChangesRow.domain false Rows.slotChangesRow.laid) (((OpenSpec.ofChange Rows.slotChangesSpec).at F).post enc Tryz.prog Tryz.f3 false true false false):=by
 obtain ⟨places,hx⟩:=reads os enc
 refine returnsInHanded_of_row (C:=Tryz.checked) (s:=OpenSpec.ofChange Rows.slotChangesSpec) own started (by kernel_rfl) Tryz.func3
  (witness_row_at (enc:=enc) (C:=Tryz.checked) false (qW os) #[.agg #[.int .i64 0,.int .i64 0,.int .i64 0,.int .i64 0,.int .i64 0,.int .i64 0,.int .i64 0,.int .i64 0,.int .i64 0,.int .i64 0,.int .i64 0,.string ⟨#[]⟩,.slice none 0 0,.slice none 0 0,.slice none 0 0],.slice none 0 0] rfl (by kernel_rfl) (by kernel_rfl) (by kernel_rfl)
   (OpenSpec.preRow_of_cond 8 hx (by kernel_rfl) (fun k hk=>by cases hk) (by kernel_rfl) (B6 os _))) ?_
 intro W base args ds gs before eY hW _ _ _ hL _ _
 exact tJ H enc W base args ds gs before eY hW hL
theorem said:Rows.SlotChangesSaid:=
 OpenClaim.holds_of_cond 3 Tryz.f3 rfl rfl rfl rfl rfl rfl rfl ⟨rfl,rfl,rfl,rfl,rfl⟩ rfl rfl rfl rfl rfl (by kernel_rfl) Tryz.func3 closed
  (of_decide_eq_true (by kernel_rfl)) (by unfold Func.isWrapper; first | (rw [if_pos (by decide +kernel)]; kernel_rfl) | (rw [if_neg (by decide +kernel)]; exact ⟨rfl,rfl⟩))
  (fun os started H enc _ F=>by rw [OpenClaim.pre_eq_preRow]; exact lifted os started H enc F)
end Go.Proofs.YtpchgbolambkcaaGreatDoor.qS
namespace Go.Proofs.YtpchgbolambkcaaGreatDoor
open Go
theorem SlotChanges_card:Rows.SlotChangesCardSaid:=qS.tK qS.said
#print axioms SlotChanges_card
end Go.Proofs.YtpchgbolambkcaaGreatDoor
