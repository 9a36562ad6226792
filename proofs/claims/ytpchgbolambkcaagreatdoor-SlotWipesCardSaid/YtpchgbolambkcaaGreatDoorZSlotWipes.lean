/- Texts of this claim, packed and shortened. -/
import Derived.Test.YtpchgbolambkcaaGreatDoorQ2
import Derived.Test.YtpchgbolambkcaaGreatDoorQ6
import Derived.Test.YtpchgbolambkcaaGreatDoorQ7
import Derived.Test.YtpchgbolambkcaaGreatDoorACfSlotWipesC
import Derived.Test.YtpchgbolambkcaaGreatDoorACfSlotWipesE
namespace Go.Proofs.YtpchgbolambkcaaGreatDoor.qT
open Go Go.Ev Go.ChangeShapes Go.WideShapes Go.ChangeAt Go.RowKit
theorem types:vC Tryz.prog Tryz.f7.params.toList=true:=by kernel_rfl
set_option maxRecDepth 100000 in
theorem tJ (H:Type) (enc:TypeId×Value→H) (W:World) (base:Nat) (args:Array Value) (ds gs:List (DataW H)) (before:List MemPlace)
  (eY:∀ (j:Nat) t v,Tryz.f7.params[j]? = some t→args[j]? = some v→Value.okWide Tryz.prog W .any base t v)
  (hW:DataW.Whole enc Tryz.prog Tryz.f7.params.toList Rows.slotWipesSpec.vars false W args.toList ds gs before) (hL:laidMetH Tryz.prog Rows.slotWipesRow.laid W) :
  Calls Tryz.prog 7 args W fun e W'=>∃ v,e=.returned v∧Rows.slotWipesSpec.post enc Tryz.prog Tryz.f7 false true false false W args v W':=by
 have rE:=hW
 obtain ⟨p,q,hA,hV,rfl,HY,sK⟩:=hW
 rw [Tryz.params7] at hA eY
 obtain ⟨v0,HZ,d0,Ih,p0,q0,FM,rfl,rfl,h0,r0⟩:=trodAll_cons hA
 obtain ⟨v1,Im,d1,Io,p1,q1,rfl,rfl,rfl,h1,r1⟩:=trodAll_cons r0
 obtain ⟨v2,Wv,d2,xJ,p2,q2,rfl,rfl,rfl,h2,r2⟩:=trodAll_cons r1
 obtain ⟨rfl,rfl,rfl⟩:=trodAll_nil r2
 obtain rfl:args=#[v0,v1,v2]:=by cases args; simp_all
 obtain ⟨a0,rfl,rfl,rfl,w0⟩:=open_int Tryz.underlying3 (eY 0 3 v0 rfl rfl) h0
 obtain ⟨a1,rfl,rfl,rfl,w1⟩:=open_int Tryz.underlying3 (eY 1 3 v1 rfl rfl) h1
 obtain ⟨a2,rfl⟩:=ala (eY 2 9 v2 rfl rfl) h2
 refine Calls.mono (ait a0 a1 a2 (alG w0) W (CP hL)) ?_
 rintro _ W' ⟨_,rfl,rfl,m⟩
 exact ⟨_,rfl,CG rE m.below laidOut types (by kernel_rfl) Tryz.underlying4 rfl rfl⟩
theorem reads (os:Os) {H:Type} (enc:TypeId×Value→H):∃ places,DataW.whole enc Tryz.prog ((qW os).forCall (fun _ _=>0) ⟨#[],#[.int .i64 0,.int .i64 0,.string ⟨#[]⟩],[]⟩).memory Tryz.f7.params.toList Rows.slotWipesSpec.vars false (#[.int .i64 0,.int .i64 0,.string ⟨#[]⟩]:Array Value).toList 8=some ([.lit (.int .i64 0),.lit (.int .i64 0),.lit (.string [])],[],places):=
 ⟨[],by kernel_rfl⟩
set_option maxRecDepth 100000 in
theorem lifted (os:Os) (started:os.Started) (H:Type) (enc:TypeId×Value→H) (F:Stop.Interp) :
  ReturnsInHanded {} Tryz.checked os 7 .any ((OpenSpec.ofChange Rows.slotWipesSpec).preRow enc Tryz.prog Tryz.f7 Rows.slotWipesRow.domain false Rows.slotWipesRow.laid) (((OpenSpec.ofChange Rows.slotWipesSpec).at F).post enc Tryz.prog Tryz.f7 false true false false):=by
 obtain ⟨places,hx⟩:=reads os enc
 refine returnsInHanded_of_row (C:=Tryz.checked) (s:=OpenSpec.ofChange Rows.slotWipesSpec) own started (by kernel_rfl) Tryz.func7
  (witness_row_at (enc:=enc) (C:=Tryz.checked) false (qW os) #[.int .i64 0,.int .i64 0,.string ⟨#[]⟩] rfl (by kernel_rfl) (by kernel_rfl) (by kernel_rfl)
   (OpenSpec.preRow_of_cond 8 hx (by kernel_rfl) (fun k hk=>by cases hk) (by kernel_rfl) (B6 os _))) ?_
 intro W base args ds gs before eY hW _ _ _ hL _ _
 exact tJ H enc W base args ds gs before eY hW hL
theorem said:Rows.SlotWipesSaid:=
 OpenClaim.holds_of_cond 7 Tryz.f7 rfl rfl rfl rfl rfl rfl rfl ⟨rfl,rfl,rfl,rfl,rfl⟩ rfl rfl rfl rfl rfl (by kernel_rfl) Tryz.func7 closed
  (of_decide_eq_true (by kernel_rfl)) (by unfold Func.isWrapper; first | (rw [if_pos (by decide +kernel)]; kernel_rfl) | (rw [if_neg (by decide +kernel)]; exact ⟨rfl,rfl⟩))
  (fun os started H enc _ F=>by rw [OpenClaim.pre_eq_preRow]; exact lifted os started H enc F)
end Go.Proofs.YtpchgbolambkcaaGreatDoor.qT
namespace Go.Proofs.YtpchgbolambkcaaGreatDoor
open Go
theorem SlotWipes_card:Rows.SlotWipesCardSaid:=qT.tK qT.said
#print axioms SlotWipes_card
end Go.Proofs.YtpchgbolambkcaaGreatDoor
