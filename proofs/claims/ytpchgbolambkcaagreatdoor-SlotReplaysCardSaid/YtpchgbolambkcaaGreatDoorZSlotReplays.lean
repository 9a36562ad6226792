/- Texts of this claim, packed and shortened. -/
import Derived.Test.YtpchgbolambkcaaGreatDoorQ2
import Derived.Test.YtpchgbolambkcaaGreatDoorQ6
import Derived.Test.YtpchgbolambkcaaGreatDoorQ7
import Derived.Test.YtpchgbolambkcaaGreatDoorACfSlotReplaysC
import Derived.Test.YtpchgbolambkcaaGreatDoorACfSlotReplaysE
namespace Go.Proofs.YtpchgbolambkcaaGreatDoor.nG
open Go Go.Ev Go.ChangeShapes Go.WideShapes Go.ChangeAt Go.RowKit
theorem types:vC Tryz.prog Tryz.f6.params.toList=true:=by kernel_rfl
set_option maxRecDepth 100000 in
theorem tJ (H:Type) (enc:TypeId×Value→H) (W:World) (base:Nat) (args:Array Value) (ds gs:List (DataW H)) (before:List MemPlace)
  (eY:∀ (j:Nat) t v,Tryz.f6.params[j]? = some t→args[j]? = some v→Value.okWide Tryz.prog W .any base t v)
  (hW:DataW.Whole enc Tryz.prog Tryz.f6.params.toList Rows.slotReplaysSpec.vars false W args.toList ds gs before) (hL:laidMetH Tryz.prog Rows.slotReplaysRow.laid W) :
  Calls Tryz.prog 6 args W fun e W'=>∃ v,e=.returned v∧Rows.slotReplaysSpec.post enc Tryz.prog Tryz.f6 false true false false W args v W':=by
 have rE:=hW
 obtain ⟨p,q,hA,hV,rfl,HY,sK⟩:=hW
 rw [Tryz.params6] at hA eY
 obtain ⟨v0,HZ,d0,Ih,p0,q0,FM,rfl,rfl,h0,r0⟩:=trodAll_cons hA
 obtain ⟨v1,Im,d1,Io,p1,q1,rfl,rfl,rfl,h1,r1⟩:=trodAll_cons r0
 obtain ⟨v2,Wv,d2,xJ,p2,q2,rfl,rfl,rfl,h2,r2⟩:=trodAll_cons r1
 obtain ⟨v3,vs3,d3,ds3,p3,q3,rfl,rfl,rfl,h3,r3⟩:=trodAll_cons r2
 obtain ⟨v4,vs4,d4,ds4,p4,q4,rfl,rfl,rfl,h4,r4⟩:=trodAll_cons r3
 obtain ⟨rfl,rfl,rfl⟩:=trodAll_nil r4
 obtain rfl:args=#[v0,v1,v2,v3,v4]:=by cases args; simp_all
 obtain ⟨a0,l0,rfl,g0⟩:=Zn (eY 0 63 v0 rfl rfl) h0
 obtain ⟨a1,rfl,rfl,rfl,w1⟩:=open_int Tryz.underlying3 (eY 1 3 v1 rfl rfl) h1
 obtain ⟨a2,rfl,rfl,rfl,w2⟩:=open_int Tryz.underlying3 (eY 2 3 v2 rfl rfl) h2
 obtain ⟨a3,rfl,rfl,rfl,w3⟩:=open_int Tryz.underlying3 (eY 3 3 v3 rfl rfl) h3
 obtain ⟨a4,l4,rfl,g4⟩:=YH (eY 4 58 v4 rfl rfl) h4
 refine Calls.mono (ahu a0 a4 l0 l4 a1 a2 a3 W (CP hL) g0 g4) ?_
 rintro _ W' ⟨_,rfl,rfl,m⟩
 exact ⟨_,rfl,CG rE m.below laidOut types (by kernel_rfl) Tryz.underlying4 rfl rfl⟩
theorem reads (os:Os) {H:Type} (enc:TypeId×Value→H):∃ places,DataW.whole enc Tryz.prog ((qW os).forCall (fun _ _=>0) ⟨#[],#[.slice none 0 0,.int .i64 0,.int .i64 0,.int .i64 0,.slice none 0 0],[]⟩).memory Tryz.f6.params.toList Rows.slotReplaysSpec.vars false (#[.slice none 0 0,.int .i64 0,.int .i64 0,.int .i64 0,.slice none 0 0]:Array Value).toList 8=some ([.nil,.lit (.int .i64 0),.lit (.int .i64 0),.lit (.int .i64 0),.nil],[],places):=
 ⟨[],by kernel_rfl⟩
set_option maxRecDepth 100000 in
theorem lifted (os:Os) (started:os.Started) (H:Type) (enc:TypeId×Value→H) (F:Stop.Interp) :
  ReturnsInHanded {} Tryz.checked os 6 .any ((OpenSpec.ofChange Rows.slotReplaysSpec).preRow enc Tryz.prog Tryz.f6 Rows.slotReplaysRow.domain false Rows.slotReplaysRow.laid) (((OpenSpec.ofChange Rows.slotReplaysSpec).at F).post enc Tryz.prog Tryz.f6 false true false false):=by
 obtain ⟨places,hx⟩:=reads os enc
 refine returnsInHanded_of_row (C:=Tryz.checked) (s:=OpenSpec.ofChange Rows.slotReplaysSpec) own started (by kernel_rfl) Tryz.func6
  (witness_row_at (enc:=enc) (C:=Tryz.checked) false (qW os) #[.slice none 0 0,.int .i64 0,.int .i64 0,.int .i64 0,.slice none 0 0] rfl (by kernel_rfl) (by kernel_rfl) (by kernel_rfl)
   (OpenSpec.preRow_of_cond 8 hx (by kernel_rfl) (fun k hk=>by cases hk) (by kernel_rfl) (B6 os _))) ?_
 intro W base args ds gs before eY hW _ _ _ hL _ _
 exact tJ H enc W base args ds gs before eY hW hL
theorem said:Rows.SlotReplaysSaid:=
 OpenClaim.holds_of_cond 6 Tryz.f6 rfl rfl rfl rfl rfl rfl rfl ⟨rfl,rfl,rfl,rfl,rfl⟩ rfl rfl rfl rfl rfl (by kernel_rfl) Tryz.func6 closed
  (of_decide_eq_true (by kernel_rfl)) (by unfold Func.isWrapper; first | (rw [if_pos (by decide +kernel)]; kernel_rfl) | (rw [if_neg (by decide +kernel)]; exact ⟨rfl,rfl⟩))
  (fun os started H enc _ F=>by rw [OpenClaim.pre_eq_preRow]; exact lifted os started H enc F)
end Go.Proofs.YtpchgbolambkcaaGreatDoor.nG
namespace Go.Proofs.YtpchgbolambkcaaGreatDoor
open Go
theorem SlotReplays_card:Rows.SlotReplaysCardSaid:=nG.tK nG.said
#print axioms SlotReplays_card
end Go.Proofs.YtpchgbolambkcaaGreatDoor
