/- Texts of this claim, packed and shortened. -/
import Derived.Test.YtgjoehgomjgckaaGreatDoorQ6
import Derived.Test.YtgjoehgomjgckaaGreatDoorQ4
section
set_option linter.unusedVariables false
set_option linter.unusedSimpArgs false
namespace Go.Proofs.YtgjoehgomjgckaaGreatDoor
open Go Go.Ev Go.RowKit
set_option maxRecDepth 20000
set_option linter.unusedVariables false
theorem am1 {w:World} {cs:List Value} (lV:rG w Rm cs):∃ (q:bG) (lb lt:List B8),cs=q.cells∧Bytes w q.gp lb∧Bytes w q.tok lt:=by
 obtain ⟨c0,r0,rfl,⟨z0,rfl,b0⟩,h0⟩:=lV.cons
 obtain ⟨c1,r1,rfl,⟨z1,rfl,b1⟩,h1⟩:=h0.cons
 obtain ⟨c2,r2,rfl,⟨z2,rfl,b2⟩,h2⟩:=h1.cons
 obtain ⟨c3,r3,rfl,⟨z3,rfl,b3⟩,h3⟩:=h2.cons
 obtain ⟨c4,r4,rfl,⟨z4,rfl,b4⟩,h4⟩:=h3.cons
 obtain ⟨c5,r5,rfl,⟨z5,rfl,b5⟩,h5⟩:=h4.cons
 obtain ⟨c6,r6,rfl,⟨z6,rfl,b6⟩,h6⟩:=h5.cons
 obtain ⟨c7,r7,rfl,⟨z7,rfl,b7⟩,h7⟩:=h6.cons
 obtain ⟨c8,r8,rfl,⟨z8,rfl,b8⟩,h8⟩:=h7.cons
 obtain ⟨c9,r9,rfl,⟨z9,rfl,b9⟩,h9⟩:=h8.cons
 obtain ⟨jS,r10,rfl,⟨z10,rfl,b10⟩,iO⟩:=h9.cons
 obtain ⟨jT,r11,rfl,⟨s,rfl,_⟩,xQ⟩:=iO.cons
 obtain ⟨gx,r12,rfl,⟨u,l,rfl,hl,_⟩,iC⟩:=xQ.cons
 obtain ⟨gy,r13,rfl,⟨v,m,rfl,hm,_⟩,j9⟩:=iC.cons
 obtain rfl:=j9.nil
 exact ⟨⟨z0,z1,z2,z3,z4,z5,z6,z7,z8,z9,z10,s,u,v⟩,l,m,rfl,hl,hm⟩
def IL:List (TypeId×Nat×(World→List Value→Prop)):=[(kZ,14,fun w cs=>rG w Rm cs),(bJ,1,SD .bytes),(lJ,1,SD .bool)]
theorem W5:Reads Pr mN 16 (ED IL):=ahQ IL (by kernel_rfl) fun x hx=>by
 simp only [IL,List.mem_cons,List.not_mem_nil,or_false] at hx
 rcases hx with rfl | rfl | rfl
 ·exact Part.of (ahP ajj)
 ·exact Part.leaf (by kernel_rfl)
 ·exact Part.leaf (by kernel_rfl)
theorem ZQ {w:World} {cs:List Value} (h:ED IL w cs):∃ (a:fD) (lb lt aq:List B8),cs=a.cs ⟨none,0,0⟩∧tR w a lb lt aq:=by
 obtain ⟨u,r,rfl,hu,_,v,r2,rfl,⟨c1,rfl,s,sl,rfl,hs,_⟩,_,x,r3,rfl,⟨c2,rfl,b,rfl⟩,_,rfl⟩:=h
 obtain ⟨q,lb,lt,rfl,h1,h2⟩:=am1 hu
 exact ⟨⟨q,s,b⟩,lb,lt,sl,rfl,h1,h2,hs⟩
theorem akw {H:Type} {enc:TypeId×Value→H} {w:World} {held:Bool} {v:Value} {d:DataW H} {ps:List MemPlace} {r:Reach} {base:Nat} (hv:Value.okWide Pr w r base mN v) (h:DataW.Trod enc Pr w 0 (fun _=>true) held mN v d ps) :
  ∃ (a:fD) (lb lt aq:List B8),v=.agg ⟨a.cs ⟨none,0,0⟩⟩∧tR w a lb lt aq:=by
 obtain ⟨cs,rfl,hq⟩:=aji W5 (by kernel_rfl) hv h
 obtain ⟨a,lb,lt,aq,rfl,ha⟩:=ZQ hq
 exact ⟨a,lb,lt,aq,rfl,ha⟩
theorem XZ:Pr.underlying KT=some (.slice mN):=by kernel_rfl
theorem ajk {H:Type} {enc:TypeId×Value→H} {w:World} {held:Bool} {v:Value} {d:DataW H} {ps:List MemPlace} {r:Reach} {base:Nat} (hv:Value.okWide Pr w r base KT v) (h:DataW.Trod enc Pr w 0 (fun _=>true) held KT v d ps) :
  ∃ (s:ah) (l:List fD),v=.slice s.a s.n s.c∧nH w s l∧SA w l:=by
 obtain ⟨s,rows,rfl,hs,hn,hr,_⟩:=akv XZ (aiw XZ (by kernel_rfl) W5) hv h
 obtain ⟨ls,xs,h1,h2,h3⟩:=XY (C:=fD.cs) (E:=Uo) (p:=fun a=>∃ lb lt aq,tR w a lb lt aq) rows fun row iU=>by
  obtain ⟨a,lb,lt,aq,e,ha⟩:=ZQ (hr row iU).1
  exact ⟨a,⟨none,0,0⟩,e,trivial,lb,lt,aq,ha⟩
 rw [h1] at hs
 exact ⟨s,ls,rfl,⟨xs,hs,h2⟩,h3⟩
end Go.Proofs.YtgjoehgomjgckaaGreatDoor
end
