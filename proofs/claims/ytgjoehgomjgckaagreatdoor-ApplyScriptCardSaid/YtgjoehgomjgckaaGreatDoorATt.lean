/- Texts of this claim, packed and shortened. -/
import Derived.Test.YtgjoehgomjgckaaGreatDoorATz
import Derived.Test.YtgjoehgomjgckaaGreatDoorQ1
namespace Go.Proofs.YtgjoehgomjgckaaGreatDoor
open Go Go.Ev Go.Ev.Tx
set_option maxRecDepth 100000
set_option linter.unusedVariables false
def WI:(List C0->Ev.Fr)->(List C0->World->Prop)->((List C0->World->Prop)->Prop)->Prop
 |M,K,F=>Ix (M []) (λw=>K [] w) λc=>F λv w=>c w
def WJ:(List C0->Ev.Fr)->((List C0->World->Prop)->List C0->World->Prop)->List C0->World->Prop
 |M,B,i,w=>aj1 (M []) (λc w=>B (λv w=>c w) [] w) w
def Fg:Nat->(List C0->Ev.Fr)->(List C0->World->Prop)->((List C0->World->Prop)->Prop)->Prop
 |2,M,K,F=>Cw (λ(x0:Bool)=>M [.b x0]) (λx0 w=>K [.b x0] w) λc=>F λv w=>c (c0 v).B w
 |1,M,K,F=>Cw (λ(x0:Int)=>M [.i x0]) (λx0 w=>K [.i x0] w) λc=>F λv w=>c (c0 v).I w
 |6,M,K,F=>Cw (λ(x0:ag)=>M [.l x0]) (λx0 w=>K [.l x0] w) λc=>F λv w=>c (c0 v).L w
 |8,M,K,F=>Cw (λ(x0:Value)=>M [.v x0]) (λx0 w=>K [.v x0] w) λc=>F λv w=>c (c0 v).V w
 |_,_,_,_=>False
def Fh:Nat->(List C0->Ev.Fr)->((List C0->World->Prop)->List C0->World->Prop)->List C0->World->Prop
 |2,M,B,i,w=>Ai (λ(x0:Bool)=>M [.b x0]) (λc x0 w=>B (λv w=>c (c0 v).B w) [.b x0] w) (c0 i).B w
 |1,M,B,i,w=>Ai (λ(x0:Int)=>M [.i x0]) (λc x0 w=>B (λv w=>c (c0 v).I w) [.i x0] w) (c0 i).I w
 |6,M,B,i,w=>Ai (λ(x0:ag)=>M [.l x0]) (λc x0 w=>B (λv w=>c (c0 v).L w) [.l x0] w) (c0 i).L w
 |8,M,B,i,w=>Ai (λ(x0:Value)=>M [.v x0]) (λc x0 w=>B (λv w=>c (c0 v).V w) [.v x0] w) (c0 i).V w
 |_,_,_,_,_=>False
def y7:Nat->Nat->(List C0->Ev.Fr)->(List C0->World->Prop)->((List C0->World->Prop)->Prop)->Prop
 |5,5,M,K,F=>sR (λ(x0:Addr) (x1:Addr)=>M [.a x0,.a x1]) (λx0 x1 w=>K [.a x0,.a x1] w) λc=>F λv w=>c (c0 v).A (c0 v.tail).A w
 |5,2,M,K,F=>sR (λ(x0:Addr) (x1:Bool)=>M [.a x0,.b x1]) (λx0 x1 w=>K [.a x0,.b x1] w) λc=>F λv w=>c (c0 v).A (c0 v.tail).B w
 |5,8,M,K,F=>sR (λ(x0:Addr) (x1:Value)=>M [.a x0,.v x1]) (λx0 x1 w=>K [.a x0,.v x1] w) λc=>F λv w=>c (c0 v).A (c0 v.tail).V w
 |2,2,M,K,F=>sR (λ(x0:Bool) (x1:Bool)=>M [.b x0,.b x1]) (λx0 x1 w=>K [.b x0,.b x1] w) λc=>F λv w=>c (c0 v).B (c0 v.tail).B w
 |1,1,M,K,F=>sR (λ(x0:Int) (x1:Int)=>M [.i x0,.i x1]) (λx0 x1 w=>K [.i x0,.i x1] w) λc=>F λv w=>c (c0 v).I (c0 v.tail).I w
 |1,6,M,K,F=>sR (λ(x0:Int) (x1:ag)=>M [.i x0,.l x1]) (λx0 x1 w=>K [.i x0,.l x1] w) λc=>F λv w=>c (c0 v).I (c0 v.tail).L w
 |6,1,M,K,F=>sR (λ(x0:ag) (x1:Int)=>M [.l x0,.i x1]) (λx0 x1 w=>K [.l x0,.i x1] w) λc=>F λv w=>c (c0 v).L (c0 v.tail).I w
 |_,_,_,_,_=>False
def y8:Nat->Nat->(List C0->Ev.Fr)->((List C0->World->Prop)->List C0->World->Prop)->List C0->World->Prop
 |5,5,M,B,i,w=>wj (λ(x0:Addr) (x1:Addr)=>M [.a x0,.a x1]) (λc x0 x1 w=>B (λv w=>c (c0 v).A (c0 v.tail).A w) [.a x0,.a x1] w) (c0 i).A (c0 i.tail).A w
 |5,2,M,B,i,w=>wj (λ(x0:Addr) (x1:Bool)=>M [.a x0,.b x1]) (λc x0 x1 w=>B (λv w=>c (c0 v).A (c0 v.tail).B w) [.a x0,.b x1] w) (c0 i).A (c0 i.tail).B w
 |5,8,M,B,i,w=>wj (λ(x0:Addr) (x1:Value)=>M [.a x0,.v x1]) (λc x0 x1 w=>B (λv w=>c (c0 v).A (c0 v.tail).V w) [.a x0,.v x1] w) (c0 i).A (c0 i.tail).V w
 |2,2,M,B,i,w=>wj (λ(x0:Bool) (x1:Bool)=>M [.b x0,.b x1]) (λc x0 x1 w=>B (λv w=>c (c0 v).B (c0 v.tail).B w) [.b x0,.b x1] w) (c0 i).B (c0 i.tail).B w
 |1,1,M,B,i,w=>wj (λ(x0:Int) (x1:Int)=>M [.i x0,.i x1]) (λc x0 x1 w=>B (λv w=>c (c0 v).I (c0 v.tail).I w) [.i x0,.i x1] w) (c0 i).I (c0 i.tail).I w
 |1,6,M,B,i,w=>wj (λ(x0:Int) (x1:ag)=>M [.i x0,.l x1]) (λc x0 x1 w=>B (λv w=>c (c0 v).I (c0 v.tail).L w) [.i x0,.l x1] w) (c0 i).I (c0 i.tail).L w
 |6,1,M,B,i,w=>wj (λ(x0:ag) (x1:Int)=>M [.l x0,.i x1]) (λc x0 x1 w=>B (λv w=>c (c0 v).L (c0 v.tail).I w) [.l x0,.i x1] w) (c0 i).L (c0 i.tail).I w
 |_,_,_,_,_,_=>False
def Fi:Nat->Nat->Nat->(List C0->Ev.Fr)->(List C0->World->Prop)->((List C0->World->Prop)->Prop)->Prop
 |5,5,8,M,K,F=>Ew (λ(x0:Addr) (x1:Addr) (x2:Value)=>M [.a x0,.a x1,.v x2]) (λx0 x1 x2 w=>K [.a x0,.a x1,.v x2] w) λc=>F λv w=>c (c0 v).A (c0 v.tail).A (c0 v.tail.tail).V w
 |1,2,1,M,K,F=>Ew (λ(x0:Int) (x1:Bool) (x2:Int)=>M [.i x0,.b x1,.i x2]) (λx0 x1 x2 w=>K [.i x0,.b x1,.i x2] w) λc=>F λv w=>c (c0 v).I (c0 v.tail).B (c0 v.tail.tail).I w
 |1,1,1,M,K,F=>Ew (λ(x0:Int) (x1:Int) (x2:Int)=>M [.i x0,.i x1,.i x2]) (λx0 x1 x2 w=>K [.i x0,.i x1,.i x2] w) λc=>F λv w=>c (c0 v).I (c0 v.tail).I (c0 v.tail.tail).I w
 |6,1,1,M,K,F=>Ew (λ(x0:ag) (x1:Int) (x2:Int)=>M [.l x0,.i x1,.i x2]) (λx0 x1 x2 w=>K [.l x0,.i x1,.i x2] w) λc=>F λv w=>c (c0 v).L (c0 v.tail).I (c0 v.tail.tail).I w
 |_,_,_,_,_,_=>False
def Fj:Nat->Nat->Nat->(List C0->Ev.Fr)->((List C0->World->Prop)->List C0->World->Prop)->List C0->World->Prop
 |5,5,8,M,B,i,w=>Cx (λ(x0:Addr) (x1:Addr) (x2:Value)=>M [.a x0,.a x1,.v x2]) (λc x0 x1 x2 w=>B (λv w=>c (c0 v).A (c0 v.tail).A (c0 v.tail.tail).V w) [.a x0,.a x1,.v x2] w) (c0 i).A (c0 i.tail).A (c0 i.tail.tail).V w
 |1,2,1,M,B,i,w=>Cx (λ(x0:Int) (x1:Bool) (x2:Int)=>M [.i x0,.b x1,.i x2]) (λc x0 x1 x2 w=>B (λv w=>c (c0 v).I (c0 v.tail).B (c0 v.tail.tail).I w) [.i x0,.b x1,.i x2] w) (c0 i).I (c0 i.tail).B (c0 i.tail.tail).I w
 |1,1,1,M,B,i,w=>Cx (λ(x0:Int) (x1:Int) (x2:Int)=>M [.i x0,.i x1,.i x2]) (λc x0 x1 x2 w=>B (λv w=>c (c0 v).I (c0 v.tail).I (c0 v.tail.tail).I w) [.i x0,.i x1,.i x2] w) (c0 i).I (c0 i.tail).I (c0 i.tail.tail).I w
 |6,1,1,M,B,i,w=>Cx (λ(x0:ag) (x1:Int) (x2:Int)=>M [.l x0,.i x1,.i x2]) (λc x0 x1 x2 w=>B (λv w=>c (c0 v).L (c0 v.tail).I (c0 v.tail.tail).I w) [.l x0,.i x1,.i x2] w) (c0 i).L (c0 i.tail).I (c0 i.tail.tail).I w
 |_,_,_,_,_,_,_=>False
def WK:Nat->Nat->Nat->Nat->(List C0->Ev.Fr)->(List C0->World->Prop)->((List C0->World->Prop)->Prop)->Prop
 |6,1,1,1,M,K,F=>aj2 (λ(x0:ag) (x1:Int) (x2:Int) (x3:Int)=>M [.l x0,.i x1,.i x2,.i x3]) (λx0 x1 x2 x3 w=>K [.l x0,.i x1,.i x2,.i x3] w) λc=>F λv w=>c (c0 v).L (c0 v.tail).I (c0 v.tail.tail).I (c0 v.tail.tail.tail).I w
 |_,_,_,_,_,_,_=>False
def WL:Nat->Nat->Nat->Nat->(List C0->Ev.Fr)->((List C0->World->Prop)->List C0->World->Prop)->List C0->World->Prop
 |6,1,1,1,M,B,i,w=>Ms (λ(x0:ag) (x1:Int) (x2:Int) (x3:Int)=>M [.l x0,.i x1,.i x2,.i x3]) (λc x0 x1 x2 x3 w=>B (λv w=>c (c0 v).L (c0 v.tail).I (c0 v.tail.tail).I (c0 v.tail.tail.tail).I w) [.l x0,.i x1,.i x2,.i x3] w) (c0 i).L (c0 i.tail).I (c0 i.tail.tail).I (c0 i.tail.tail.tail).I w
 |_,_,_,_,_,_,_,_=>False
def oF:Nat->Addr->World->(List C0->Prop)->Prop
 |25,a,w,K=>kM a w λx0 x1 x2 x3 x4 x5 x6 x7 x8 x9 NG NH NI NJ=>K [.i x0,.i x1,.i x2,.i x3,.i x4,.i x5,.i x6,.i x7,.i x8,.i x9,.i NG,.s NH,.l NI,.l NJ]
 |27,a,w,K=>Kb a w λx0 x1 x2 x3 x4 x5 x6 x7 x8 x9 NG NH NI NJ x14 x15=>K [.i x0,.i x1,.i x2,.i x3,.i x4,.i x5,.i x6,.i x7,.i x8,.i x9,.i NG,.s NH,.l NI,.l NJ,.l x14,.b x15]
 |35,a,w,K=>bC a w λx0 x1 x2 x3 x4 x5=>K [.i x0,.l x1,.l x2,.l x3,.l x4,.l x5]
 |39,a,w,K=>dO a w λx0 x1 x2 x3=>K [.i x0,.i x1,.l x2,.l x3]
 |53,a,w,K=>bD a w λx0 x1 x2 x3=>K [.i x0,.i x1,.i x2,.l x3]
 |55,a,w,K=>nj a w λx0 x1 x2 x3=>K [.i x0,.i x1,.i x2,.l x3]
 |62,a,w,K=>Qd a w λx0 x1 x2 x3 x4=>K [.i x0,.i x1,.l x2,.i x3,.i x4]
 |65,a,w,K=>lU a w λx0 x1 x2 x3 x4 x5=>K [.i x0,.i x1,.i x2,.i x3,.i x4,.b x5]
 |96,a,w,K=>Qe a w λx0 x1 x2=>K [.i x0,.i x1,.s x2]
 |218,a,w,K=>vB a w λx0 x1 x2 x3 x4 x5 x6 x7 x8=>K [.i x0,.i x1,.i x2,.i x3,.i x4,.i x5,.i x6,.i x7,.i x8]
 |238,a,w,K=>xI a w λx0 x1 x2 x3 x4 x5 x6 x7 x8=>K [.i x0,.i x1,.i x2,.i x3,.i x4,.i x5,.i x6,.i x7,.i x8]
 |250,a,w,K=>DF a w λx0 x1 x2 x3=>K [.l x0,.l x1,.l x2,.l x3]
 |263,a,w,K=>ua a w λx0 x1 x2 x3 x4=>K [.i x0,.i x1,.i x2,.i x3,.i x4]
 |286,a,w,K=>xB a w λx0 x1 x2 x3 x4=>K [.i x0,.i x1,.i x2,.i x3,.i x4]
 |_,_,_,_=>False
def qb:Nat->Addr->List X->World->(World->Prop)->En->Prop
 |25,a,l,w,K,e=>GI a (dI (nx 0 l) e) (dI (nx 1 l) e) (dI (nx 2 l) e) (dI (nx 3 l) e) (dI (nx 4 l) e) (dI (nx 5 l) e) (dI (nx 6 l) e) (dI (nx 7 l) e) (dI (nx 8 l) e) (dI (nx 9 l) e) (dI (nx 10 l) e) (dS (nx 11 l) e) (dL (nx 12 l) e) (dL (nx 13 l) e) w K
 |35,a,l,w,K,e=>cF a (dI (nx 0 l) e) (dL (nx 1 l) e) (dL (nx 2 l) e) (dL (nx 3 l) e) (dL (nx 4 l) e) (dL (nx 5 l) e) w K
 |39,a,l,w,K,e=>dm a (dI (nx 0 l) e) (dI (nx 1 l) e) (dL (nx 2 l) e) (dL (nx 3 l) e) w K
 |53,a,l,w,K,e=>cO a (dI (nx 0 l) e) (dI (nx 1 l) e) (dI (nx 2 l) e) (dL (nx 3 l) e) w K
 |55,a,l,w,K,e=>gU a (dI (nx 0 l) e) (dI (nx 1 l) e) (dI (nx 2 l) e) (dL (nx 3 l) e) w K
 |62,a,l,w,K,e=>xq a (dI (nx 0 l) e) (dI (nx 1 l) e) (dL (nx 2 l) e) (dI (nx 3 l) e) (dI (nx 4 l) e) w K
 |65,a,l,w,K,e=>pP a (dI (nx 0 l) e) (dI (nx 1 l) e) (dI (nx 2 l) e) (dI (nx 3 l) e) (dI (nx 4 l) e) (dB (nx 5 l) e) w K
 |96,a,l,w,K,e=>Br a (dI (nx 0 l) e) (dI (nx 1 l) e) (dS (nx 2 l) e) w K
 |218,a,l,w,K,e=>xy a (dI (nx 0 l) e) (dI (nx 1 l) e) (dI (nx 2 l) e) (dI (nx 3 l) e) (dI (nx 4 l) e) (dI (nx 5 l) e) (dI (nx 6 l) e) (dI (nx 7 l) e) (dI (nx 8 l) e) w K
 |238,a,l,w,K,e=>sG a (dI (nx 0 l) e) (dI (nx 1 l) e) (dI (nx 2 l) e) (dI (nx 3 l) e) (dI (nx 4 l) e) (dI (nx 5 l) e) (dI (nx 6 l) e) (dI (nx 7 l) e) (dI (nx 8 l) e) w K
 |250,a,l,w,K,e=>BH a (dL (nx 0 l) e) (dL (nx 1 l) e) (dL (nx 2 l) e) (dL (nx 3 l) e) w K
 |263,a,l,w,K,e=>pU a (dI (nx 0 l) e) (dI (nx 1 l) e) (dI (nx 2 l) e) (dI (nx 3 l) e) (dI (nx 4 l) e) w K
 |286,a,l,w,K,e=>sF a (dI (nx 0 l) e) (dI (nx 1 l) e) (dI (nx 2 l) e) (dI (nx 3 l) e) (dI (nx 4 l) e) w K
 |_,_,_,_,_,_=>False
def sU:Nat->Value->(List C0->Prop)->Prop
 |35,v,K=>xx v λx0 x1 x2 x3 x4 x5=>K [.i x0,.l x1,.l x2,.l x3,.l x4,.l x5]
 |39,v,K=>zx v λx0 x1 x2 x3=>K [.i x0,.i x1,.l x2,.l x3]
 |53,v,K=>RI v λx0 x1 x2 x3=>K [.i x0,.i x1,.i x2,.l x3]
 |55,v,K=>PE v λx0 x1 x2 x3=>K [.i x0,.i x1,.i x2,.l x3]
 |65,v,K=>Qw v λx0 x1 x2 x3 x4 x5=>K [.i x0,.i x1,.i x2,.i x3,.i x4,.b x5]
 |218,v,K=>Kc v λx0 x1 x2 x3 x4 x5 x6 x7 x8=>K [.i x0,.i x1,.i x2,.i x3,.i x4,.i x5,.i x6,.i x7,.i x8]
 |238,v,K=>RJ v λx0 x1 x2 x3 x4 x5 x6 x7 x8=>K [.i x0,.i x1,.i x2,.i x3,.i x4,.i x5,.i x6,.i x7,.i x8]
 |250,v,K=>RK v λx0 x1 x2 x3=>K [.l x0,.l x1,.l x2,.l x3]
 |263,v,K=>KM v λx0 x1 x2 x3 x4=>K [.i x0,.i x1,.i x2,.i x3,.i x4]
 |286,v,K=>Ky v λx0 x1 x2 x3 x4=>K [.i x0,.i x1,.i x2,.i x3,.i x4]
 |_,_,_=>False
def CB:List X->(List C0->Ev.Fr)->(List C0->World->Prop)->((List C0->World->Prop)->Prop)->Prop
 |[],M,K,F=>WI M K F
 |[.func (.func a) _ _],M,K,F=>Fg a M K F
 |[.func (.func a) _ _,.func (.func b) _ _],M,K,F=>y7 a b M K F
 |[.func (.func a) _ _,.func (.func b) _ _,.func (.func c) _ _],M,K,F=>Fi a b c M K F
 |[.func (.func a) _ _,.func (.func b) _ _,.func (.func c) _ _,.func (.func d) _ _],M,K,F=>WK a b c d M K F
 |_,_,_,_=>False
def CC:List X->(List C0->Ev.Fr)->((List C0->World->Prop)->List C0->World->Prop)->List C0->World->Prop
 |[],M,B,i,w=>WJ M B i w
 |[.func (.func a) _ _],M,B,i,w=>Fh a M B i w
 |[.func (.func a) _ _,.func (.func b) _ _],M,B,i,w=>y8 a b M B i w
 |[.func (.func a) _ _,.func (.func b) _ _,.func (.func c) _ _],M,B,i,w=>Fj a b c M B i w
 |[.func (.func a) _ _,.func (.func b) _ _,.func (.func c) _ _,.func (.func d) _ _],M,B,i,w=>WL a b c d M B i w
 |_,_,_,_,_=>False
def V3:WH:=⟨oF,qb,sU,CB,CC⟩
end Go.Proofs.YtgjoehgomjgckaaGreatDoor
