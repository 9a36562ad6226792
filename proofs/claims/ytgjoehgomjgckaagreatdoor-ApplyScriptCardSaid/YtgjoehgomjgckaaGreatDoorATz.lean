/- Texts of this claim, packed and shortened. -/
import Derived.Test.YtgjoehgomjgckaaGreatDoorATx
namespace Go.Ev.Tx
open Go Go.Ev
inductive C0 where
 |i (x:Int)|b (x:Bool)|s (x:ByteArray)|p (x:Option Addr)|a (x:Addr)|l (x:ag)|v (x:Value)|c (x:List Value)|w (x:World)
abbrev En:=List (Nat × C0)
abbrev Je:=List (Nat × (List C0->World->Prop))
def C0.I:C0->Int | .i x=>x|_=>0
def C0.B:C0->Bool | .b x=>x|_=>false
def C0.S:C0->ByteArray | .s x=>x|_=>.empty
def C0.P:C0->Option Addr | .p x=>x|_=>none
def C0.A:C0->Addr | .a x=>x|_=>⟨0,0,none⟩
def C0.L:C0->ag | .l x=>x|_=>⟨none,0,0⟩
def C0.V:C0->Value | .v x=>x|_=>.nilIface
def C0.C:C0->List Value | .c x=>x|_=>[]
def C0.W:C0->World->World | .w x,_=>x|_,y=>y
def get{A:Type}(n:Nat)(d:A):List (Nat × A)->A
 |(k,c)::r=>cond (k == n) c (get n d r)
 |[]=>d
def g(e:En)(n:Nat):C0:=get n (.i 0) e
def nl:X->List Nat
 |.agg ⟨l⟩=>l.map λv=>match v with | .chan (some n)=>n|_=>0
 |_=>[]
def WG(n:Nat):BinOp:=cond (n == 0) .eql .neq
@[reducible] def si(k:IntKind):X:=.func (.func 1) ⟨[]⟩ ⟨[.int k 0]⟩
@[reducible] def sh(n:Nat):X:=.func (.func n) ⟨[]⟩ ⟨[]⟩
def c0:List C0->C0|a::_=>a | []=>.i 0
def nx:Nat->List X->X
 |0,a::_=>a
 |k+1,_::r=>nx k r
 |_,[]=>.nilFunc
def ext:List Nat->List C0->En->En
 |n::ns,c::cs,e=>ext ns cs ((n,c)::e)
 |[],_,e=>e
 |_::_,[],e=>e
def sS:X->C0->Value
 |.func (.func 1) _ ⟨[.int k _]⟩,c=>.int k c.I
 |.func (.func 2) _ _,c=>.bool c.B
 |.func (.func 3) _ _,c=>.string c.S
 |.func (.func 4) _ _,c=>.pointer c.P
 |.func (.func 5) _ _,c=>.pointer (some c.A)
 |.func (.func 6) _ _,c=>.slice c.L.a c.L.n c.L.c
 |.func (.func 7) _ _,c=>.agg ⟨c.C⟩
 |.func (.func 8) _ _,c=>c.V
 |_,c=>c.V
def AL:List X->List C0->Ev.Fr
 |[],_=>[]
 |.func _ _ ⟨[.chan (some t),.func (.func 9) _ ⟨[.agg ⟨l⟩]⟩]⟩::r,cs=>(t,some (.agg ⟨List.zipWith sS l cs⟩))::AL r (cs.drop l.length)
 |.func _ _ ⟨[.chan (some t),.func (.func 10) _ ⟨[s]⟩]⟩::r,c::cs=>(t,some (sS s c))::AL r cs
 |_,_=>[]
def Ff(z:Int):Prop:=0<=z
def Vz(v:Value):List Value:=(Value.cells v).toList
def eX(a:Addr)(n:Nat):Addr:=Addr.add a n
mutual
def dI:X->En->Int
 |.chan (some n),e=>(g e n).I
 |.int _ z,_=>z
 |.func (.func 1) _ ⟨[a,b]⟩,e=>dI a e+dI b e
 |.func (.func 2) _ ⟨[a,b]⟩,e=>dI a e - dI b e
 |.func (.func 3) _ ⟨[a,b]⟩,e=>dI a e*dI b e
 |.func (.func 4) _ ⟨[a,b]⟩,e=>Int.tmod (dI a e) (dI b e)
 |.func (.func 5) _ ⟨[a,b]⟩,e=>Int.tdiv (dI a e) (dI b e)
 |.func (.func 6) _ ⟨[a,b]⟩,e=>dI a e / dI b e
 |.func (.func 7) _ ⟨[a,b]⟩,e=>dI a e%dI b e
 |.func (.func 8) _ ⟨[.int k _,a]⟩,e=>IntKind.wrap k (dI a e)
 |.func (.func 9) _ ⟨[.int k _,a,b]⟩,e=>shl k (dI a e) (dI b e)
 |.func (.func 10) _ ⟨[.int k _,a,b]⟩,e=>shr k (dI a e) (dI b e)
 |.func (.func 11) _ ⟨[.int k _,a,b]⟩,e=>nF k (dI a e) (dI b e)
 |.func (.func 12) _ ⟨[.int k _,a,b]⟩,e=>wJ k (dI a e) (dI b e)
 |.func (.func 13) _ ⟨[.int k _,a,b]⟩,e=>yy k (dI a e) (dI b e)
 |.func (.func 14) _ ⟨[.int k _,a,b]⟩,e=>yz k (dI a e) (dI b e)
 |.func (.func 15) _ ⟨[.int k _,a]⟩,e=>IF k (dI a e)
 |.func (.func 16) _ ⟨[a]⟩,e=>((dL a e).n:Int)
 |.func (.func 17) _ ⟨[a]⟩,e=>((dL a e).c:Int)
 |.func (.func 18) _ ⟨[.chan (some n)]⟩,_=>(n:Int)
 |.func (.func 19) _ ⟨[a]⟩,e=>((ByteArray.size (dS a e):Nat):Int)
 |.func (.func 20) _ ⟨[a,b]⟩,e=>tq (dS a e) (dI b e)
 |.func (.func 21) _ ⟨[a,b]⟩,e=>min (dI a e) (dI b e)
 |.func (.func 22) _ ⟨[a,b]⟩,e=>max (dI a e) (dI b e)
 |_,_=>0
termination_by structural v=>v
def dB:X->En->Bool
 |.chan (some n),e=>(g e n).B
 |.bool b,_=>b
 |.func (.func 1) _ ⟨[a]⟩,e=>!dB a e
 |.func (.func 2) _ ⟨[a,b]⟩,e=>dB a e||dB b e
 |.func (.func 3) _ ⟨[a,b]⟩,e=>dB a e&&dB b e
 |.func (.func 4) _ ⟨[a,b,c]⟩,e=>cond (dB a e) (dB b e) (dB c e)
 |.func (.func 5) _ ⟨[a,b]⟩,e=>decide (dI a e=dI b e)
 |.func (.func 6) _ ⟨[a,b]⟩,e=>decide (dI a e<dI b e)
 |.func (.func 7) _ ⟨[a,b]⟩,e=>decide (dI a e<=dI b e)
 |.func (.func 8) _ ⟨[a]⟩,e=>Option.isNone (α:=Addr) (dP a e)
 |.func (.func 9) _ ⟨[a,b]⟩,e=>dB a e == dB b e
 |.func (.func 10) _ ⟨[a,b]⟩,e=>decide (dS a e=dS b e)
 |_,_=>false
termination_by structural v=>v
def dS:X->En->ByteArray
 |.chan (some n),e=>(g e n).S
 |.string b,_=>b
 |.func (.func 1) _ ⟨[a,b]⟩,e=>dS a e++dS b e
 |.func (.func 2) _ ⟨[a,b]⟩,e=>ByteArray.extract (dS a e) 0 (Int.toNat (dI b e))
 |.func (.func 3) _ ⟨[a,b]⟩,e=>ByteArray.extract (dS a e) (Int.toNat (dI b e)) (ByteArray.size (dS a e))
 |.func (.func 4) _ ⟨[a,b,c]⟩,e=>ByteArray.extract (dS a e) (Int.toNat (dI b e)) (Int.toNat (dI c e))
 |_,_=>.empty
termination_by structural v=>v
def dA:X->En->Addr
 |.chan (some n),e=>(g e n).A
 |.pointer (some a),_=>a
 |.func (.func 1) _ ⟨[a,.chan (some n)]⟩,e=>eX (dA a e) n
 |.func (.func 2) _ ⟨[a,b,.chan (some n)]⟩,e=>eX (base (dP a e)) (Int.toNat (dI b e)*n)
 |.func (.func 3) _ ⟨[a,b,.chan (some n)]⟩,e=>eX (dA a e) (Int.toNat (dI b e)*n)
 |_,_=>⟨0,0,none⟩
termination_by structural v=>v
def dP:X->En->Option Addr
 |.chan (some n),e=>(g e n).P
 |.func (.func 1) _ _,_=>none
 |.func (.func 2) _ ⟨[a]⟩,e=>some (dA a e)
 |.func (.func 3) _ ⟨[a]⟩,e=>(dL a e).a
 |_,_=>none
termination_by structural v=>v
def dL:X->En->ag
 |.chan (some n),e=>(g e n).L
 |.func (.func 1) _ ⟨[a,.chan (some n),.chan (some c)]⟩,e=>⟨dP a e,n,c⟩
 |_,_=>⟨none,0,0⟩
termination_by structural v=>v
def dV:X->En->Value
 |.chan (some n),e=>(g e n).V
 |.func (.func 1) _ ⟨[.int k _,a]⟩,e=>.int k (dI a e)
 |.func (.func 2) _ ⟨[a]⟩,e=>.bool (dB a e)
 |.func (.func 3) _ ⟨[a]⟩,e=>.string (dS a e)
 |.func (.func 4) _ ⟨[a]⟩,e=>.pointer (dP a e)
 |.func (.func 5) _ ⟨[a]⟩,e=>.pointer (some (dA a e))
 |.func (.func 6) _ ⟨[a]⟩,e=>.slice (dL a e).a (dL a e).n (dL a e).c
 |.func (.func 7) _ ⟨[a,.chan (some n),.chan (some c)]⟩,e=>.slice (dP a e) n c
 |.func (.func 8) _ ⟨[a]⟩,e=>.agg ⟨dC a e⟩
 |.func (.func 9) _ ⟨[a]⟩,e=>.tuple ⟨dC a e⟩
 |.func (.func 10) _ _,_=>.nilIface
 |.func (.func 11) _ _,_=>.nilFunc
 |.func (.func 12) _ ⟨[.chan (some t),a]⟩,e=>.iface t (dV a e)
 |.func (.func 13) _ ⟨[.chan (some f),a,b]⟩,e=>.func (.func f) ⟨dC a e⟩ ⟨dC b e⟩
 |.func (.func 14) _ _,_=>.map none
 |_,_=>undef
termination_by structural v=>v
def dC:X->En->List Value
 |.chan (some n),e=>(g e n).C
 |.agg ⟨l⟩,e=>I1 l e
 |.func (.func 2) _ ⟨[a]⟩,e=>Vz (dV a e)
 |_,_=>[]
termination_by structural v=>v
def I1:List X->En->List Value
 |[],_=>[]
 |a::r,e=>dV a e::I1 r e
termination_by structural v=>v
end
def dN:X->En->Nat
 |.chan (some n),_=>n
 |.func (.func 16) _ ⟨[a]⟩,e=>(dL a e).n
 |.func (.func 17) _ ⟨[a]⟩,e=>(dL a e).c
 |.func (.func 18) _ ⟨[.chan (some n)]⟩,_=>n
 |.func (.func 19) _ ⟨[a]⟩,e=>ByteArray.size (dS a e)
 |_,_=>0
def dW:X->En->World->World
 |.chan (some n),e,w=>(g e n).W w
 |.func _ _ ⟨[a]⟩,e,w=>World.drew (dW a e w)
 |_,_,w=>w
def cellOf:X->X->En->C0
 |.func (.func 1) _ _,a,e=>.i (dI a e)
 |.func (.func 2) _ _,a,e=>.b (dB a e)
 |.func (.func 3) _ _,a,e=>.s (dS a e)
 |.func (.func 4) _ _,a,e=>.p (dP a e)
 |.func (.func 5) _ _,a,e=>.a (dA a e)
 |.func (.func 6) _ _,a,e=>.l (dL a e)
 |.func (.func 7) _ _,a,e=>.c (dC a e)
 |.func (.func 8) _ _,a,e=>.v (dV a e)
 |_,a,e=>.v (dV a e)
def Cj:List X->List X->En->List C0
 |[],_,_=>[]
 |s::r,a::l,e=>cellOf s a e::Cj r l e
 |_::_,[],_=>[]
def elts:X->List X
 |.agg ⟨l⟩=>l
 |_=>[]
def I2(e:En):List X->List (Nat × Value)
 |[]=>[]
 |.func _ _ ⟨[.chan (some i),v]⟩::r=>(i,dV v e)::I2 e r
 |_=>[]
structure WH where
 ld:Nat->Addr->World->(List C0->Prop)->Prop
 st:Nat->Addr->List X->World->(World->Prop)->En->Prop
 un:Nat->Value->(List C0->Prop)->Prop
 jn:List X->(List C0->Ev.Fr)->(List C0->World->Prop)->((List C0->World->Prop)->Prop)->Prop
 lp:List X->(List C0->Ev.Fr)->((List C0->World->Prop)->List C0->World->Prop)->List C0->World->Prop
variable(P:Program)(D:WH)(w0:World)(R:Value->World->Prop)
def rY:Nat->List X->(En->Je->Prop)->En->Je->Prop
 |1,[.chan (some n),.int k _,a,w],K,e,j=>au k (dA a e) (dW w e w0) λz=>K ((n,.i z)::e) j
 |2,[.chan (some n),a,w],K,e,j=>mV (dA a e) (dW w e w0) λz=>K ((n,.b z)::e) j
 |3,[.chan (some n),a,w],K,e,j=>jX (dA a e) (dW w e w0) λz=>K ((n,.s z)::e) j
 |4,[.chan (some n),a,w],K,e,j=>uR (dA a e) (dW w e w0) λz=>K ((n,.p z)::e) j
 |5,[.chan (some n),a,w],K,e,j=>az (dA a e) (dW w e w0) λz=>K ((n,.l z)::e) j
 |6,[.chan (some n),a,w],K,e,j=>Nv (dA a e) (dW w e w0) λz=>K ((n,.v z)::e) j
 |7,[.chan (some n),.chan (some s),a,w],K,e,j=>yQ s (dA a e) (dW w e w0) λz=>K ((n,.c z)::e) j
 |8,[.chan (some t),ns,a,w],K,e,j=>D.ld t (dA a e) (dW w e w0) λv=>K (ext (nl ns) v e) j
 |9,[.chan (some m),.chan (some t),a,l,w],K,e,j=>D.st t (dA a e) (elts l) (dW w e w0) (λz=>K ((m,.w z)::e) j) e
 |10,[.chan (some m),a,v,w],K,e,j=>st (dA a e) (dV v e) (dW w e w0) λz=>K ((m,.w z)::e) j
 |11,[.chan (some m),.chan (some s),a,l,w],K,e,j=>yR s (dA a e) (dC l e) (dW w e w0) λz=>K ((m,.w z)::e) j
 |_,_,_,_,_=>False
def uS:Nat->List X->(En->Je->Prop)->En->Je->Prop
 |12,[.chan (some n),.chan (some m),.chan (some t),l,w],K,e,j=>nw t (dC l e) (dW w e w0) λa z=>K ((m,.w z)::(n,.a a)::e) j
 |13,[.chan (some n),.chan (some m),.chan (some t),w],K,e,j=>nw t (zc P t) (dW w e w0) λa z=>K ((m,.w z)::(n,.a a)::e) j
 |14,[.chan (some n),.chan (some m),.chan (some t),l,c,w],K,e,j=>CH P t (dI l e) (dI c e) (dW w e w0) λa z=>K ((m,.w z)::(n,.l a)::e) j
 |15,[.chan (some n),.chan (some m),ts,.chan (some t),l,w],K,e,j=>jc P (nl ts) t (dC l e) (dW w e w0) λa z=>K ((m,.w z)::(n,.l a)::e) j
 |16,[.chan (some n),.chan (some m),ts,.chan (some t),l,w],K,e,j=>VR P (nl ts) t (dC l e) (dW w e w0) λa z=>K ((m,.w z)::(n,.i a)::e) j
 |17,[.chan (some n),.chan (some m),.chan (some t),s,w],K,e,j=>VS P t (dS s e) (dW w e w0) λa z=>K ((m,.w z)::(n,.l a)::e) j
 |18,[.chan (some n),.chan (some m),l,w],K,e,j=>ML P (dL l e) (dW w e w0) λa z=>K ((m,.w z)::(n,.s a)::e) j
 |_,_,_,_,_=>False
def k8:Nat->List X->(En->Je->Prop)->En->Je->Prop
 |19,[.chan (some m),a,w],K,e,j=>Lx P (dP a e) (dW w e w0) λz=>K ((m,.w z)::e) j
 |20,[.chan (some n),.chan (some m),.chan (some o),.chan (some t),x,y,w],K,e,j=>IW P (WG o) t (dC x e) (dC y e) (dW w e w0) λa z=>K ((m,.w z)::(n,.b a)::e) j
 |21,[.chan (some n),.chan (some m),.chan (some f),l,w],K,e,j=>ek P f (dC l e) (dW w e w0) λa z=>K ((m,.w z)::(n,.v a)::e) j
 |22,[.chan (some n),.chan (some m),f,l,w],K,e,j=>qH P (dV f e) (dC l e) (dW w e w0) λa z=>K ((m,.w z)::(n,.v a)::e) j
 |23,[.chan (some n),.int k _,v],K,e,j=>cY k (dV v e) λz=>K ((n,.i z)::e) j
 |24,[.chan (some n),v],K,e,j=>wK (dV v e) λz=>K ((n,.b z)::e) j
 |25,[.chan (some n),v],K,e,j=>Iw (dV v e) λz=>K ((n,.s z)::e) j
 |26,[.chan (some n),v],K,e,j=>IV (dV v e) λz=>K ((n,.p z)::e) j
 |27,[.chan (some n),v],K,e,j=>iU (dV v e) λz=>K ((n,.l z)::e) j
 |28,[.chan (some n),v],K,e,j=>nv (dV v e) λz=>K ((n,.c z)::e) j
 |29,[.chan (some n),v],K,e,j=>ny.vW (dV v e) λz=>K ((n,.c z)::e) j
 |30,[.chan (some n),.chan (some m),v],K,e,j=>bM (dC v e) λz r=>K ((m,.c r)::(n,.v z)::e) j
 |31,[.chan (some t),ns,v],K,e,j=>D.un t (dV v e) λv=>K (ext (nl ns) v e) j
 |_,_,_,_,_=>False
def qq:Nat->List X->(En->Je->Prop)->En->Je->Prop
 |32,[a],K,e,j=>cv (dI a e)/\K e j
 |33,[a,.chan (some n),w,z],K,e,j=>Go.Ev.kept (dA a e) n (dW w e w0) (dW z e w0)/\K e j
 |34,[a,.int k _],K,e,j=>(Ff (dI a e)/\dI a e<=IntKind.max k)/\K e j
 |35,[a],K,e,j=>Ff (dI a e)/\K e j
 |36,[a],K,e,j=>pos (dI a e) (K e j)
 |37,[a],K,e,j=>AF (dI a e) (K e j)
 |38,[a],K,e,j=>dC a e=[]/\K e j
 |39,[a,c],K,e,j=>(((ByteArray.size (dS a e)+ByteArray.size (dS c e):Nat):Int)<=9223372036854775807)/\K e j
 |40,[.chan (some n),v],K,e,j=>ud (dV v e) λz=>K ((n,.b z)::e) j
 |41,[.chan (some n),v],K,e,j=>zQ (dV v e) λz=>K ((n,.b z)::e) j
 |42,[.chan (some n),a],K,e,j=>LZ (dP a e) λz=>K ((n,.a z)::e) j
 |_,_,_,_,_=>False
def nQ:Nat->List X->(En->Je->Prop)->En->Je->Prop
 |43,[i,n],K,e,j=>idx (dI i e) (dN n e) (K e j)
 |44,[a,i,n],K,e,j=>ij (dP a e) (dI i e) (dN n e) (K e j)
 |45,[.chan (some n),.int k _,l,i,.chan (some s)],K,e,j=>Ws k (dC l e) (dI i e) s λz=>K ((n,.i z)::e) j
 |46,[.chan (some n),x,h],K,e,j=>CP (dL x e) (dI h e) λz=>K ((n,.l z)::e) j
 |47,[.chan (some n),.chan (some s),x,l],K,e,j=>E0 s (dL x e) (dI l e) λz=>K ((n,.l z)::e) j
 |48,[.chan (some n),.chan (some s),x,l,h],K,e,j=>EG s (dL x e) (dI l e) (dI h e) λz=>K ((n,.l z)::e) j
 |49,[.chan (some n),x,h,m],K,e,j=>VT (dL x e) (dI h e) (dI m e) λz=>K ((n,.l z)::e) j
 |50,[.chan (some n),.chan (some s),x,l,h,m],K,e,j=>Mr s (dL x e) (dI l e) (dI h e) (dI m e) λz=>K ((n,.l z)::e) j
 |54,[.agg ⟨l⟩,.agg ⟨ls⟩,ns,.chan (some k),.chan (some m),.agg ⟨vs⟩,w],K,e,j=>D.lp l (AL ls) (λc v w=>K ((m,.w w)::ext (nl ns) v e) ((k,c)::j)) (Cj l vs e) (dW w e w0)
 |57,[h,s],K,e,j=>(Ff (dI h e)/\dI h e<=((ByteArray.size (dS s e):Nat):Int))/\K e j
 |58,[l,h,s],K,e,j=>(Ff (dI l e)/\dI l e<=dI h e/\dI h e<=((ByteArray.size (dS s e):Nat):Int))/\K e j
 |62,[.chan (some n),a],K,e,j=>lt (dI a e) λz=>K ((n,.i z)::e) j
 |63,[.chan (some n),a],K,e,j=>lt (dB a e) λz=>K ((n,.b z)::e) j
 |64,[.chan (some n),a],K,e,j=>lt (dS a e) λz=>K ((n,.s z)::e) j
 |59,[.chan (some n),.chan (some t),l],K,e,j=>Option.elim (β:=Prop) (HQ P t (I2 e (elts l))) False λz=>K ((n,.v z)::e) j
 |_,_,_,_,_=>False
def h0:Nat->List X->En->Je->Prop
 |0,_,_,_=>False
 |55,[v,w],e,_=>R (dV v e) (dW w e w0)
 |56,[.chan (some k),.agg ⟨l⟩,.agg ⟨vs⟩,w],e,j=>get k (λ_ _=>False) j (Cj l vs e) (dW w e w0)
 |61,_,_,_=>True
 |_,_,_,_=>False
def h2:Nat->List X->(En->Je->Prop)->(En->Je->Prop)->En->Je->Prop
 |51,[c],A,B,e,j=>dc (dB c e) (A e j) (B e j)
 |52,[],A,B,e,j=>A e j/\B e j
 |53,[.agg ⟨l⟩,.agg ⟨ls⟩,ns,.chan (some k),.chan (some m)],A,B,e,j=>D.jn l (AL ls) (λv w=>A ((m,.w w)::ext (nl ns) v e) j) λc=>B e ((k,c)::j)
 |_,_,_,_,_,_=>False
def den:X->En->Je->Prop
 |.func (.func t) ⟨[.chan (some 0),b]⟩ ⟨l⟩,e,j=>rY D w0 t l (den b) e j
 |.func (.func t) ⟨[.chan (some 1),b]⟩ ⟨l⟩,e,j=>uS P w0 t l (den b) e j
 |.func (.func t) ⟨[.chan (some 2),b]⟩ ⟨l⟩,e,j=>k8 P D w0 t l (den b) e j
 |.func (.func t) ⟨[.chan (some 3),b]⟩ ⟨l⟩,e,j=>qq w0 t l (den b) e j
 |.func (.func t) ⟨[.chan (some 4),b]⟩ ⟨l⟩,e,j=>nQ P D w0 t l (den b) e j
 |.func (.func t) ⟨[]⟩ ⟨l⟩,e,j=>h0 w0 R t l e j
 |.func (.func t) ⟨[a,b,_]⟩ ⟨l⟩,e,j=>h2 D t l (den a) (den b) e j
 |_,_,_=>False
termination_by structural v=>v
def uA:X->Value->C0
 |.func (.func 1) _ _,.int _ z=>.i z
 |.func (.func 2) _ _,.bool z=>.b z
 |.func (.func 3) _ _,.string z=>.s z
 |.func (.func 4) _ _,.pointer z=>.p z
 |.func (.func 5) _ _,.pointer (some z)=>.a z
 |.func (.func 6) _ _,.slice a n c=>.l ⟨a,n,c⟩
 |.func (.func 7) _ _,.iface _ (.agg ⟨l⟩)=>.c l
 |.func (.func 8) _ _,.iface _ v=>.v v
 |_,v=>.v v
def MR:X->Value->List C0
 |.func (.func 9) _ ⟨[.agg ⟨l⟩]⟩,.agg ⟨cs⟩=>List.zipWith uA l cs
 |.func (.func 10) _ ⟨[s]⟩,v=>[uA s v]
 |_,_=>[]
def EN:List X->List Value->List C0
 |[],_=>[]
 |s::r,v::vs=>MR s v++EN r vs
 |_::_,[]=>[]
def EO:List Nat->List C0->En
 |[],_=>[]
 |n::ns,c::cs=>(n,c)::EO ns cs
 |_::_,[]=>[]
def root:X->Prop
 |.func (.func 60) ⟨[_,b]⟩ ⟨[.chan (some m),s,ns,vs]⟩=>den P D w0 R b ((m,.w w0)::EO (nl ns) (EN (elts s) (elts vs))) []
 |_=>False
theorem ahg{A:Type}{n k:Nat}{d c:A}{r:List (Nat × A)}:get n d ((k,c)::r)=cond (k == n) c (get n d r):=rfl
theorem ajd(s:ag):ag.mk s.a s.n s.c=s:=rfl
end Go.Ev.Tx
