/- Texts of this claim, packed and shortened. -/
import Derived.Tactics
import Derived.Orders
import Derived.Below
import Derived.Laws.Entries
import Derived.Laws.Small
import Derived.Laws.Strings
import Derived.Laws.Slices
import Derived.Scope
import Derived.Control
import Derived.Laws.OwnMore
import Derived.Laws.MakeOwn
import Derived.WalkKit
import Derived.ProofKit
import Derived.OpenShut
import Derived.Carry
import Derived.ChangeOld
import Derived.Deep.DeepHandedRow
import Derived.Test.YtgjoehgomjgckaaGreatDoorProg
import Derived.KernelRfl
section
set_option linter.unusedVariables false
set_option linter.unusedSimpArgs false
namespace Go.Ev
open Go
variable{o:Oper}{j:Nat}{dn:List Nat}{A1 A2 A3:Type}
structure Mode where
 nw:Bool
 dv:Bool
def cv(x:Int):Prop:=-9223372036854775808<=x/\x<=9223372036854775807
def lt{A:Type}(x:A)(K:A->Prop):Prop:=K x
structure ag where
 a:Option Addr
 n:Nat
 c:Nat
@[reducible] def ag.v(s:ag):Value:=.slice s.a s.n s.c
def dc(b:Bool)(A B:Prop):Prop:=Bool.rec B A b
def Iv:IntKind->Bool | .i64=>true|_=>false
def ar(nw:Bool)(k:IntKind)(z:Int)(K:Int->Prop):Prop:=cond (nw&&Iv k) (cv z/\K z) (K (k.wrap z))
def pos(y:Int)(A:Prop):Prop:=match y with | .ofNat (_+1)=>A|_=>0<y/\A
def AF(y:Int)(A:Prop):Prop:=match y with | .ofNat _=>A|_=>0<=y/\A
def shl(k:IntKind)(x y:Int):Int:=k.wrap (x*2 ^ (min y.toNat k.bits))
def shr(k:IntKind)(x y:Int):Int:=x.fdiv (2 ^ (min y.toNat k.bits))
def nF(k:IntKind)(x y:Int):Int:=k.wrap (BitVec.ofInt k.bits x&&&BitVec.ofInt k.bits y).toNat
def wJ(k:IntKind)(x y:Int):Int:=k.wrap (BitVec.ofInt k.bits x|||BitVec.ofInt k.bits y).toNat
def yy(k:IntKind)(x y:Int):Int:=k.wrap (BitVec.ofInt k.bits x^^^BitVec.ofInt k.bits y).toNat
def yz(k:IntKind)(x y:Int):Int:=k.wrap (BitVec.ofInt k.bits x&&&~~~ BitVec.ofInt k.bits y).toNat
def IF(k:IntKind)(x:Int):Int:=yy k (if k.signed then -1 else k.max) x
def ud(v:Value)(K:Bool->Prop):Prop:=match v with | .nilIface=>K true | .iface _ _=>K false|_=>False
def zQ(v:Value)(K:Bool->Prop):Prop:=match v with | .nilFunc=>K true | .func _ _ _=>K false|_=>False
def LZ(p:Option Addr)(K:Addr->Prop):Prop:=match p with|some a=>K a|none=>False
def base(a:Option Addr):Addr:=a.getD ⟨0,0,none⟩
def idx(i:Int)(n:Nat)(A:Prop):Prop:=(0<=i/\i<(n:Int))/\A
def ij(a:Option Addr)(i:Int)(n:Nat)(A:Prop):Prop:=(a.isSome=true/\0<=i/\i<(n:Int))/\A
def tq(b:ByteArray)(i:Int):Int:=(b.data.toList.getD i.toNat 0).toNat
def Ws(k:IntKind)(cs:List Value)(i:Int)(n:Nat)(K:Int->Prop):Prop:=idx i n (∃z,cs[i.toNat]? = some (.int k z)/\K z)
def sub(a:Option Addr)(l m sz:Nat):Option Addr:=if m=l then a else a.map (·.add (l*sz))
def au(k:IntKind)(a:Addr)(w:World)(K:Int->Prop):Prop:=∃n,w.cell? a=some (.int k n)/\K n
def mV(a:Addr)(w:World)(K:Bool->Prop):Prop:=∃b,w.cell? a=some (.bool b)/\K b
def jX(a:Addr)(w:World)(K:ByteArray->Prop):Prop:=∃b,w.cell? a=some (.string b)/\K b
def uR(a:Addr)(w:World)(K:Option Addr->Prop):Prop:=∃p,w.cell? a=some (.pointer p)/\K p
def az(a:Addr)(w:World)(K:ag->Prop):Prop:=∃s:ag,w.cell? a=some (.slice s.a s.n s.c)/\K s
def Nv(a:Addr)(w:World)(K:Value->Prop):Prop:=∃v,w.cell? a=some v/\K v
def rowAt(w:World)(a:Addr)(cs:List Value):Prop:=∀i v,cs[i]? = some v->w.cell? (a.add i)=some v
def yQ(n:Nat)(a:Addr)(w:World)(K:List Value->Prop):Prop:=∃cs,cs.length=n/\rowAt w a cs/\K cs
def dQ:Value->Bool | .agg _ | .tuple _=>false|_=>true
def VQ(v:Value)(A:Prop):Prop:=match v with | .agg _ | .tuple _=>False|_=>A
def st(a:Addr)(v:Value)(w:World)(K:World->Prop):Prop:=(∃u,w.cell? a=some u)/\w.frozen? a=false/\VQ v (K (w.setCell a v))
def setRow:World->Addr->Nat->List Value->World
 |w,_,_,[]=>w
 |w,a,i,v::r=>setRow (w.setCell (a.add i) v) a (i+1) r
def yR(n:Nat)(a:Addr)(cs:List Value)(w:World)(K:World->Prop):Prop:=
 cs.length=n/\(∀i,i<n->(∃u,w.cell? (a.add i)=some u)/\w.frozen? (a.add i)=false)/\(∀v∈cs,dQ v=true)/\K (setRow w a 0 cs)
def nw(t:TypeId)(cs:List Value)(w:World)(K:Addr->World->Prop):Prop:=K ⟨w.heap.size,0,none⟩ (w.alloc (.cells ⟨cs⟩ t))
def zc(P:Program)(t:TypeId):List Value:=match P.info? t with|some i=>(match i.zero with|some v=>v.cells.toList|none=>[])|none=>[]
def j9(n:Nat)(zs:List Value):List Value:=(List.replicate n zs).flatten
def bytesOf(P:Program)(t:TypeId):Nat:=match P.info? t with|some i=>i.bytes|none=>0
def sizeOf(P:Program)(t:TypeId):Nat:=match P.info? t with|some i=>i.size|none=>0
def known(P:Program)(t:TypeId):Bool:=(P.info? t).isSome
def L0(P:Program)(t:TypeId):Bool:=(P.underlying t).isSome
def uh(P:Program)(t:TypeId):Bool:=match P.info? t with|some i=>i.zero.isSome|none=>false
def HP(P:Program)(t:TypeId):Bool:=uh P t&&Nat.beq (zc P t).length (sizeOf P t)
def CH(P:Program)(t:TypeId)(l c:Int)(w:World)(K:ag->World->Prop):Prop:=
 (0<=l/\l<=c/\c<=9223372036854775807/\(bytesOf P t:Int)*c<=2 ^ 48)/\
  K ⟨some ⟨w.heap.size,0,none⟩,l.toNat,c.toNat⟩ (w.alloc (.cells ⟨j9 c.toNat (zc P t)⟩ t))
def Es(P:Program)(s:Sem Value)(w:World)(K:Value->World->Prop):Prop:=∃v w',s.run P w=.ok v w'/\K v w'
def ek(P:Program)(f:FuncId)(args:List Value)(w:World)(K:Value->World->Prop):Prop:=
 Calls P f ⟨args⟩ w λe w'=>∃v,e=.returned v/\K v w'
def jB(P:Program)(f:Nat):Bool:=match P.funcs[f]? with|some fn=>fn.body.isSome|none=>false
def qH(P:Program)(g:Value)(args:List Value)(w:World)(K:Value->World->Prop):Prop:=
 match g with | .func (.func f) first cap=>cond (jB P f) (ek P f (first.toList++args++cap.toList) w K) False|_=>False
inductive Sh where
 |int (k:IntKind)|bool|str|ptr|eX|sl|val|arr
 |cells (l:List Sh)|oU (l:List Sh)
def cY(k:IntKind)(v:Value)(K:Int->Prop):Prop:=∃n,v=.int k n/\K n
def wK(v:Value)(K:Bool->Prop):Prop:=∃b,v=.bool b/\K b
def Iw(v:Value)(K:ByteArray->Prop):Prop:=∃b,v=.string b/\K b
def IV(v:Value)(K:Option Addr->Prop):Prop:=∃p,v=.pointer p/\K p
def iU(v:Value)(K:ag->Prop):Prop:=∃s:ag,v=.slice s.a s.n s.c/\K s
def nv(v:Value)(K:List Value->Prop):Prop:=∃cs,v=.agg ⟨cs⟩/\K cs
def bM(vs:List Value)(K:Value->List Value->Prop):Prop:=match vs with | []=>False|v::r=>K v r
def Mp:TypeDesc->Sh
 |.int k=>.int k | .bool=>.bool | .string=>.str | .pointer _=>.ptr | .slice _=>.sl|_=>.val
mutual
def Am(P:Program):Nat->TypeId->Sh
 |0,_=>.val
 |d+1,t=>match P.underlying t with
  |some (.struct fs)=>.cells (leaves P d fs.toList)
  |some (.array _ _)=>.arr
  |some (.tuple ts)=>.oU (Vr P d ts.toList)
  |some u=>Mp u
  |none=>.val
def Vr(P:Program):Nat->List TypeId->List Sh
 |0,_=>[]
 |_,[]=>[]
 |d+1,t::r=>Am P d t::Vr P d r
def leaves(P:Program):Nat->List Field->List Sh
 |0,_=>[]
 |_,[]=>[]
 |d+1,f::r=>(match P.underlying f.type with
  |some (.struct fs)=>leaves P d fs.toList
  |some (.array n e)=>(List.replicate n (leaves P d [⟨ "",e,0,false,"","",0⟩])).flatten
  |some u=>[Mp u]
  |none=>[.val])++leaves P d r
end
def B5:Nat:=64
def zZ:Sh->Addr->World->(Value->Prop)->Prop
 |.int k,a,w,K=>au k a w λn=>K (.int k n)
 |.bool,a,w,K=>mV a w λb=>K (.bool b)
 |.str,a,w,K=>jX a w λb=>K (.string b)
 |.ptr,a,w,K=>uR a w λp=>K (.pointer p)
 |.sl,a,w,K=>az a w λs=>K (.slice s.a s.n s.c)
 |_,a,w,K=>Nv a w λv=>K v
def zR:List Sh->Addr->Nat->World->(List Value->Prop)->Prop
 |[],_,_,_,K=>K []
 |s::r,a,i,w,K=>zZ s (a.add i) w λv=>zR r a (i+1) w λvs=>K (v::vs)
def rF:Sh->Value->(Value->Prop)->Prop
 |.int k,v,K=>cY k v λn=>K (.int k n)
 |.bool,v,K=>wK v λb=>K (.bool b)
 |.str,v,K=>Iw v λb=>K (.string b)
 |.ptr,v,K=>IV v λp=>K (.pointer p)
 |.sl,v,K=>iU v λs=>K (.slice s.a s.n s.c)
 |.arr,v,K=>nv v λcs=>K (.agg ⟨cs⟩)
 |_,v,K=>K v
def vK:List Sh->List Value->(List Value->Prop)->Prop
 |[],vs,K=>vs=[]/\K []
 |s::r,vs,K=>bM vs λv qW=>rF s v λv'=>vK r qW λsX=>K (v'::sX)
def ny:Sh->Value->(Value->Prop)->Prop
 |.cells l,v,K=>nv v λcs=>vK l cs λfL=>K (.agg ⟨fL⟩)
 |.oU l,v,K=>vW v λvs=>rC l vs λqW=>K (.tuple ⟨qW⟩)
 |s,v,K=>rF s v K
where
 vW (v:Value) (K:List Value->Prop):Prop:=∃cs,v=.tuple ⟨cs⟩/\K cs
 rC:List Sh->List Value->(List Value->Prop)->Prop
  |[],vs,K=>vs=[]/\K []
  |.cells l::r,vs,K=>bM vs λv qW=>nv v λcs=>vK l cs λfL=>rC r qW λsX=>K (.agg ⟨fL⟩::sX)
  |s::r,vs,K=>bM vs λv qW=>rF s v λv'=>rC r qW λsX=>K (v'::sX)
def Hs:Sh->(Value->Prop)->Prop
 |.int k,F=>∀n:Int,F (.int k n)
 |.bool,F=>∀b:Bool,F (.bool b)
 |.str,F=>∀s:ByteArray,F (.string s)
 |.ptr,F=>∀p:Option Addr,F (.pointer p)
 |.eX,F=>∀a:Addr,F (.pointer (some a))
 |.sl,F=>∀s:ag,F (.slice s.a s.n s.c)
 |.arr,F=>∀cs:List Value,F (.agg ⟨cs⟩)
 |_,F=>∀v:Value,F v
def KU:List Sh->(List Value->Prop)->Prop
 |[],F=>F []
 |s::r,F=>Hs s λv=>KU r λvs=>F (v::vs)
def Mq:Sh->(Value->Prop)->Prop
 |.cells l,F=>KU l λvs=>F (.agg ⟨vs⟩)
 |s,F=>Hs s F
def jc(P:Program)(ts:List TypeId)(ty:TypeId)(vs:List Value)(w:World)(K:ag->World->Prop):Prop:=Es P (Builtin.append_ ⟨ts⟩ ty ⟨vs⟩) w λv w'=>iU v λs=>K s w'
def VR(P:Program)(ts:List TypeId)(ty:TypeId)(vs:List Value)(w:World)(K:Int->World->Prop):Prop:=Es P (Builtin.copy_ ⟨ts⟩ ty ⟨vs⟩) w λv w'=>cY .i64 v λn=>K n w'
def VS(P:Program)(e:TypeId)(b:ByteArray)(w:World)(K:ag->World->Prop):Prop:=Es P (Conv.stringToBytes e b) w λv w'=>iU v λs=>K s w'
def ML(P:Program)(x:ag)(w:World)(K:ByteArray->World->Prop):Prop:=Es P (Conv.bytesToString (.slice x.a x.n x.c)) w λv w'=>Iw v λb=>K b w'
def Lx(P:Program)(a:Option Addr)(w:World)(K:World->Prop):Prop:=match a with|some a=>(∃w',(markStringish a).run P w=.ok () w'/\K w')|none=>False
def IW(P:Program)(op:BinOp)(t:TypeId)(xs ys:List Value)(w:World)(K:Bool->World->Prop):Prop:=Es P (do eqGuard op t (.tmp 0) (.tmp 0) (.agg ⟨xs⟩) (.agg ⟨ys⟩);binOp op t (.agg ⟨xs⟩) (.agg ⟨ys⟩)) w λv w'=>wK v λb=>K b w'
abbrev Key:=List (Nat × Bool)
abbrev Fr:=List (Nat × Option Value)
structure St where
 fr:Fr
 cd:List (Nat × Key × Value)
 lt:List (Nat × Bool)
def look(t:Nat):Fr->Option Value
 |[]=>none
 |(s,v)::r=>cond (Nat.beq s t) v (look t r)
def cS(t:Nat):List (Nat × Key × Value)->Option (Key × Value)
 |[]=>none
 |(s,e)::r=>cond (Nat.beq s t) (some e) (cS t r)
def sQ(t:Nat):List (Nat × Bool)->Option Bool
 |[]=>none
 |(s,b)::r=>cond (Nat.beq s t) (some b) (sQ t r)
def yh(a b:Bool):Bool:=cond a b (cond b false true)
def gO(x:Nat × Bool):Key->Bool
 |[]=>false
 |y::r=>cond (Nat.beq x.1 y.1&&yh x.2 y.2) true (gO x r)
def lD(d:Nat):Key->Bool
 |[]=>false
 |y::r=>cond (Nat.beq d y.1) true (lD d r)
def within:Key->Key->Bool
 |[],_=>true
 |x::r,K=>cond (gO x K) (within r K) false
def St.val(s:St)(K:Key):Operand->Option Value
 |.tmp t=>match cS t s.cd with
  |some (k,v)=>cond (within k K) (some v) none
  |none=>look t s.fr
 |.const v=>some v
 |.global g=>some (.pointer (some ⟨g,0,none⟩))
 |.func f=>some (.func (.func f) #[] #[])
def nB(d:Nat):List (Nat × Key × Value)->List (Nat × Key × Value)
 |[]=>[]
 |(s,k,v)::r=>cond (Nat.beq s d||lD d k) (nB d r) ((s,k,v)::nB d r)
def yj(d:Nat):List (Nat × Bool)->List (Nat × Bool)
 |[]=>[]
 |(s,b)::r=>cond (Nat.beq s d) (yj d r) ((s,b)::yj d r)
def nG(d:Nat)(fr:Fr):List (Nat × Key × Value)->Fr
 |[]=>fr
 |(s,k,_)::r=>cond (lD d k) ((s,none)::nG d fr r) (nG d fr r)
def St.put(s:St)(d:Option Nat)(v:Option Value):St:=match d with
 |none=>s
 |some d=>⟨(d,v)::nG d s.fr s.cd,nB d s.cd,yj d s.lt⟩
def St.kU(s:St)(d:Option Nat)(k:Key)(v:Value):St:=match d with
 |none=>s
 |some d=>cond (lD d k) (s.put (some d) none) ⟨(d,none)::nG d s.fr s.cd,(d,k,v)::nB d s.cd,yj d s.lt⟩
def lC(g:Nat):Key->Key
 |[]=>[]
 |y::r=>cond (Nat.beq g y.1) (lC g r) (y::lC g r)
def ke(g:Nat)(b:Bool):List (Nat × Key × Value)->List (Nat × Key × Value)
 |[]=>[]
 |(s,k,v)::r=>cond (gO (g,!b) k) (ke g b r) (cond (gO (g,b) k) (match lC g k with | []=>ke g b r|k'=>(s,k',v)::ke g b r) ((s,k,v)::ke g b r))
def kg(g:Nat)(b:Bool)(fr:Fr):List (Nat × Key × Value)->Fr
 |[]=>fr
 |(s,k,v)::r=>cond (gO (g,!b) k) ((s,some undef)::kg g b fr r) (cond (gO (g,b) k) (match lC g k with | []=>(s,some v)::kg g b fr r|_=>kg g b fr r) (kg g b fr r))
def qm(g:Nat):List (Nat × Key × Value)->List (Nat × Key × Value)
 |[]=>[]
 |(s,k,v)::r=>cond (Nat.beq s g) (qm g r) ((s,k,v)::qm g r)
def St.settle(s:St)(g:Nat)(b:Bool):St:=⟨(g,some (.bool b))::kg g b s.fr s.cd,qm g (ke g b s.cd),(g,b)::s.lt⟩
def xZ(op:BinOp)(k:IntKind)(x:Int)(k':IntKind)(y:Int):Option Value:=
 match op with
 |.add=>cond (decide (k=k')) (some (.int k (k.wrap (x+y)))) none
 |.sub=>cond (decide (k=k')) (some (.int k (k.wrap (x - y)))) none
 |.mul=>cond (decide (k=k')) (some (.int k (k.wrap (x*y)))) none
 |.rem=>cond (decide (k=k')) (match y with | .ofNat (_+1)=>some (.int k (x.tmod y))|_=>none) none
 |.quo=>cond (decide (k=k')) (match y with | .ofNat (_+1)=>some (.int k (k.wrap (x.tdiv y)))|_=>none) none
 |.shl=>(match y with | .ofNat _=>some (.int k (shl k x y))|_=>none)
 |.shr=>(match y with | .ofNat _=>some (.int k (shr k x y))|_=>none)
 |.and=>cond (decide (k=k')) (some (.int k (nF k x y))) none
 |.or=>cond (decide (k=k')) (some (.int k (wJ k x y))) none
 |.xor=>cond (decide (k=k')) (some (.int k (yy k x y))) none
 |.andNot=>cond (decide (k=k')) (some (.int k (yz k x y))) none
 |.eql=>cond (decide (k=k')) (some (.bool (decide (x=y)))) none
 |.neq=>cond (decide (k=k')) (some (.bool (!decide (x=y)))) none
 |.lss=>cond (decide (k=k')) (some (.bool (decide (x<y)))) none
 |.leq=>cond (decide (k=k')) (some (.bool (decide (x<=y)))) none
 |.gtr=>cond (decide (k=k')) (some (.bool (decide (y<x)))) none
 |.geq=>cond (decide (k=k')) (some (.bool (decide (y<=x)))) none
def uu(P:Program)(op:BinOp)(t:TypeId)(a b:Value):Option Value:=
 match a,b with
 |.int k x,.int k' y=>xZ op k x k' y
 |.bool x,.bool y=>(match P.underlying t,op with|some .bool,.eql=>some (.bool (x == y))|some .bool,.neq=>some (.bool (!(x == y)))|_,_=>none)
 |.string x,.string y=>(match op with | .eql=>some (.bool (decide (x=y))) | .neq=>some (.bool (!decide (x=y)))|_=>none)
 |.slice p _ _,.slice none _ _=>(match P.underlying t,op with|some (.slice _),.eql=>some (.bool p.isNone)|some (.slice _),.neq=>some (.bool (!p.isNone))|_,_=>none)
 |.pointer p,.pointer none=>(match P.underlying t,op with|some (.pointer _),.eql=>some (.bool p.isNone)|some (.pointer _),.neq=>some (.bool (!p.isNone))|_,_=>none)
 |.map p,.map none=>(match P.underlying t,op with|some (.map _ _),.eql=>some (.bool p.isNone)|some (.map _ _),.neq=>some (.bool (!p.isNone))|_,_=>none)
 |_,_=>none
def Aa(off:Nat)(xs cells:List Value):List Value:=cells.take off++(xs++cells.drop (off+xs.length))
def Cu(place:Nat->Option (Nat × Nat))(cells:List Value):List (Nat × Value)->Option (List Value)
 |[]=>some cells
 |(i,v)::rest=>match place i with
  |none=>none
  |some (off,size)=>cond (Nat.beq v.cells.toList.length size&&Nat.ble (off+v.cells.toList.length) cells.length) (Cu place (Aa off v.cells.toList cells) rest) none
def placesOf(P:Program):List Field->Option (List (Nat × Nat))
 |[]=>some []
 |f::r=>cond (known P f.type) (match placesOf P r with|some l=>some ((f.offset,sizeOf P f.type)::l)|none=>none) none
def jR(ρ:Operand->Option Value):List Operand->Option (List Value)
 |[]=>some []
 |x::r=>match ρ x with|none=>none|some v=>match jR ρ r with|none=>none|some vs=>some (v::vs)
def partsOf(ρ:Operand->Option Value):List (Nat × Operand)->Option (List (Nat × Value))
 |[]=>some []
 |(i,x)::r=>match ρ x with|none=>none|some v=>match partsOf ρ r with|none=>none|some vs=>some ((i,v)::vs)
def sN(P:Program)(t:TypeId):Bool:=match P.underlying t with|some (.struct _)|some (.array _ _)=>true|_=>false
def HQ(P:Program)(t:TypeId)(ps:List (Nat × Value)):Option Value:=
 match P.underlying t with
 |some (.struct fs)=>cond (uh P t) (match placesOf P fs.toList with|some pl=>(match Cu (λi=>pl[i]?) (zc P t) ps with|some cs=>some (.agg ⟨cs⟩)|none=>none)|none=>none) none
 |some (.array _ e)=>cond (uh P t&&known P e) (match Cu (λi=>some (i*sizeOf P e,sizeOf P e)) (zc P t) ps with|some cs=>some (.agg ⟨cs⟩)|none=>none) none
 |_=>none
def L3(P:Program)(t:TypeId)(v:Value)(f:Nat):Option Value:=
 match v with
 |.agg cs=>(match P.underlying t with
  |some (.struct fs)=>(match fs.toList[f]? with
   |some fd=>cond (known P fd.type&&L0 P fd.type) (cond (sN P fd.type) (some (.agg ⟨(cs.toList.drop fd.offset).take (sizeOf P fd.type)⟩)) (cs.toList[fd.offset]?)) none
   |none=>none)
  |_=>none)
 |_=>none
def lF(P:Program)(ρ:Operand->Option Value):Op->Option Value
 |.move x | .assign x=>ρ x
 |.binOp op t x y _=>(match ρ x,ρ y with|some a,some b=>uu P op t a b|_,_=>none)
 |.unOp op _ x=>(match op,ρ x with
  |.not,some (.bool b)=>some (.bool (!b))
  |.neg,some (.int k n)=>some (.int k (k.wrap (0 - n)))
  |.xor,some (.int k n)=>some (.int k (IF k n))
  |_,_=>none)
 |.convert s d x=>(match P.underlying s,P.underlying d,ρ x with
  |some _,some (.int k),some (.int _ n)=>some (.int k (k.wrap n))
  |some .string,some .string,some (.string b)=>some (.string b)
  |_,_,_=>none)
 |.makeInterface t x=>(match P.underlying t with|some (.interface _)=>none|some _=>(ρ x).map (.iface t)|none=>none)
 |.makeFunc fn first cap=>(match jR ρ first.toList,jR ρ cap.toList with|some a,some b=>some (.func fn ⟨a⟩ ⟨b⟩)|_,_=>none)
 |.build t ps=>(match partsOf ρ ps.toList with|some vs=>HQ P t vs|none=>none)
 |.field t x f=>(match ρ x with|some v=>L3 P t v f|none=>none)
 |.extract x i=>(match ρ x with|some (.tuple vs)=>vs.toList[i]? | _=>none)
 |.fieldAddr t x f=>(match ρ x with
  |some (.pointer (some a))=>(match P.underlying t with
   |some (.struct fs)=>(match fs.toList[f]? with|some fd=>cond (Nat.beq (sizeOf P fd.type) 0||!known P fd.type) none (some (.pointer (some (a.add fd.offset))))|none=>none)
   |_=>none)
  |_=>none)
 |.call { callee:=.builtin .len,args,argTypes }=>(match jR ρ args.toList,argTypes.toList with
  |some [.slice _ n _],[t]=>(match P.underlying t with|some (.slice _)=>some (.int .i64 n)|_=>none)
  |some [.string s],[t]=>(match P.underlying t with|some .string=>some (.int .i64 s.size)|_=>none)
  |some [_],[t]=>(match P.underlying t with|some (.array n _)=>some (.int .i64 n)|_=>none)
  |_,_=>none)
 |.call { callee:=.builtin .cap,args,argTypes }=>(match jR ρ args.toList,argTypes.toList with
  |some [.slice _ _ c],[t]=>(match P.underlying t with|some (.slice _)=>some (.int .i64 c)|_=>none)
  |_,_=>none)
 |.call { callee:=.builtin .min,args,.. }=>(match jR ρ args.toList with
  |some (.int k x::r)=>HR k x r
  |_=>none)
 |.call { callee:=.builtin .max,args,.. }=>(match jR ρ args.toList with
  |some (.int k x::r)=>HS k x r
  |_=>none)
 |_=>none
where
 HR (k:IntKind) (x:Int):List Value->Option Value
  |[]=>some (.int k x)
  |.int _ y::r=>HR k (min x y) r
  |_=>none
 HS (k:IntKind) (x:Int):List Value->Option Value
  |[]=>some (.int k x)
  |.int _ y::r=>HS k (max x y) r
  |_=>none
def Et(m:Mode)(op:BinOp)(k:IntKind)(x:Int)(k':IntKind)(y:Int)(K:Value->Prop):Prop:=
 match op with
 |.add=>cond (decide (k=k')) (ar m.nw k (x+y) λz=>K (.int k z)) False
 |.sub=>cond (decide (k=k')) (ar m.nw k (x - y) λz=>K (.int k z)) False
 |.mul=>cond (decide (k=k')) (ar m.nw k (x*y) λz=>K (.int k z)) False
 |.quo=>cond (decide (k=k')) (pos y (cond m.dv ((0<=x/\x<=k.max)/\K (.int k (x / y))) (K (.int k (k.wrap (x.tdiv y)))))) False
 |.rem=>cond (decide (k=k')) (pos y (cond m.dv (0<=x/\K (.int k (x%y))) (K (.int k (x.tmod y))))) False
 |.shl=>AF y (K (.int k (shl k x y)))
 |.shr=>AF y (K (.int k (shr k x y)))
 |op=>match xZ op k x k' y with|some v=>K v|none=>False
def Wt:Operand->Bool | .const _=>true|_=>false
def Af(P:Program)(m:Mode)(op:BinOp)(t:TypeId)(yc:Bool)(a b:Value)(w:World)(K:Value->World->Prop):Prop:=
 match b with
 |.nilIface=>(match op,P.underlying t with
  |.eql,some (.interface _)=>cond yc (ud a λz=>K (.bool z) w) False
  |.neq,some (.interface _)=>cond yc (ud a λz=>K (.bool (!z)) w) False
  |_,_=>False)
 |.nilFunc=>(match op,P.underlying t with
  |.eql,some (.func _ _ _)=>zQ a λz=>K (.bool z) w
  |.neq,some (.func _ _ _)=>zQ a λz=>K (.bool (!z)) w
  |_,_=>False)
 |.int k' y=>(match a with | .int k x=>Et m op k x k' y λv=>K v w|_=>False)
 |.agg ys=>(match a with | .agg xs=>(match P.underlying t with|some (.struct _)=>IW P op t xs.toList ys.toList w λb w'=>K (.bool b) w'|_=>False)|_=>False)
 |.string y=>(match a,op with
  |.string x,.add=>(((x.size+y.size:Nat):Int)<=9223372036854775807)/\K (.string (x++y)) w
  |.string x,op=>(match uu P op t (.string x) (.string y)with|some v=>K v w|none=>False)
  |_,_=>False)
 |b=>match uu P op t a b with|some v=>K v w|none=>False
def Cg(ρ:Operand->Option Value):Option Operand->Option (Option Value)
 |none=>some none
 |some x=>match ρ x with|some v=>some (some v)|none=>none
def CP(x:ag)(h:Int)(K:ag->Prop):Prop:=(0<=h/\h<=(x.c:Int))/\K ⟨x.a,h.toNat,x.c⟩
def E0(sz:Nat)(x:ag)(l:Int)(K:ag->Prop):Prop:=(0<=l/\l<=(x.n:Int))/\K ⟨sub x.a l.toNat x.c sz,x.n - l.toNat,x.c - l.toNat⟩
def EG(sz:Nat)(x:ag)(l h:Int)(K:ag->Prop):Prop:=(0<=l/\l<=h/\h<=(x.c:Int))/\K ⟨sub x.a l.toNat x.c sz,h.toNat - l.toNat,x.c - l.toNat⟩
def VT(x:ag)(h m:Int)(K:ag->Prop):Prop:=(0<=h/\h<=m/\m<=(x.c:Int))/\K ⟨x.a,h.toNat,m.toNat⟩
def Mr(sz:Nat)(x:ag)(l h m:Int)(K:ag->Prop):Prop:=(0<=l/\l<=h/\h<=m/\m<=(x.c:Int))/\K ⟨sub x.a l.toNat m.toNat sz,h.toNat - l.toNat,m.toNat - l.toNat⟩
def An(P:Program)(t:TypeId)(x:ag)(lo hi mx:Option Value)(K:ag->Prop):Prop:=
 match lo,hi,mx with
 |none,none,none=>K x
 |none,some (.int _ h),none=>CP x h K
 |some (.int _ l),none,none=>E0 (sizeOf P t) x l K
 |some (.int _ l),some (.int _ h),none=>EG (sizeOf P t) x l h K
 |none,some (.int _ h),some (.int _ m)=>VT x h m K
 |some (.int _ l),some (.int _ h),some (.int _ m)=>Mr (sizeOf P t) x l h m K
 |_,_,_=>False
def Vs(s:ByteArray)(lo hi:Option Value)(K:ByteArray->Prop):Prop:=
 match lo,hi with
 |none,none=>K s
 |none,some (.int _ h)=>(0<=h/\h<=(s.size:Int))/\K (s.extract 0 h.toNat)
 |some (.int _ l),none=>(0<=l/\l<=(s.size:Int))/\K (s.extract l.toNat s.size)
 |some (.int _ l),some (.int _ h)=>(0<=l/\l<=h/\h<=(s.size:Int))/\K (s.extract l.toNat h.toNat)
 |_,_=>False
def uJ(P:Program)(t:TypeId)(a:Addr)(w:World)(K:Value->Prop):Prop:=
 match P.underlying t with
 |some (.struct _)=>(match Am P B5 t with
  |.cells l=>cond (known P t&&Nat.beq l.length (sizeOf P t)) (zR l a 0 w λvs=>K (.agg ⟨vs⟩)) False
  |_=>False)
 |some (.array _ _)=>cond (known P t) (yQ (sizeOf P t) a w λcs=>K (.agg ⟨cs⟩)) False
 |some u=>cond (Nat.beq (sizeOf P t) 1) (zZ (Mp u) a w K) False
 |none=>False
def lX:List Value->Addr->Nat->World->(World->Prop)->Prop
 |[],_,_,w,K=>K w
 |v::r,a,i,w,K=>st (a.add i) v w λw'=>lX r a (i+1) w' K
def EH(P:Program)(t:TypeId)(a:Addr)(v:Value)(w:World)(K:World->Prop):Prop:=
 cond (known P t) (match P.underlying t with
 |some (.struct _)=>(match v with | .agg cs=>cond (Nat.beq cs.toList.length (sizeOf P t)) (lX cs.toList a 0 w K) False|_=>False)
 |some (.array _ _)=>(match v with | .agg cs=>yR (sizeOf P t) a cs.toList w K|_=>False)
 |some _=>cond (Nat.beq (sizeOf P t) 1) (st a v w K) False
 |none=>False) False
def yl(P:Program)(dst:Option Nat)(t:TypeId)(v:Value)(K:Value->Prop):Prop:=
 match dst with
 |none=>K v
 |some _=>match Am P B5 t with
  |.oU []=>K v
  |s=>ny s v K
def wz(P:Program)(m:Mode)(ρ:Operand->Option Value)(o:Oper)(w:World)(K:Value->World->Prop):Prop:=
 match o.op with
 |.binOp op t x y _=>(match ρ x,ρ y with|some a,some b=>Af P m op t (Wt y) a b w K|_,_=>False)
 |.unOp .neg _ x=>(match ρ x with|some (.int k n)=>ar m.nw k (0 - n) λz=>K (.int k z) w|_=>False)
 |.convert s d x=>(match P.underlying s,P.underlying d,ρ x with
  |some (.int _),some (.int k),some (.int _ n)=>ar m.nw k n λz=>K (.int k z) w
  |some .string,some .string,some (.string b)=>K (.string b) w
  |some .string,some (.slice e),some (.string b)=>(match P.underlying e with|some (.int .u8)=>VS P e b w λs w'=>K (.slice s.a s.n s.c) w'|_=>False)
  |some (.slice _),some (.slice e),some (.slice a n c)=>(match P.underlying e with|some (.int .u8)=>cond (Nat.beq s d) (Lx P a w λw'=>K (.slice a n c) w') False|_=>False)
  |some (.slice e),some .string,some (.slice a n c)=>(match P.underlying e with|some (.int .u8)=>ML P ⟨a,n,c⟩ w λb w'=>K (.string b) w'|_=>False)
  |_,_,_=>False)
 |.index t x i=>(match ρ x,ρ i with
  |some (.string b),some (.int _ i)=>(match P.underlying t with|some .string=>idx i b.size (K (.int .u8 (tq b i)) w)|_=>False)
  |some (.agg cs),some (.int _ i)=>(match P.underlying t with
   |some (.array n e)=>(match P.underlying e with
    |some (.int k)=>cond (Nat.beq (sizeOf P e) 1&&known P e) (Ws k cs.toList i n λz=>K (.int k z) w) False
    |_=>False)
   |_=>False)
  |_,_=>False)
 |.indexAddr t x i=>(match ρ x,ρ i with
  |some (.slice a n _),some (.int _ i)=>(match P.underlying t with|some (.slice e)=>cond (known P e) (ij a i n (K (.pointer (some ((base a).add (i.toNat*sizeOf P e)))) w)) False|_=>False)
  |some (.pointer (some a)),some (.int _ i)=>(match P.underlying t with|some (.array n e)=>cond (known P e) (idx i n (K (.pointer (some (a.add (i.toNat*sizeOf P e)))) w)) False|_=>False)
  |_,_=>False)
 |.slice t x lo hi mx=>(match ρ x,Cg ρ lo,Cg ρ hi,Cg ρ mx with
  |some (.slice a n c),some lo,some hi,some mx=>(match P.underlying t with|some (.slice e)=>cond (known P e) (An P e ⟨a,n,c⟩ lo hi mx λs=>K (.slice s.a s.n s.c) w) False|_=>False)
  |some (.pointer (some a)),some lo,some hi,some mx=>(match P.underlying t with|some (.array n e)=>cond (known P e) (An P e ⟨some a,n,n⟩ lo hi mx λs=>K (.slice s.a s.n s.c) w) False|_=>False)
  |some (.string b),some lo,some hi,some none=>(match P.underlying t with|some .string=>Vs b lo hi λs=>K (.string s) w|_=>False)
  |_,_,_,_=>False)
 |.nilCheck x=>(match ρ x with|some (.pointer p)=>LZ p λa=>K (.pointer (some a)) w|_=>False)
 |.load t x=>(match ρ x with|some (.pointer (some a))=>uJ P t a w λv=>K v w|_=>False)
 |.store t x y=>(match ρ x,ρ y with|some (.pointer (some a)),some v=>EH P t a v w λw'=>K undef w'|_,_=>False)
 |.alloc t=>cond (uh P t) (nw t (zc P t) w λa w'=>K (.pointer (some a)) w') False
 |.box t x=>(match ρ x with|some v=>nw t v.cells.toList w λa w'=>K (.pointer (some a)) w'|none=>False)
 |.buildSlice t n ps=>(match P.underlying t,partsOf ρ ps.toList with
  |some (.slice e),some vs=>(match Cu (λi=>some (i*sizeOf P e,sizeOf P e)) (j9 n (zc P e)) vs with
   |some cs=>cond (Nat.ble (n*sizeOf P e) 16777216&&HP P e) (nw e cs w λa w'=>K (.slice (some a) n n) w') False
   |none=>False)
  |_,_=>False)
 |.makeSlice t l c=>(match P.underlying t,ρ l,ρ c with
  |some (.slice e),some (.int _ l),some (.int _ c)=>cond (HP P e) (CH P e l c w λs w'=>K (.slice s.a s.n s.c) w') False
  |_,_,_=>False)
 |.call c=>(match jR ρ c.args.toList with
  |none=>False
  |some vs=>match c.callee with
   |.builtin .append=>jc P c.argTypes.toList o.type vs w λs w'=>K (.slice s.a s.n s.c) w'
   |.builtin .copy=>VR P c.argTypes.toList o.type vs w λn w'=>K (.int .i64 n) w'
   |.value g=>(match ρ g with|some g=>qH P g vs w λv w'=>yl P o.dst o.type v λv'=>K v' w'|none=>False)
   |_=>match lF P ρ o.op with|some v=>K v w|none=>False)
 |op=>match lF P ρ op with|some v=>K v w|none=>False
def UL(c a b:Option Value)(K:Value->Prop):Prop:=
 match c with
 |some (.bool t)=>(match a,b with
  |some (.bool x),some (.bool y)=>K (.bool (cond t x y))
  |some v,none=>dc t (K v) False
  |none,some v=>dc t False (K v)
  |some u,some v=>dc t (K u) (K v)
  |none,none=>False)
 |_=>False
def Ly(c a b:Option Value):Option Value:=
 match c,a,b with
 |some (.bool t),some (.bool x),some (.bool y)=>some (.bool (cond t x y))
 |_,_,_=>none
def Eu(P:Program)(s:St)(k:Key)(o:Oper):Option Value:=
 match o.op with
 |.pick c a b=>Ly (s.val k c) (s.val ((match c with | .tmp t=>[(t,true)]|_=>[])++k) a) (s.val ((match c with | .tmp t=>[(t,false)]|_=>[])++k) b)
 |op=>lF P (s.val k) op
def early:Op->Bool
 |.move _ | .assign _ | .pick .. | .unOp .. | .makeInterface .. | .makeFunc .. | .build .. | .field .. | .extract .. | .fieldAddr ..=>true
 |.binOp op _ _ y _=>(match op,y with|_,.const .nilIface=>false|_,.const .nilFunc=>false | .quo,.const _=>true | .rem,.const _=>true | .shl,.const _=>true | .shr,.const _=>true | .quo,_=>false | .rem,_=>false | .shl,_=>false | .shr,_=>false|_,_=>true)
 |.call { callee:=.builtin .len,.. } | .call { callee:=.builtin .cap,.. } | .call { callee:=.builtin .min,.. } | .call { callee:=.builtin .max,.. }=>true
 |_=>false
def xO(s:St):Key->(St->Bool->Prop)->Prop
 |[],K=>K s true
 |(g,want)::r,K=>xO s r λs' on=>cond on
   (match s'.val [] (.tmp g)with
    |some (.bool b)=>dc b (K (s'.settle g true) want) (K (s'.settle g false) (!want))
    |some (.tuple _)=>K s' false
    |_=>False)
   (K s' false)
def oE(P:Program)(m:Mode)(o:Oper)(s:St)(w:World)(K:St->World->Prop):Prop:=
 match o.op with
 |.pick c a b=>UL (s.val [] c) (s.val (match c with | .tmp t=>[(t,true)]|_=>[]) a) (s.val (match c with | .tmp t=>[(t,false)]|_=>[]) b) λv=>K (s.put o.dst (some v)) w
 |.move x | .assign x=>K (s.put o.dst (s.val [] x)) w
 |_=>wz P m (s.val []) o w λv w'=>K (s.put o.dst (some v)) w'
def rG(P:Program)(m:Mode)(ops:Array Oper)(o:Oper)(s:St)(w:World)(K:St->World->Prop):Prop:=
 match o.guard with
 |none=>oE P m o s w K
 |some (j,want)=>match ((ops.toList[j]?).bind (·.dst))with
  |none=>False
  |some g=>match sQ g s.lt with
   |some b=>cond (yh b want) (oE P m o s w K) (K (s.put o.dst (some undef)) w)
   |none=>
    cond (early o.op)
     (match Eu P s ((g,want)::(match cS g s.cd with|some (k,_)=>k|none=>[])) o with
      |some v=>K (s.kU o.dst ((g,want)::(match cS g s.cd with|some (k,_)=>k|none=>[])) v) w
      |none=>xO s ((g,want)::(match cS g s.cd with|some (k,_)=>k|none=>[])) λs' on=>cond on (oE P m o s' w K) (K (s'.put o.dst (some undef)) w))
     (match o.op with
      |.load t x=>(match s.val ((g,want)::(match cS g s.cd with|some (k,_)=>k|none=>[])) x with
       |some (.pointer (some a))=>uJ P t a w λv=>K (s.kU o.dst ((g,want)::(match cS g s.cd with|some (k,_)=>k|none=>[])) v) w
       |_=>False)
      |_=>xO s ((g,want)::(match cS g s.cd with|some (k,_)=>k|none=>[])) λs' on=>cond on (oE P m o s' w K) (K (s'.put o.dst (some undef)) w))
def rR(P:Program)(m:Mode)(ops:Array Oper):List Oper->St->World->(Fr->World->Prop)->Prop
 |[],s,w,K=>K s.fr w
 |o::r,s,w,K=>rG P m ops o s w λs' w'=>rR P m ops r s' w' K
def cls(P:Program):Op->Nat
 |.load ..=>1
 |.store .. | .alloc _ | .box .. | .buildSlice .. | .makeSlice ..=>2
 |.call { callee:=.builtin .len,.. } | .call { callee:=.builtin .cap,.. } | .call { callee:=.builtin .min,.. } | .call { callee:=.builtin .max,.. }=>0
 |.call _=>2
 |.convert s d _=>(match P.underlying s,P.underlying d with
  |some (.int _),some (.int _)=>0
  |some .string,some .string=>0
  |_,_=>2)
 |.binOp _ t _ _ _=>(match P.underlying t with|some (.struct _)|some (.array _ _)=>2|_=>0)
 |.move _ | .assign _ | .pick .. | .unOp .. | .makeInterface .. | .makeFunc .. | .build .. | .field .. | .extract .. | .fieldAddr .. | .index .. | .indexAddr .. | .slice .. | .nilCheck _=>0
 |_=>2
def after(o:Oper):List Nat:=o.after.toList.filterMap λe=>cond (Region.binds .any e) (some e.on) none
def kA(x:Nat):List Nat->Bool
 |[]=>false
 |y::r=>cond (Nat.beq x y) true (kA x r)
def lists:List Oper->List (List Nat)
 |[]=>[]
 |o::r=>after o::lists r
def slotsOf(ops:List Oper)(o:Oper):List Nat:=
 (o.op.operands.toList.filterMap fun | .tmp t=>some t|_=>none)++(match o.guard with|some (g,_)=>((ops[g]?).bind (·.dst)).toList|none=>[])
def HT(ops:List Oper)(x y:Oper):Bool:=
 (match x.dst with|some d=>cond (kA d (slotsOf ops y)) false (match y.dst with|some e=>!(Nat.beq d e)|none=>true)|none=>true)&&
 (match y.dst with|some d=>!(kA d (slotsOf ops x))|none=>true)
def BP(ops:List Oper)(i:Nat)(o:Oper):Nat->List Oper->Bool
 |_,[]=>true
 |j,x::r=>cond (Nat.beq i j||kA i (after x)||kA j (after o)||HT ops o x) (BP ops i o (j+1) r) false
def zN(ops:List Oper):Nat->List Oper->Bool
 |_,[]=>true
 |i,o::r=>cond (BP ops i o 0 ops) (zN ops (i+1) r) false
def Ag:List Oper->Bool
 |[]=>true
 |o::r=>match o.op with | .select ..=>false|_=>Ag r
def ya(acc:List Nat):List Nat->Nat
 |[]=>0
 |j::r=>Nat.lor (Nat.lor (2 ^ j) (acc.getD j 0)) (ya acc r)
def lZ:List Oper->List Nat->List Nat
 |[],acc=>acc
 |o::r,acc=>lZ r (acc++[ya acc (after o)])
def kept(a:Addr)(n:Nat)(w w':World):Prop:=∀j,j<n->w'.cell? (a.add j)=w.cell? (a.add j)
abbrev Rd:=List (Nat × Addr × Nat)
def B6(mask:Nat)(w w':World)(A:Prop):Rd->Prop
 |[]=>A
 |(i,a,n)::r=>cond (Nat.testBit mask i) (B6 mask w w' A r) (kept a n w w'/\B6 mask w w' A r)
def Cv(dn:List Nat):List Nat->Bool
 |[]=>true
 |j::r=>cond (kA j dn) (Cv dn r) false
def lY(ops:List Oper)(dn:List Nat):Nat->List Oper->List (Nat × Oper)
 |_,[]=>[]
 |i,o::r=>cond (kA i dn) (lY ops dn (i+1) r) (cond (Cv dn (after o)) ((i,o)::lY ops dn (i+1) r) (lY ops dn (i+1) r))
def DD(P:Program):List (Nat × Oper)->Option (Nat × Oper)
 |[]=>none
 |(i,o)::r=>cond (Nat.ble (cls P o.op) 1) (some (i,o)) (DD P r)
def sI(P:Program)(ops:List Oper)(s:St)(i:Nat)(o:Oper):Rd:=
 match o.op with
 |.load t x=>(match s.val (match o.guard with
   |none=>[]
   |some (j,want)=>(match ((ops[j]?).bind (·.dst))with
    |none=>[]
    |some g=>(match sQ g s.lt with|some _=>[]|none=>(g,want)::(match cS g s.cd with|some (k,_)=>k|none=>[])))) x with
  |some (.pointer (some a))=>[(i,a,sizeOf P t)]
  |_=>[])
 |_=>[]
def CI(A:Nat × Oper->Prop):List (Nat × Oper)->Prop
 |[]=>True
 |x::r=>match r with | []=>A x|y::r'=>A x/\CI A (y::r')
def tu(P:Program)(m:Mode)(ops:Array Oper)(mk:List Nat):Nat->List Nat->Rd->St->World->(Fr->World->Prop)->Prop
 |0,dn,_,s,w,K=>(match lY ops.toList dn 0 ops.toList with | []=>K s.fr w|_::_=>False)
 |n+1,dn,C,s,w,K=>
  match lY ops.toList dn 0 ops.toList with
  |[]=>K s.fr w
  |x::r=>match DD P (x::r)with
   |some (i,o)=>rG P m ops o s w λs' w'=>tu P m ops mk n (i::dn) (sI P ops.toList s i o++C) s' w' K
   |none=>CI (λy=>rG P m ops y.2 s w λs' w'=>B6 (mk.getD y.1 0) w w' (tu P m ops mk n (y.1::dn) C s' w' K) C) (x::r)
def wL(P:Program)(m:Mode)(ops:Array Oper)(draw:Bool)(fr:Fr)(w:World)(K:Fr->World->Prop):Prop:=
 cond draw
  (cond (Ag ops.toList&&zN ops.toList 0 ops.toList) (tu P m ops (lZ ops.toList []) ops.toList.length [] [] ⟨fr,[],[]⟩ w.drew K) False)
  (rR P m ops ops.toList ⟨fr,[],[]⟩ w K)
abbrev mj:=List (Nat × List (Nat × Sh))
def uy(k:Option Nat):mj->Option (List (Nat × Sh))
 |[]=>none
 |(i,l)::r=>match k with|none=>none|some k=>cond (Nat.beq i k) (some l) (uy (some k) r)
def keyOf:Code->Option Nat
 |.region id _ _=>some id
 |.seq a b=>(match keyOf a with|some k=>some k|none=>keyOf b)
 |.cond _ a b=>(match keyOf a with|some k=>some k|none=>keyOf b)
 |.block _ a | .loop a | .scope a=>keyOf a
 |_=>none
def carry(fr:Fr):List (Nat × Sh)->Fr
 |[]=>[]
 |(t,_)::r=>(t,look t fr)::carry fr r
def Ah:List (Nat × Sh)->(Fr->Prop)->Prop
 |[],F=>F []
 |(t,s)::r,F=>Mq s λv=>Ah r λfr=>F ((t,some v)::fr)
def qL:List Oper->List Nat
 |[]=>[]
 |o::r=>match o.dst with|some d=>d::qL r|none=>qL r
def writes:Code->List Nat
 |.region _ ops _=>qL ops.toList
 |.seq a b | .cond _ a b=>writes a++writes b
 |.block _ a | .loop a | .scope a=>writes a
 |_=>[]
def ym:List (Nat × Sh)->List Nat->Bool
 |[],_=>true
 |(t,_)::r,ws=>cond (kA t ws) (ym r ws) false
def strip(ws:List Nat):Fr->Fr
 |[]=>[]
 |(t,v)::r=>cond (kA t ws) (strip ws r) ((t,v)::strip ws r)
def Ix(mk:Fr)(rest:World->Prop)(first:(World->Prop)->Prop):Prop:=
 ∀K:Fr->World->Prop,(∀w,rest w->K mk w)->first (λw=>K mk w)
def aj1(mk:Fr)(body:(World->Prop)->World->Prop)(v:World):Prop:=
 ∀X:Fr->World->Prop,(∀w,body (λw=>X mk w) w->X mk w)->X mk v
def Cw(mk:A1->Fr)(rest:A1->World->Prop)(first:(A1->World->Prop)->Prop):Prop:=
 ∀K:Fr->World->Prop,(∀x1 w,rest x1 w->K (mk x1) w)->first (λx1 w=>K (mk x1) w)
def Ai(mk:A1->Fr)(body:(A1->World->Prop)->A1->World->Prop)(y1:A1)(v:World):Prop:=
 ∀X:Fr->World->Prop,(∀x1 w,body (λx1 w=>X (mk x1) w) x1 w->X (mk x1) w)->X (mk y1) v
def sR(mk:A1->A2->Fr)(rest:A1->A2->World->Prop)(first:(A1->A2->World->Prop)->Prop):Prop:=
 ∀K:Fr->World->Prop,(∀x1 x2 w,rest x1 x2 w->K (mk x1 x2) w)->first (λx1 x2 w=>K (mk x1 x2) w)
def wj(mk:A1->A2->Fr)(body:(A1->A2->World->Prop)->A1->A2->World->Prop)(y1:A1)(y2:A2)(v:World):Prop:=
 ∀X:Fr->World->Prop,(∀x1 x2 w,body (λx1 x2 w=>X (mk x1 x2) w) x1 x2 w->X (mk x1 x2) w)->X (mk y1 y2) v
def Ew(mk:A1->A2->A3->Fr)(rest:A1->A2->A3->World->Prop)(first:(A1->A2->A3->World->Prop)->Prop):Prop:=
 ∀K:Fr->World->Prop,(∀x1 x2 x3 w,rest x1 x2 x3 w->K (mk x1 x2 x3) w)->first (λx1 x2 x3 w=>K (mk x1 x2 x3) w)
def Cx(mk:A1->A2->A3->Fr)(body:(A1->A2->A3->World->Prop)->A1->A2->A3->World->Prop)(y1:A1)(y2:A2)(y3:A3)(v:World):Prop:=
 ∀X:Fr->World->Prop,(∀x1 x2 x3 w,body (λx1 x2 x3 w=>X (mk x1 x2 x3) w) x1 x2 x3 w->X (mk x1 x2 x3) w)->X (mk y1 y2 y3) v
def aj2{A4:Type}(mk:A1->A2->A3->A4->Fr)(rest:A1->A2->A3->A4->World->Prop)(first:(A1->A2->A3->A4->World->Prop)->Prop):Prop:=
 ∀K:Fr->World->Prop,(∀x1 x2 x3 x4 w,rest x1 x2 x3 x4 w->K (mk x1 x2 x3 x4) w)->first (λx1 x2 x3 x4 w=>K (mk x1 x2 x3 x4) w)
def Ms{A4:Type}(mk:A1->A2->A3->A4->Fr)(body:(A1->A2->A3->A4->World->Prop)->A1->A2->A3->A4->World->Prop)(y1:A1)(y2:A2)(y3:A3)(y4:A4)(v:World):Prop:=
 ∀X:Fr->World->Prop,(∀x1 x2 x3 x4 w,body (λx1 x2 x3 x4 w=>X (mk x1 x2 x3 x4) w) x1 x2 x3 x4 w->X (mk x1 x2 x3 x4) w)->X (mk y1 y2 y3 y4) v
abbrev kV:=Exit->Fr->World->Prop
def anX(id:Nat):Exit->Bool
 |.exit i=>Nat.beq i id
 |_=>false
def uz(K:Fr->World->Prop)(Q:kV):kV:=λe fr w=>match e with | .normal=>K fr w|e=>Q e fr w
def zO(id:Nat)(Q:kV):kV:=λe fr w=>match e with | .exit i=>cond (Nat.beq i id) (Q .normal fr w) (Q (.exit i) fr w)|e=>Q e fr w
def aii(Q:kV):kV:=λe fr w=>match e with | .goto _=>False|e=>Q e fr w
def dH(P:Program)(m:Mode)(J L:mj):Code->Fr->World->kV->Prop
 |.skip,fr,w,Q=>Q .normal fr w
 |.region _ ops draw,fr,w,Q=>wL P m ops draw fr w λaP w'=>Q .normal aP w'
 |.seq a b,fr,w,Q=>(match uy (keyOf b) J with
  |none=>dH P m J L a fr w (uz (λaP w'=>dH P m J L b aP w' Q) Q)
  |some ls=>cond (ym ls (writes a)) (∀K:Fr->World->Prop,(Ah ls λaP=>∀w',dH P m J L b (aP++strip (writes a) fr) w' Q->K aP w')->dH P m J L a fr w (uz (λaP w'=>K (carry aP ls) w') Q)) False)
 |.cond c a b,fr,w,Q=>(match (⟨fr,[],[]⟩:St).val [] c with
  |some (.bool t)=>dc t (dH P m J L a fr w Q) (dH P m J L b fr w Q)
  |_=>False)
 |.block id a,fr,w,Q=>dH P m J L a fr w (zO id Q)
 |.loop a,fr,w,Q=>(match uy (keyOf a) L with
  |none=>False
  |some ls=>cond (ym ls (writes a)) (∀X:Fr->World->Prop,(Ah ls λaP=>∀w',dH P m J L a (aP++strip (writes a) fr) w' (uz (λMM bS=>X (carry MM ls) bS) Q)->X aP w')->X (carry fr ls) w) False)
 |.exit id,fr,w,Q=>Q (.exit id) fr w
 |.ret,fr,w,Q=>Q .ret fr w
 |.label _,fr,w,Q=>Q .normal fr w
 |.scope a,fr,w,Q=>dH P m J L a fr w (aii Q)
 |_,_,_,_=>False
def qD(P:Program)(fr:Fr)(w:World):List ResultVar->(List Value->Prop)->Prop
 |[],K=>K []
 |.tmp t::r,K=>(match look t fr with|some v=>qD P fr w r λvs=>K (v::vs)|none=>False)
 |.cell t ty::r,K=>(match look t fr with|some (.pointer (some a))=>uJ P ty a w λv=>qD P fr w r λvs=>K (v::vs)|_=>False)
def HU(R:Value->World->Prop)(w:World):List Value->Prop
 |[v]=>R v w
 |vs=>R (.tuple ⟨vs⟩) w
def Ex(P:Program)(fn:Func)(R:Value->World->Prop):kV:=λe fr w=>match e with
 |.normal | .ret=>qD P fr w fn.results.toList (HU R w)
 |_=>False
def qM:Nat->List Value->Fr
 |_,[]=>[]
 |i,v::r=>(i,some v)::qM (i+1) r
def Cy(n:Nat):List Nat->Bool
 |[]=>true
 |t::r=>cond (Nat.blt t n) (Cy n r) false
@[irreducible] def CQ(P:Program)(m:Mode)(J L:mj)(fn:Func)(args:List Value)(w:World)(R:Value->World->Prop):Prop:=
 match fn.body with
 |some c=>cond (Cy fn.ntmps (writes c)) (dH P m J L c (qM 0 args) w (Ex P fn R)) False
 |none=>False
def Ok(P:Program)(f:FuncId)(args:List Value)(w:World)(R:Value->World->Prop):Prop:=ek P f args w R
theorem beq_eq{a b:Nat}:Nat.beq a b=true↔a=b:=⟨Nat.eq_of_beq_eq_true,λh=>h▸Nat.beq_refl a⟩
theorem fU{a b:Nat}:Nat.beq a b=false↔a≠b:=by
 rw[<- Bool.not_eq_true,Ne,not_congr beq_eq]
theorem BQ{a b:Bool}:yh a b=true↔a=b:=by cases a<;>cases b<;>simp[yh]
abbrev slot(a:Act)(t:Nat):Value:=a.tmps.getD t undef
def Sat(a:Act)(K:Key):Prop:=∀x∈K,slot a x.1=.bool x.2
theorem Sat.nil(a:Act):Sat a []:=λ_ h=>by cases h
theorem Sat.cons{a:Act}{x:Nat × Bool}{K:Key}:Sat a (x::K)↔slot a x.1=.bool x.2/\Sat a K:=by
 simp[Sat]
theorem KV{x:Nat × Bool}{K:Key}:gO x K=true↔x∈K:=by
 induction K with
 |nil=>simp[gO]
 |cons y r ih=>
  obtain⟨x1,x2⟩:=x;obtain⟨y1,y2⟩:=y
  simp only[gO]
  cases h:(Nat.beq x1 y1&&yh x2 y2)with
  |true=>
   simp only[Bool.and_eq_true,beq_eq,BQ]at h
   simp[h.1,h.2]
  |false=>
   have gP:(x1,x2)≠(y1,y2):=by
    intro e;cases e
    simp[BQ.2]at h
   simp[ih,gP]
theorem afV{d:Nat}{K:Key}:lD d K=true↔∃x∈K,x.1=d:=by
 induction K with
 |nil=>simp[lD]
 |cons y r ih=>
  simp only[lD]
  cases h:Nat.beq d y.1 with
  |true=>simp[beq_eq.1 h]
  |false=>
   have:y.1≠d:=λe=>(fU.1 h) e.symm
   simp[ih,this]
theorem aez{a:Act}{k K:Key}(h:within k K=true)(hs:Sat a K):Sat a k:=by
 induction k with
 |nil=>exact Sat.nil a
 |cons x r ih=>
  simp only[within]at h
  cases hx:gO x K with
  |true=>rw[hx]at h;exact Sat.cons.2 ⟨hs x (KV.1 hx),ih h⟩
  |false=>rw[hx]at h;cases h
class fX where
 ds:List Deferred
instance (priority:=low) anY:fX:=⟨[]⟩
structure Kn[fX](n:Nat)(ws:List Nat)(f0:Fr)(s:St)(a:Act):Prop where
 size:a.tmps.size=n
 defers:a.defers=fX.ds
 fr:∀t v,look t s.fr=some v->cS t s.cd=none->slot a t=v
 cd:∀t k v,cS t s.cd=some (k,v)->(Sat a k->slot a t=v)/\(¬Sat a k->slot a t=undef)
 nd:(s.cd.map (·.1)).Nodup
 lt:∀g b,sQ g s.lt=some b->slot a g=.bool b
 cn:∀t kv,cS t s.cd=some kv->look t s.fr=none
 Ao:∀t,t∉ws->look t s.fr=look t f0
 ins:∀x∈s.cd,x.1∈ws/\∀y∈x.2.1,y.1∈ws
theorem Kn.val[fX]{n:Nat}{ws:List Nat}{f0:Fr}{s:St}{a:Act}(h:Kn n ws f0 s a){K:Key}(hs:Sat a K){x:Operand}{v:Value}(hv:s.val K x=some v):a.eval x=v:=by
 cases x with
 |tmp t=>
  simp only[St.val]at hv
  cases hc:cS t s.cd with
  |none=>rw[hc]at hv;exact h.fr t v hv hc
  |some kv=>
   obtain⟨k,u⟩:=kv
   rw[hc]at hv
   simp only at hv
   cases hw:within k K with
   |true=>rw[hw]at hv;cases hv;exact(h.cd t k _ hc).1 (aez hw hs)
   |false=>rw[hw]at hv;cases hv
 |const u=>simp only[St.val]at hv;cases hv;rfl
 |global g=>simp only[St.val]at hv;cases hv;rfl
 |func f=>simp only[St.val]at hv;cases hv;rfl
theorem BR{a:Act}{d:Nat}{u:Value}(hd:d<a.tmps.size)(t:Nat):slot (a.put (some d) u) t=if t=d then u else slot a t:=by
 simp only[slot,Act.put]
 by_cases e:t=d
 ·subst e;simp[hd]
 ·simp[e,Array.getElem?_setIfInBounds_ne (Ne.symm e)]
theorem TV{a:Act}{d:Nat}{u:Value}(hd:d<a.tmps.size){k:Key}(hk:lD d k=false):Sat (a.put (some d) u) k↔Sat a k:=by
 have gP:∀x∈k,x.1≠d:=λx hx e=>by
  have:=afV.2 ⟨x,hx,e⟩
  rw[hk]at this;cases this
 constructor
 ·intro h x hx
  have h1:=h x hx
  rwa [BR hd,if_neg (gP x hx)]at h1
 ·intro h x hx
  rw[BR hd,if_neg (gP x hx)]
  exact h x hx
theorem xP{t:Nat}{l:List (Nat × Key × Value)}{k:Key}{v:Value}(h:cS t l=some (k,v)):(t,k,v)∈l:=by
 induction l with
 |nil=>cases h
 |cons y r ih=>
  obtain⟨s,e⟩:=y
  simp only[cS]at h
  cases hb:Nat.beq s t with
  |true=>rw[hb]at h;cases h;rw[beq_eq.1 hb];exact List.mem_cons_self
  |false=>rw[hb]at h;exact List.mem_cons_of_mem _ (ih h)
theorem KH{t:Nat}{l:List (Nat × Key × Value)}:cS t l=none↔t∉l.map (·.1):=by
 induction l with
 |nil=>simp[cS]
 |cons y r ih=>
  obtain⟨s,e⟩:=y
  simp only[cS]
  cases hb:Nat.beq s t with
  |true=>simp[beq_eq.1 hb]
  |false=>
   have:t≠s:=λe=>(fU.1 hb) e.symm
   simp[ih,this]
theorem Gh{t:Nat}{l:List (Nat × Key × Value)}{k:Key}{v:Value}(nd:(l.map (·.1)).Nodup)(h:(t,k,v)∈l):cS t l=some (k,v):=by
 induction l with
 |nil=>cases h
 |cons y r ih=>
  obtain⟨s,e⟩:=y
  simp only[List.map_cons,List.nodup_cons]at nd
  simp only[cS]
  cases h with
  |head=>simp
  |tail _ h=>
   have:s≠t:=λe=>nd.1 (e▸List.mem_map.2 ⟨_,h,rfl⟩)
   rw[fU.2 this];exact ih nd.2 h
theorem afW{d:Nat}{l:List (Nat × Key × Value)}:(nB d l).Sublist l:=by
 induction l with
 |nil=>exact List.Sublist.refl _
 |cons y r ih=>
  obtain⟨s,k,v⟩:=y
  simp only[nB]
  cases (Nat.beq s d||lD d k)with
  |true=>exact ih.cons _
  |false=>exact ih.cons_cons _
theorem DL{d t:Nat}{k:Key}{v:Value}{l:List (Nat × Key × Value)}:(t,k,v)∈nB d l↔(t,k,v)∈l/\t≠d/\lD d k=false:=by
 induction l with
 |nil=>simp[nB]
 |cons y r ih=>
  obtain⟨s,k',v'⟩:=y
  simp only[nB]
  cases hb:(Nat.beq s d||lD d k')with
  |true=>
   simp only[cond_true,ih,List.mem_cons,Prod.mk.injEq]
   constructor
   ·rintro⟨h1,h2⟩;exact⟨.inr h1,h2⟩
   ·rintro⟨h1|h1,h2,h3⟩
    ·obtain⟨rfl,rfl,rfl⟩:=h1
     simp[fU.2 h2,h3]at hb
    ·exact⟨h1,h2,h3⟩
  |false=>
   simp only[Bool.or_eq_false_iff,fU]at hb
   simp only[cond_false,List.mem_cons,ih,Prod.mk.injEq]
   constructor
   ·rintro (⟨rfl,rfl,rfl⟩|⟨h1,h2⟩)
    ·exact⟨.inl ⟨rfl,rfl,rfl⟩,hb⟩
    ·exact⟨.inr h1,h2⟩
   ·rintro⟨h1|h1,h2⟩
    ·exact .inl h1
    ·exact .inr ⟨h1,h2⟩
theorem afX{d t:Nat}{x:Value}{fr:Fr}{l:List (Nat × Key × Value)}(h:look t (nG d fr l)=some x):
  look t fr=some x/\∀k v,(t,k,v)∈l->lD d k=false:=by
 induction l with
 |nil=>exact⟨h,λ_ _ h=>by cases h⟩
 |cons y r ih=>
  obtain⟨s,k',v'⟩:=y
  simp only[nG]at h
  cases hk:lD d k' with
  |true=>
   rw[hk]at h
   simp only[cond_true,look]at h
   cases hs:Nat.beq s t with
   |true=>rw[hs]at h;cases h
   |false=>
    rw[hs]at h
    obtain⟨h1,h2⟩:=ih h
    refine⟨h1,λk v hm=>?_⟩
    cases hm with
    |head=>exact absurd rfl (fU.1 hs)
    |tail _ hm=>exact h2 k v hm
  |false=>
   rw[hk]at h
   obtain⟨h1,h2⟩:=ih h
   refine⟨h1,λk v hm=>?_⟩
   cases hm with
   |head=>exact hk
   |tail _ hm=>exact h2 k v hm
theorem ac0{d g:Nat}{b:Bool}{l:List (Nat × Bool)}(h:sQ g (yj d l)=some b):g≠d/\sQ g l=some b:=by
 induction l with
 |nil=>cases h
 |cons y r ih=>
  obtain⟨s,b'⟩:=y
  simp only[yj]at h
  cases hs:Nat.beq s d with
  |true=>
   rw[hs]at h
   obtain⟨h1,h2⟩:=ih h
   refine⟨h1,?_⟩
   have:s≠g:=λe=>h1 (e▸beq_eq.1 hs)
   simp only[sQ,fU.2 this,cond_false];exact h2
  |false=>
   rw[hs]at h
   simp only[cond_false,sQ]at h⊢
   cases hg:Nat.beq s g with
   |true=>rw[hg]at h;exact⟨λe=>(fU.1 hs) ((beq_eq.1 hg).trans e),by simpa using h⟩
   |false=>rw[hg]at h;obtain⟨h1,h2⟩:=ih h;exact⟨h1,h2⟩
theorem JO{d t:Nat}{fr:Fr}(h:look t fr=none):∀l:List (Nat × Key × Value),look t (nG d fr l)=none
 |[]=>h
 |(s,k,v)::r=>by
  simp only[nG]
  cases lD d k with
  |true=>
   simp only[cond_true,look]
   cases Nat.beq s t with
   |true=>rfl
   |false=>exact JO h r
  |false=>exact JO h r
theorem P4{d t:Nat}{fr:Fr}{ws:List Nat}(ht:t∉ws):∀ {l:List (Nat × Key × Value)},(∀x∈l,x.1∈ws)->look t (nG d fr l)=look t fr
 |[],_=>rfl
 |(s,k,v)::r,h=>by
  simp only[nG]
  have hr:=P4 (d:=d) (fr:=fr) ht (l:=r) (λx hx=>h x (List.mem_cons_of_mem _ hx))
  cases lD d k with
  |true=>
   simp only[cond_true,look]
   rw[fU.2 (λ(e:s=t)=>ht (by rw[<- e];exact(h _ List.mem_cons_self)))]
   exact hr
  |false=>exact hr
theorem Kn.put[fX]{n:Nat}{ws:List Nat}{f0:Fr}{s:St}{a:Act}(h:Kn n ws f0 s a){d:Option Nat}(hd:∀t,d=some t->t<n/\t∈ws){v:Option Value}{u:Value}(hv:∀x,v=some x->u=x):
  Kn n ws f0 (s.put d v) (a.put d u):=by
 cases d with
 |none=>exact h
 |some d=>
  have bB:d<a.tmps.size:=h.size▸(hd d rfl).1
  have fB:d∈ws:=(hd d rfl).2
  refine⟨by simp[Act.put,h.size],by simp[Act.put,h.defers],?_,?_,?_,?_,?_,?_,?_⟩
  ·intro t x hx hc
   simp only[St.put,look]at hx hc
   rw[BR bB]
   by_cases e:t=d
   ·subst e
    rw[if_pos rfl]
    simp only[Nat.beq_refl,cond_true]at hx
    exact hv x hx
   ·rw[if_neg e]
    rw[fU.2 (Ne.symm e)]at hx
    obtain⟨h1,h2⟩:=afX hx
    refine h.fr t x h1 ?_
    cases hl:cS t s.cd with
    |none=>rfl
    |some kv=>
     obtain⟨k,w⟩:=kv
     have hm:=xP hl
     have rS:(t,k,w)∈nB d s.cd:=DL.2 ⟨hm,e,h2 k w hm⟩
     have:=KH.1 hc
     exact absurd (List.mem_map.2 ⟨_,rS,rfl⟩) this
  ·intro t k w hl
   have hm:=xP hl
   obtain⟨h1,h2,h3⟩:=DL.1 hm
   have h4:=h.cd t k w (Gh h.nd h1)
   rw[BR bB,if_neg h2,TV bB h3]
   exact h4
  ·exact h.nd.sublist (afW.map _)
  ·intro g b hl
   obtain⟨h1,h2⟩:=ac0 hl
   rw[BR bB,if_neg h1]
   exact h.lt g b h2
  ·intro t kv hl
   obtain⟨k,w⟩:=kv
   have hm:=xP hl
   obtain⟨h1,h2,h3⟩:=DL.1 hm
   simp only[St.put,look]
   rw[fU.2 (Ne.symm h2)]
   exact JO (h.cn t _ (Gh h.nd h1)) _
  ·intro t ht
   simp only[St.put,look]
   rw[fU.2 (λ(e:d=t)=>ht (by rw[<- e];exact fB))]
   exact(P4 ht (λx hx=>(h.ins x hx).1)).trans (h.Ao t ht)
  ·intro x hx
   obtain⟨t,k,v⟩:=x
   exact h.ins _ (DL.1 hx).1
theorem Kn.kU[fX]{n:Nat}{ws:List Nat}{f0:Fr}{s:St}{a:Act}(h:Kn n ws f0 s a){d:Option Nat}(hd:∀t,d=some t->t<n/\t∈ws){k:Key}{v u:Value}(hkw:∀y∈k,y.1∈ws)(h1:Sat a k->u=v)(h2:¬Sat a k->u=undef):
  Kn n ws f0 (s.kU d k v) (a.put d u):=by
 cases d with
 |none=>exact h
 |some d=>
  simp only[St.kU]
  cases hk:lD d k with
  |true=>exact h.put hd (λx hx=>by cases hx)
  |false=>
   have bB:d<a.tmps.size:=h.size▸(hd d rfl).1
   have fB:d∈ws:=(hd d rfl).2
   have hp:Kn n ws f0 (s.put (some d) none) (a.put (some d) u):=h.put hd (λx hx=>by cases hx)
   have yS:cS d (nB d s.cd)=none:=KH.2 λhm=>by
    obtain⟨⟨t,k',v'⟩,hm,rfl⟩:=List.mem_map.1 hm
    exact(DL.1 hm).2.1 rfl
   refine⟨hp.size,hp.defers,?_,?_,?_,hp.lt,?_,?_,?_⟩
   ·intro t x hx hc
    simp only[cond_false,cS]at hc hx
    cases e:Nat.beq d t with
    |true=>rw[e]at hc;cases hc
    |false=>rw[e]at hc;exact hp.fr t x hx hc
   ·intro t k' w hl
    simp only[cond_false,cS]at hl
    cases e:Nat.beq d t with
    |true=>
     rw[e]at hl;cases hl
     rw[<- beq_eq.1 e,TV bB hk,BR bB,if_pos rfl]
     exact⟨h1,h2⟩
    |false=>rw[e]at hl;exact hp.cd t k' w hl
   ·simp only[cond_false,List.map_cons,List.nodup_cons]
    exact⟨KH.1 yS,hp.nd⟩
   ·intro t kv hl
    simp only[cond_false,cS,look]at hl⊢
    cases e:Nat.beq d t with
    |true=>rfl
    |false=>
     rw[e]at hl
     have:=hp.cn t kv hl
     simp only[St.put,look,e,cond_false]at this
     exact this
   ·intro t ht
    have:=hp.Ao t ht
    simp only[St.put,look,cond_false]at this⊢
    exact this
   ·intro x hx
    simp only[cond_false]at hx
    cases hx with
    |head=>exact⟨fB,hkw⟩
    |tail _ hx=>exact hp.ins x hx
theorem Kq{g:Nat}{x:Nat × Bool}{k:Key}:x∈lC g k↔x∈k/\x.1≠g:=by
 induction k with
 |nil=>simp[lC]
 |cons y r ih=>
  simp only[lC]
  cases h:Nat.beq g y.1 with
  |true=>
   have:=beq_eq.1 h
   simp only[cond_true,ih,List.mem_cons]
   constructor
   ·rintro⟨h1,h2⟩;exact⟨.inr h1,h2⟩
   ·rintro⟨rfl|h1,h2⟩
    ·exact absurd this.symm h2
    ·exact⟨h1,h2⟩
  |false=>
   have:=fU.1 h
   simp only[cond_false,ih,List.mem_cons]
   constructor
   ·rintro (rfl|⟨h1,h2⟩)
    ·exact⟨.inl rfl,Ne.symm this⟩
    ·exact⟨.inr h1,h2⟩
   ·rintro⟨rfl|h1,h2⟩
    ·exact .inl rfl
    ·exact .inr ⟨h1,h2⟩
theorem QU{a:Act}{g:Nat}{b:Bool}{k:Key}(hg:slot a g=.bool b)(cr:gO (g,!b) k=false):Sat a (lC g k)↔Sat a k:=by
 constructor
 ·intro h x hx
  by_cases e:x.1=g
  ·have hb:x.2=b:=by
    have hn:x.2≠!b:=λh1=>by
     have:gO (g,!b) k=true:=KV.2 (by rw[<- e,<- h1];exact hx)
     rw[cr]at this;cases this
    revert hn;cases x.2<;>cases b<;>simp
   rw[e,hg,hb]
  ·exact h x (Kq.2 ⟨hx,e⟩)
 ·intro h x hx;exact h x (Kq.1 hx).1
theorem Dx{a:Act}{g:Nat}{b:Bool}(hg:slot a g=.bool b){fr:Fr}:∀ {l:List (Nat × Key × Value)},(l.map (·.1)).Nodup->
  (∀t k v,(t,k,v)∈l->(Sat a k->slot a t=v)/\(¬Sat a k->slot a t=undef))->∀ {t:Nat} {x:Value},
  look t (kg g b fr l)=some x->cS t (ke g b l)=none->slot a t=x\/(look t fr=some x/\cS t l=none)
 |[],_,_,_,_,h,_=>.inr ⟨h,rfl⟩
 |(s,k,v)::r,nd,hc,t,x,h,h0=>by
  simp only[List.map_cons,List.nodup_cons]at nd
  have hr:∀t k v,(t,k,v)∈r->(Sat a k->slot a t=v)/\(¬Sat a k->slot a t=undef):=λt k v hm=>hc t k v (List.mem_cons_of_mem _ hm)
  have hs:=hc s k v List.mem_cons_self
  simp only[kg,ke]at h h0
  cases h1:gO (g,!b) k with
  |true=>
   rw[h1]at h h0
   simp only[cond_true,look]at h h0
   cases e:Nat.beq s t with
   |true=>
    rw[e]at h;cases h
    have hns:¬Sat a k:=λIG=>by
     have:=IG _ (KV.1 h1)
     rw[hg]at this;cases b<;>cases this
    exact .inl (beq_eq.1 e▸hs.2 hns)
   |false=>
    rw[e]at h
    rcases Dx hg nd.2 hr h h0 with h2|⟨h2,h3⟩
    ·exact .inl h2
    ·exact .inr ⟨h2,by simp only[cS,e,cond_false];exact h3⟩
  |false=>
   rw[h1]at h h0
   simp only[cond_false]at h h0
   cases h2:gO (g,b) k with
   |true=>
    rw[h2]at h h0
    simp only[cond_true]at h h0
    cases h3:lC g k with
    |nil=>
     rw[h3]at h h0
     simp only[look]at h h0
     cases e:Nat.beq s t with
     |true=>
      rw[e]at h;cases h
      have:Sat a k:=(QU hg h1).1 (h3▸Sat.nil a)
      exact .inl (beq_eq.1 e▸hs.1 this)
     |false=>
      rw[e]at h
      rcases Dx hg nd.2 hr h h0 with h4|⟨h4,h5⟩
      ·exact .inl h4
      ·exact .inr ⟨h4,by simp only[cS,e,cond_false];exact h5⟩
    |cons y k'=>
     rw[h3]at h h0
     simp only[cS]at h h0
     cases e:Nat.beq s t with
     |true=>rw[e]at h0;cases h0
     |false=>
      rw[e]at h0
      rcases Dx hg nd.2 hr h h0 with h4|⟨h4,h5⟩
      ·exact .inl h4
      ·exact .inr ⟨h4,by simp only[cS,e,cond_false];exact h5⟩
   |false=>
    rw[h2]at h h0
    simp only[cond_false,cS]at h h0
    cases e:Nat.beq s t with
    |true=>rw[e]at h0;cases h0
    |false=>
     rw[e]at h0
     rcases Dx hg nd.2 hr h h0 with h4|⟨h4,h5⟩
     ·exact .inl h4
     ·exact .inr ⟨h4,by simp only[cS,e,cond_false];exact h5⟩
theorem xG{g:Nat}{b:Bool}:∀ {l:List (Nat × Key × Value)} {t:Nat} {k:Key} {v:Value},(t,k,v)∈ke g b l->
  ∃k0,(t,k0,v)∈l/\gO (g,!b) k0=false/\(k=k0\/k=lC g k0)
 |[],_,_,_,h=>by cases h
 |(s,k1,v1)::r,t,k,v,h=>by
  simp only[ke]at h
  have up:(∃k0,(t,k0,v)∈r/\gO (g,!b) k0=false/\(k=k0\/k=lC g k0))->∃k0,(t,k0,v)∈(s,k1,v1)::r/\gO (g,!b) k0=false/\(k=k0\/k=lC g k0):=
   λ⟨k0,h1,h2⟩=>⟨k0,List.mem_cons_of_mem _ h1,h2⟩
  cases h1:gO (g,!b) k1 with
  |true=>rw[h1]at h;exact up (xG h)
  |false=>
   rw[h1]at h
   simp only[cond_false]at h
   cases h2:gO (g,b) k1 with
   |true=>
    rw[h2]at h
    simp only[cond_true]at h
    cases h3:lC g k1 with
    |nil=>rw[h3]at h;exact up (xG h)
    |cons y k'=>
     rw[h3]at h
     cases h with
     |head=>exact⟨k1,List.mem_cons_self,h1,.inr h3.symm⟩
     |tail _ h=>exact up (xG h)
   |false=>
    rw[h2]at h
    cases h with
    |head=>exact⟨_,List.mem_cons_self,h1,.inl rfl⟩
    |tail _ h=>exact up (xG h)
theorem Ro{g:Nat}{b:Bool}:∀ {l:List (Nat × Key × Value)},((ke g b l).map (·.1)).Sublist (l.map (·.1))
 |[]=>List.Sublist.refl _
 |(s,k1,v1)::r=>by
  have ih:=Ro (g:=g) (b:=b) (l:=r)
  simp only[ke]
  cases gO (g,!b) k1 with
  |true=>exact ih.cons _
  |false=>
   simp only[cond_false]
   cases gO (g,b) k1 with
   |true=>
    simp only[cond_true]
    cases lC g k1 with
    |nil=>exact ih.cons _
    |cons y k'=>exact ih.cons_cons _
   |false=>exact ih.cons_cons _
theorem Lz{g t:Nat}{k:Key}{v:Value}{l:List (Nat × Key × Value)}:(t,k,v)∈qm g l↔(t,k,v)∈l/\t≠g:=by
 induction l with
 |nil=>simp[qm]
 |cons y r ih=>
  obtain⟨s,k',v'⟩:=y
  simp only[qm]
  cases hb:Nat.beq s g with
  |true=>
   have:=beq_eq.1 hb
   simp only[cond_true,ih,List.mem_cons,Prod.mk.injEq]
   constructor
   ·rintro⟨h1,h2⟩;exact⟨.inr h1,h2⟩
   ·rintro⟨h1|h1,h2⟩
    ·exact absurd (h1.1.trans this) h2
    ·exact⟨h1,h2⟩
  |false=>
   have:=fU.1 hb
   simp only[cond_false,List.mem_cons,ih,Prod.mk.injEq]
   constructor
   ·rintro (⟨rfl,rfl,rfl⟩|⟨h1,h2⟩)
    ·exact⟨.inl ⟨rfl,rfl,rfl⟩,this⟩
    ·exact⟨.inr h1,h2⟩
   ·rintro⟨h1|h1,h2⟩
    ·exact .inl h1
    ·exact .inr ⟨h1,h2⟩
theorem LA{g:Nat}:∀ {l:List (Nat × Key × Value)},((qm g l).map (·.1)).Sublist (l.map (·.1))
 |[]=>List.Sublist.refl _
 |(s,k,v)::r=>by
  simp only[qm]
  cases Nat.beq s g with
  |true=>exact LA.cons _
  |false=>exact LA.cons_cons _
theorem GX{g t:Nat}(h:t≠g):∀l:List (Nat × Key × Value),cS t (qm g l)=cS t l
 |[]=>rfl
 |(s,k,v)::r=>by
  simp only[qm,cS]
  cases hb:Nat.beq s g with
  |true=>
   have:s≠t:=λe=>h (e▸beq_eq.1 hb)
   rw[fU.2 this];exact GX h r
  |false=>
   simp only[cond_false,cS]
   rw[GX h r]
theorem O9{g t:Nat}{b:Bool}{fr:Fr}(h:look t fr=none):∀ {l:List (Nat × Key × Value)},(l.map (·.1)).Nodup->∀ {kv:Key × Value},cS t (ke g b l)=some kv->look t (kg g b fr l)=none
 |[],_,_,_=>h
 |(s,k,v)::r,nd,kv,hl=>by
  simp only[List.map_cons,List.nodup_cons]at nd
  have off:cS t (ke g b r)=some kv->look t (kg g b fr r)=none:=λhl=>O9 h nd.2 hl
  have inr:cS t (ke g b r)=some kv->s≠t:=λhl e=>by
   obtain⟨k0,v0⟩:=kv
   obtain⟨k1,hm,_⟩:=xG (xP hl)
   exact nd.1 (e▸List.mem_map.2 ⟨_,hm,rfl⟩)
  have VU:s=t->look t (kg g b fr r)=none:=λe=>by
   subst e
   have:∀ {l:List (Nat × Key × Value)},s∉l.map (·.1)->look s (kg g b fr l)=none:=by
    intro l
    induction l with
    |nil=>intro _;exact h
    |cons y r ih=>
     obtain⟨s',k',v'⟩:=y
     intro hn
     simp only[List.map_cons,List.mem_cons,not_or]at hn
     have hb:Nat.beq s' s=false:=fU.2 (λe=>hn.1 e.symm)
     simp only[kg]
     cases gO (g,!b) k' with
     |true=>simp only[cond_true,look,hb,cond_false];exact ih hn.2
     |false=>
      simp only[cond_false]
      cases gO (g,b) k' with
      |true=>
       simp only[cond_true]
       cases lC g k' with
       |nil=>simp only[look,hb,cond_false];exact ih hn.2
       |cons _ _=>exact ih hn.2
      |false=>exact ih hn.2
   exact this nd.1
  simp only[kg,ke]at hl⊢
  cases h1:gO (g,!b) k with
  |true=>
   rw[h1]at hl
   simp only[cond_true,look]at hl⊢
   rw[fU.2 (inr hl)];exact off hl
  |false=>
   rw[h1]at hl
   simp only[cond_false]at hl⊢
   cases h2:gO (g,b) k with
   |true=>
    rw[h2]at hl
    simp only[cond_true]at hl⊢
    cases h3:lC g k with
    |nil=>
     rw[h3]at hl
     simp only[look]at hl⊢
     rw[fU.2 (inr hl)];exact off hl
    |cons y k'=>
     rw[h3]at hl
     simp only[cS]at hl
     by_cases e:s=t
     ·exact VU e
     ·rw[fU.2 e]at hl;exact off hl
   |false=>
    rw[h2]at hl
    simp only[cond_false,cS]at hl⊢
    by_cases e:s=t
    ·exact VU e
    ·rw[fU.2 e]at hl;exact off hl
theorem Ph{g t:Nat}{b:Bool}{fr:Fr}{ws:List Nat}(ht:t∉ws):∀ {l:List (Nat × Key × Value)},(∀x∈l,x.1∈ws)->look t (kg g b fr l)=look t fr
 |[],_=>rfl
 |(s,k,v)::r,h=>by
  have hr:=Ph (g:=g) (b:=b) (fr:=fr) ht (l:=r) (λx hx=>h x (List.mem_cons_of_mem _ hx))
  have hs:Nat.beq s t=false:=fU.2 (λ(e:s=t)=>ht (by rw[<- e];exact(h _ List.mem_cons_self)))
  simp only[kg]
  cases gO (g,!b) k with
  |true=>simp only[cond_true,look,hs,cond_false];exact hr
  |false=>
   simp only[cond_false]
   cases gO (g,b) k with
   |true=>
    simp only[cond_true]
    cases lC g k with
    |nil=>simp only[look,hs,cond_false];exact hr
    |cons _ _=>exact hr
   |false=>exact hr
theorem Kn.settle[fX]{n:Nat}{ws:List Nat}{f0:Fr}{s:St}{a:Act}(h:Kn n ws f0 s a){g:Nat}{b:Bool}(IX:g∈ws)(hg:slot a g=.bool b):Kn n ws f0 (s.settle g b) a:=by
 have hc:∀t k v,(t,k,v)∈s.cd->(Sat a k->slot a t=v)/\(¬Sat a k->slot a t=undef):=λt k v hm=>h.cd t k v (Gh h.nd hm)
 have nd':((s.settle g b).cd.map (·.1)).Nodup:=h.nd.sublist (LA.trans Ro)
 refine⟨h.size,h.defers,?_,?_,nd',?_,?_,?_,?_⟩
 ·intro t x hx h0
  simp only[St.settle,look]at hx h0
  cases e:Nat.beq g t with
  |true=>rw[e]at hx;cases hx;rw[<- beq_eq.1 e];exact hg
  |false=>
   rw[e]at hx
   rw[GX (Ne.symm (fU.1 e))]at h0
   rcases Dx hg h.nd hc hx h0 with h1|⟨h1,h2⟩
   ·exact h1
   ·exact h.fr t x h1 h2
 ·intro t k v hl
  obtain⟨k0,hm,cr,hk⟩:=xG (Lz.1 (xP hl)).1
  have:=hc t k0 v hm
  rcases hk with rfl|rfl
  ·exact this
  ·rw[QU hg cr];exact this
 ·intro g' b' hl
  simp only[St.settle,sQ]at hl
  cases e:Nat.beq g g' with
  |true=>rw[e]at hl;cases hl;rw[<- beq_eq.1 e];exact hg
  |false=>rw[e]at hl;exact h.lt g' b' hl
 ·intro t kv hl
  obtain⟨k,v⟩:=kv
  have gP:=(Lz.1 (xP hl)).2
  simp only[St.settle]at hl
  rw[GX gP]at hl
  simp only[St.settle,look]
  rw[fU.2 (Ne.symm gP)]
  obtain⟨k0,hm,_⟩:=xG (xP hl)
  exact O9 (h.cn t _ (Gh h.nd hm)) h.nd hl
 ·intro t ht
  simp only[St.settle,look]
  rw[fU.2 (λ(e:g=t)=>ht (by rw[<- e];exact IX))]
  exact(Ph ht (λx hx=>(h.ins x hx).1)).trans (h.Ao t ht)
 ·intro x hx
  obtain⟨t,k,v⟩:=x
  obtain⟨k0,hm,_,hk⟩:=xG (Lz.1 hx).1
  have:=h.ins _ hm
  rcases hk with rfl|rfl
  ·exact this
  ·exact⟨this.1,λy hy=>this.2 y (Kq.1 hy).1⟩
theorem Kn.out[fX]{n:Nat}{ws:List Nat}{f0:Fr}{s:St}{a:Act}(h:Kn n ws f0 s a):Kn n ws f0 ⟨s.fr,[],[]⟩ a:=
 ⟨h.size,h.defers,λt v hl _=>h.fr t v hl (by
  cases hc:cS t s.cd with
  |none=>rfl
  |some kv=>have:=h.cn t kv hc;rw[hl]at this;cases this),λt k v hl=>(by cases hl),List.nodup_nil,λg b hl=>(by cases hl),λt kv hl=>(by cases hl),h.Ao,λx hx=>(by cases hx)⟩
theorem Ds[fX]{n:Nat}{ws:List Nat}{f0:Fr}{a:Act}:∀(chain:Key) (s:St) (K:St->Bool->Prop),(∀y∈chain,y.1∈ws)->Kn n ws f0 s a->xO s chain K->
  ∃s' on,Kn n ws f0 s' a/\K s' on/\(on=true↔Sat a chain)
 |[],s,K,_,h,hk=>⟨s,true,h,hk,by simp[Sat.nil]⟩
 |(g,want)::r,s,K,hw,h,hk=>by
  have IX:g∈ws:=hw _ List.mem_cons_self
  obtain⟨s1,on,h1,mo,k7⟩:=Ds r s _ (λy hy=>hw y (List.mem_cons_of_mem _ hy)) h hk
  cases on with
  |false=>
   refine⟨s1,false,h1,mo,?_⟩
   simp only[Bool.false_eq_true,false_iff]at k7⊢
   exact λhs=>k7 (Sat.cons.1 hs).2
  |true=>
   have IG:Sat a r:=k7.1 rfl
   simp only[cond_true]at mo
   cases hv:s1.val [] (.tmp g)with
   |none=>rw[hv]at mo;exact mo.elim
   |some v=>
    rw[hv]at mo
    cases v with
    |bool b=>
     have hg:slot a g=.bool b:=h1.val (Sat.nil a) hv
     simp only[dc]at mo
     cases b with
     |true=>
      refine⟨_,want,h1.settle IX hg,mo,?_⟩
      rw[Sat.cons,hg]
      simp only[Value.bool.injEq]
      exact⟨λe=>⟨e.symm,IG⟩,λe=>e.1.symm⟩
     |false=>
      refine⟨_,!want,h1.settle IX hg,mo,?_⟩
      rw[Sat.cons,hg]
      simp only[Value.bool.injEq,Bool.not_eq_true']
      exact⟨λe=>⟨e.symm,IG⟩,λe=>e.1.symm⟩
    |tuple ts=>
     have hg:slot a g=.tuple ts:=h1.val (Sat.nil a) hv
     refine⟨s1,false,h1,mo,?_⟩
     rw[Sat.cons,hg]
     simp
    |_=>exact mo.elim
variable{P:Program}
def rT(ρ:Operand->Option Value)(e:Operand->Value):Prop:=∀x u,ρ x=some u->e x=u
theorem RX{ρ:Operand->Option Value}{e:Operand->Value}(h:rT ρ e):∀ {l:List Operand} {vs:List Value},jR ρ l=some vs->l.map e=vs
 |[],_,hv=>by cases hv;rfl
 |x::r,vs,hv=>by
  simp only[jR]at hv
  cases hx:ρ x with
  |none=>rw[hx]at hv;cases hv
  |some u=>
   rw[hx]at hv
   cases hr:jR ρ r with
   |none=>rw[hr]at hv;cases hv
   |some us=>rw[hr]at hv;cases hv;rw[List.map_cons,h x u hx,RX h hr]
theorem Rp{ρ:Operand->Option Value}{e:Operand->Value}(h:rT ρ e):∀ {l:List (Nat × Operand)} {vs:List (Nat × Value)},partsOf ρ l=some vs->l.map (λp=>(p.1,e p.2))=vs
 |[],_,hv=>by cases hv;rfl
 |(i,x)::r,vs,hv=>by
  simp only[partsOf]at hv
  cases hx:ρ x with
  |none=>rw[hx]at hv;cases hv
  |some u=>
   rw[hx]at hv
   cases hr:partsOf ρ r with
   |none=>rw[hr]at hv;cases hv
   |some us=>rw[hr]at hv;cases hv;rw[List.map_cons,h x u hx,Rp h hr]
theorem uf{ρ:Operand->Option Value}{e:Operand->Value}(h:rT ρ e){xs:Array Operand}{vs:List Value}(hv:jR ρ xs.toList=some vs):xs.map e=⟨vs⟩:=by
 apply Array.ext'
 simp[RX h hv]
theorem RY{ρ:Operand->Option Value}{e:Operand->Value}(h:rT ρ e){xs:Array (Nat × Operand)}{vs:List (Nat × Value)}(hv:partsOf ρ xs.toList=some vs):xs.map (λ(i,x)=>(i,e x))=⟨vs⟩:=by
 apply Array.ext'
 simpa using Rp h hv
theorem aeA(x y:Int):(Op.intCmp .eql x y:Sem Value)=pure (.bool (decide (x=y))):=by
 simp only[Op.intCmp];congr 2
theorem aeB(x y:Int):(Op.intCmp .neq x y:Sem Value)=pure (.bool (!decide (x=y))):=by
 simp only[Op.intCmp];congr 2
theorem RZ{op:BinOp}{k k':IntKind}{x y:Int}{v:Value}(h:xZ op k x k' y=some v)(t:TypeId)(w:World):
  (binOp op t (.int k x) (.int k' y)).run P w=.ok v w:=by
 cases op<;>simp only[xZ]at h
 case shl=>cases y with
  |ofNat n=>cases h;simp[binOp,Op.shift,shl,show ¬((n:Int)<0) by omega]
  |negSucc n=>cases h
 case shr=>cases y with
  |ofNat n=>cases h;simp[binOp,Op.shift,shr,show ¬((n:Int)<0) by omega]
  |negSucc n=>cases h
 case quo=>
  cases hk:decide (k=k')with
  |false=>rw[hk]at h;cases h
  |true=>
   have e:=of_decide_eq_true hk
   subst e
   rw[hk]at h
   simp only[cond_true]at h
   cases y with
   |ofNat n=>cases n with
    |zero=>cases h
    |succ n=>cases h;simp[binOp,Op.intDiv,show ¬((n:Int)+1=0) by omega]
   |negSucc n=>cases h
 case rem=>
  cases hk:decide (k=k')with
  |false=>rw[hk]at h;cases h
  |true=>
   have e:=of_decide_eq_true hk
   subst e
   rw[hk]at h
   simp only[cond_true]at h
   cases y with
   |ofNat n=>cases n with
    |zero=>cases h
    |succ n=>cases h;simp[binOp,Op.intDiv,show ¬((n:Int)+1=0) by omega]
   |negSucc n=>cases h
 all_goals
  cases hk:decide (k=k')with
  |false=>rw[hk]at h;cases h
  |true=>
   have e:=of_decide_eq_true hk
   subst e
   rw[hk]at h
   cases h
   first
    |(simp[binOp,Op.intArith,Op.intBits,nF,wJ,yy,yz,aeA,aeB];done)
    |(simp[binOp,Op.intCmp];done)
theorem xw{op:BinOp}{t:TypeId}{x y:Operand}{a b:Value}(h1:a≠.nilIface)(h2:∀cs,a≠.agg cs)(w:World):(eqGuard op t x y a b).run P w=.ok () w:=by
 unfold eqGuard
 cases op<;>first|rfl|(cases a<;>first|rfl|exact absurd rfl h1|exact absurd rfl (h2 _))
theorem UM(a b:ByteArray):(a.toList == b.toList)=decide (a=b):=by
 rw[Bool.eq_iff_iff]
 simp only[beq_iff_eq,decide_eq_true_eq,ByteArray.toList_eq]
 exact⟨λh=>ByteArray.ext (Array.toList_inj.mp h),λh=>h▸rfl⟩
theorem Rq{t:TypeId}(hu:P.underlying t=some .bool)(a b:Bool)(w:World):(Op.equal t (.bool a) (.bool b)).run P w=.ok (a == b) w:=by
 have h:∀d:Nat,(Op.equalIn (d+1) t (.bool a) (.bool b)).run P w=.ok (a == b) w:=λd=>by simp only[Op.equalIn,Sem.run_bind,run_underlying hu,Result.andThen_ok];rfl
 exact h 9999
theorem QV{t e:TypeId}(hu:P.underlying t=some (.slice e))(p:Option Addr)(n c n' c':Nat)(w:World):(Op.equal t (.slice p n c) (.slice none n' c')).run P w=.ok p.isNone w:=by
 have h:∀d:Nat,(Op.equalIn (d+1) t (.slice p n c) (.slice none n' c')).run P w=.ok p.isNone w:=λd=>by
  simp only[Op.equalIn,Sem.run_bind,run_underlying hu,Result.andThen_ok];cases p<;>rfl
 exact h 9999
theorem R3{t e:TypeId}(hu:P.underlying t=some (.pointer e))(p:Option Addr)(w:World):(Op.equal t (.pointer p) (.pointer none)).run P w=.ok p.isNone w:=by
 have h:∀d:Nat,(Op.equalIn (d+1) t (.pointer p) (.pointer none)).run P w=.ok p.isNone w:=λd=>by
  simp only[Op.equalIn,Sem.run_bind,run_underlying hu,Result.andThen_ok];cases p<;>rfl
 exact h 9999
theorem R4{t k e:TypeId}(hu:P.underlying t=some (.map k e))(p:Option Nat)(w:World):(Op.equal t (.map p) (.map none)).run P w=.ok p.isNone w:=by
 have h:∀d:Nat,(Op.equalIn (d+1) t (.map p) (.map none)).run P w=.ok p.isNone w:=λd=>by
  simp only[Op.equalIn,Sem.run_bind,run_underlying hu,Result.andThen_ok];cases p<;>rfl
 exact h 9999
theorem R5{op:BinOp}{t:TypeId}{a b v:Value}(h:uu P op t a b=some v)(x y:Operand)(w:World):
  (do eqGuard op t x y a b;binOp op t a b:Sem Value).run P w=.ok v w:=by
 unfold uu at h
 split at h
 ·rw[Sem.run_bind,xw (by simp) (by simp)];exact RZ h t w
 ·rename_i a b
  rw[Sem.run_bind,xw (by simp) (by simp),Result.andThen_ok]
  split at h
  ·rename_i hu;cases h;show(Op.equal _ _ _ >>= _).run P w=_;rw[Sem.run_bind,Rq hu];rfl
  ·rename_i hu;cases h;show(Op.equal _ _ _ >>= _).run P w=_;rw[Sem.run_bind,Rq hu];rfl
  ·cases h
 ·rename_i a b
  rw[Sem.run_bind,xw (by simp) (by simp),Result.andThen_ok]
  split at h
  ·cases h;simp only[binOp,Op.stringOp,UM];rfl
  ·cases h;simp only[binOp,Op.stringOp,UM];rfl
  ·cases h
 ·rename_i p n c n' c'
  rw[Sem.run_bind,xw (by simp) (by simp),Result.andThen_ok]
  split at h
  ·rename_i hu;cases h;show(Op.equal _ _ _ >>= _).run P w=_;rw[Sem.run_bind,QV hu];rfl
  ·rename_i hu;cases h;show(Op.equal _ _ _ >>= _).run P w=_;rw[Sem.run_bind,QV hu];rfl
  ·cases h
 ·rename_i p
  rw[Sem.run_bind,xw (by simp) (by simp),Result.andThen_ok]
  split at h
  ·rename_i hu;cases h;show(Op.equal _ _ _ >>= _).run P w=_;rw[Sem.run_bind,R3 hu];rfl
  ·rename_i hu;cases h;show(Op.equal _ _ _ >>= _).run P w=_;rw[Sem.run_bind,R3 hu];rfl
  ·cases h
 ·rename_i p
  rw[Sem.run_bind,xw (by simp) (by simp),Result.andThen_ok]
  split at h
  ·rename_i hu;cases h;show(Op.equal _ _ _ >>= _).run P w=_;rw[Sem.run_bind,R4 hu];rfl
  ·rename_i hu;cases h;show(Op.equal _ _ _ >>= _).run P w=_;rw[Sem.run_bind,R4 hu];rfl
  ·cases h
 ·cases h
theorem afY:∀(xs:List Value) (off:Nat) (cells:Array Value),off+xs.length<=cells.size->
  (xs.toArray.zipIdx.foldl (λcs (c,j)=>cs.setIfInBounds (off+j) c) cells)=⟨Aa off xs cells.toList⟩:=by
 intro xs off cells h
 have key:∀(xs:List Value) (j:Nat) (cells:Array Value),off+j+xs.length<=cells.size->
   ((xs.zipIdx j).foldl (λ(cs:Array Value) (p:Value × Nat)=>cs.setIfInBounds (off+p.2) p.1) cells)=⟨Aa (off+j) xs cells.toList⟩:=by
  intro xs
  induction xs with
  |nil=>intro j cells _;simp[Aa]
  |cons x r ih=>
   intro j cells h
   simp only[List.length_cons]at h
   simp only[List.zipIdx_cons,List.foldl_cons]
   rw[ih (j+1) _ (by simp;omega)]
   have bB:off+j<cells.toList.length:=by simp;omega
   congr 1
   simp only[Aa,Array.toList_setIfInBounds,List.length_cons]
   rw[show off+(j+1)=off+j+1 by omega,List.take_succ_eq_append_getElem (by simpa using bB)]
   simp only[List.getElem_set_self,List.take_set_of_le (Nat.le_refl _),List.append_assoc,List.cons_append,List.nil_append]
   rw[List.drop_set_of_lt (by omega)]
   congr 4
   omega
 have:=key xs 0 cells (by simpa using h)
 rw[<- Array.foldl_toList,Array.toList_zipIdx]
 exact this
theorem Ht(place:Nat->Option (Nat × Nat)):∀(ps:List (Nat × Value)) (cells:List Value) {out:List Value},Cu place cells ps=some out->Instr.fill place ⟨cells⟩ ps=some ⟨out⟩
 |[],_,_,h=>by cases h;rfl
 |(i,v)::r,cells,out,h=>by
  simp only[Cu]at h
  simp only[Instr.fill]
  cases hp:place i with
  |none=>rw[hp]at h;cases h
  |some os=>
   obtain⟨off,size⟩:=os
   rw[hp]at h
   simp only at h⊢
   cases hc:(Nat.beq v.cells.toList.length size&&Nat.ble (off+v.cells.toList.length) cells.length)with
   |false=>rw[hc]at h;cases h
   |true=>
    rw[hc]at h
    simp only[Bool.and_eq_true,beq_eq,Nat.ble_eq,Array.length_toList]at hc
    have h1:(v.cells.size≠size||off+v.cells.size > cells.length)=false:=by
     simp only[Bool.or_eq_false_iff,decide_eq_false_iff_not]
     exact⟨by simpa using hc.1,by omega⟩
    have h2:(decide (v.cells.size≠size)||decide (off+v.cells.size > (Array.mk cells).size))=false:=by simpa using h1
    rw[if_neg (by rw[h2];simp)]
    have:=afY v.cells.toList off ⟨cells⟩ (by simpa using hc.2)
    simp only[Array.toArray_toList]at this
    rw[this]
    exact Ht place r _ h
theorem Le{t:TypeId}{i:TypeInfo}(h:P.info? t=some i)(w:World):(typeInfo t).run P w=.ok i w:=by
 simp[typeInfo,program,Sem.run,h]
theorem ag3{t:TypeId}(h:(P.info? t).isSome)(w:World):(Go.sizeOf t).run P w=.ok (Ev.sizeOf P t) w:=by
 cases hi:P.info? t with
 |none=>rw[hi]at h;cases h
 |some i=>simp[Go.sizeOf,Le hi,Ev.sizeOf,hi]
theorem qz{t:TypeId}(h:known P t=true)(w:World):(Go.sizeOf t).run P w=.ok (Ev.sizeOf P t) w:=ag3 h w
theorem Lf{t:TypeId}(h:uh P t=true)(w:World):∃v,(zeroValue t).run P w=.ok v w/\v.cells.toList=zc P t/\(zeroValue t=zeroValue t):=by
 unfold uh at h
 split at h
 ·rename_i i hi
  cases hz:i.zero with
  |none=>rw[hz]at h;cases h
  |some v=>exact⟨v,by simp[zeroValue,Le hi,hz],by simp[zc,hi,hz],rfl⟩
 ·cases h
theorem P5{t:TypeId}(h:uh P t=true)(w:World){β:Type}(f:Value->Sem β):∃v,v.cells=⟨zc P t⟩/\(zeroValue t >>= f).run P w=(f v).run P w:=by
 obtain⟨v,h1,h2,_⟩:=Lf (P:=P) h w
 exact⟨v,Array.ext' h2,by rw[Sem.run_bind,h1];rfl⟩
theorem SR{α β:Type}{f:α->Sem β}{g:α->β}:∀ {l:List α},(∀x∈l,∀w,(f x).run P w=.ok (g x) w)->∀w,(l.mapM f).run P w=.ok (l.map g) w
 |[],_,w=>rfl
 |x::r,h,w=>by
  rw[List.mapM_cons,Sem.run_bind,h x List.mem_cons_self,Result.andThen_ok,Sem.run_bind,SR (λy hy=>h y (List.mem_cons_of_mem _ hy))]
  rfl
theorem abU{α β:Type}{f:α->Sem β}{g:α->β}{xs:Array α}(h:∀x∈xs.toList,∀w,(f x).run P w=.ok (g x) w)(w:World):(xs.mapM f).run P w=.ok (xs.map g) w:=by
 rw[Array.mapM_eq_mapM_toList,Sem.run_map,SR h]
 simp only[Result.andThen_ok]
 congr 1
 apply Array.ext'
 simp
theorem QW:∀ {fs:List Field} {pl:List (Nat × Nat)},placesOf P fs=some pl->(∀f∈fs,known P f.type=true)/\pl=fs.map λf=>(f.offset,Ev.sizeOf P f.type)
 |[],_,h=>by cases h;exact⟨λ_ h=>(by cases h),rfl⟩
 |f::r,pl,h=>by
  simp only[placesOf]at h
  cases hk:known P f.type with
  |false=>rw[hk]at h;cases h
  |true=>
   rw[hk]at h
   simp only[cond_true]at h
   split at h
   ·rename_i l hl
    cases h
    obtain⟨h1,h2⟩:=QW hl
    refine⟨λx hx=>?_,by rw[h2];rfl⟩
    cases hx with
    |head=>exact hk
    |tail _ hx=>exact h1 x hx
   ·cases h
theorem ag4{t:TypeId}{ps:List (Nat × Value)}{v:Value}(h:HQ P t ps=some v)(w:World):(Instr.build t ⟨ps⟩).run P w=.ok v w:=by
 unfold HQ at h
 unfold Instr.build
 split at h
 ·rename_i fs hu
  cases hz:uh P t with
  |false=>rw[hz]at h;cases h
  |true=>
   rw[hz]at h
   simp only[cond_true]at h
   split at h
   ·rename_i pl qn
    split at h
    ·rename_i cs fY
     cases h
     obtain⟨hk,akK⟩:=QW qn
     obtain⟨z,wM,wN⟩:=P5 hz w (P:=P) (β:=Value) (λz0=>do
      match <- underlying t with
      |.struct fields=>
       let places <- fields.mapM λf=>do pure (f.offset,<- Go.sizeOf f.type)
       let some cells:=Instr.fill (places[·]?) z0.cells ps|stuck "build: no such field, or a part of the wrong size"
       pure (.agg cells)
      |.array _ elem=>
       let size <- Go.sizeOf elem
       let some cells:=Instr.fill (λi=>some (i*size,size)) z0.cells ps|stuck "build: a part of the wrong size"
       pure (.agg cells)
      |_=>stuck "build: struct or array type expected")
     refine Eq.trans ?_ (wN.trans ?_)
     ·rfl
     ·rw[Sem.run_bind,run_underlying hu,Result.andThen_ok]
      simp only[]
      rw[Sem.run_bind,abU (g:=λf=>(f.offset,Ev.sizeOf P f.type)) (λf hf w=>by simp[qz (hk f hf)]),Result.andThen_ok]
      have hf:Instr.fill (λx=>(fs.map λf=>(f.offset,Ev.sizeOf P f.type))[x]?) z.cells ps=some ⟨cs⟩:=by
       rw[wM]
       refine Ht _ ps _ ?_
       rw[<- fY,akK]
       congr 1
       funext i
       simp
      rw[hf]
      rfl
    ·cases h
   ·cases h
 ·rename_i n e hu
  cases hz:(uh P t&&known P e)with
  |false=>rw[hz]at h;cases h
  |true=>
   rw[hz]at h
   simp only[Bool.and_eq_true]at hz
   simp only[cond_true]at h
   split at h
   ·rename_i cs fY
    cases h
    obtain⟨z,wM,wN⟩:=P5 hz.1 w (P:=P) (β:=Value) (λz0=>do
      match <- underlying t with
      |.struct fields=>
       let places <- fields.mapM λf=>do pure (f.offset,<- Go.sizeOf f.type)
       let some cells:=Instr.fill (places[·]?) z0.cells ps|stuck "build: no such field, or a part of the wrong size"
       pure (.agg cells)
      |.array _ elem=>
       let size <- Go.sizeOf elem
       let some cells:=Instr.fill (λi=>some (i*size,size)) z0.cells ps|stuck "build: a part of the wrong size"
       pure (.agg cells)
      |_=>stuck "build: struct or array type expected")
    refine Eq.trans ?_ (wN.trans ?_)
    ·rfl
    ·rw[Sem.run_bind,run_underlying hu,Result.andThen_ok]
     simp only[]
     rw[Sem.run_bind,qz hz.2,Result.andThen_ok]
     have hf:Instr.fill (λi=>some (i*Ev.sizeOf P e,Ev.sizeOf P e)) z.cells ps=some ⟨cs⟩:=by
      rw[wM]
      exact Ht _ ps _ fY
     rw[hf]
     rfl
   ·cases h
 ·cases h
variable{P:Program}
theorem GY{t:TypeId}{u:TypeDesc}(h:P.underlying t=some u)(w:World):(isAgg t).run P w=.ok (sN P t) w:=by
 unfold sN
 rw[h]
 cases u<;>simp[isAgg,run_underlying h]
theorem ag5{t:TypeId}{x v:Value}{f:Nat}(h:L3 P t x f=some v)(w:World):(Instr.field t x f).run P w=.ok v w:=by
 unfold L3 at h
 split at h
 ·rename_i cs
  split at h
  ·rename_i fs hu
   split at h
   ·rename_i fd hf
    cases hk:(known P fd.type&&L0 P fd.type)with
    |false=>rw[hk]at h;cases h
    |true=>
     rw[hk]at h
     simp only[Bool.and_eq_true]at hk
     simp only[cond_true]at h
     unfold Instr.field
     rw[Sem.run_bind,run_underlying hu,Result.andThen_ok]
     simp only[]
     have E1:fs[f]? = some fd:=by simpa using hf
     rw[E1]
     simp only[]
     rw[Sem.run_bind]
     simp only[asAgg,Sem.run_pure,Result.andThen_ok]
     unfold part
     rw[Sem.run_bind]
     cases yT:P.underlying fd.type with
     |none=>
      have:=hk.2
      simp[L0,yT]at this
     |some u=>
      rw[GY yT,Result.andThen_ok]
      cases ha:sN P fd.type with
      |true=>
       rw[ha]at h
       cases h
       simp only[if_true]
       rw[Sem.run_bind,qz hk.1]
       simp only[Result.andThen_ok,Sem.run_pure]
       congr 2
       apply Array.ext'
       simp[Array.toList_extract,List.extract_eq_take_drop]
      |false=>
       rw[ha]at h
       simp only[cond_false]at h
       have h':cs[fd.offset]? = some v:=by simpa using h
       simp[h']
   ·cases h
  ·cases h
 ·cases h
theorem ZX{a:Addr}{f:Field}(hk:known P f.type=true)(hs:Nat.beq (Ev.sizeOf P f.type) 0=false)(w:World):(fieldPlace a f).run P w=.ok (a.add f.offset) w:=by
 unfold fieldPlace
 rw[Sem.run_bind,qz hk,Result.andThen_ok,if_neg (fU.1 hs)]
 rfl
theorem UN(k:IntKind):∀(r:List Value) (x:Int) {v:Value},lF.HR k x r=some v->∀w,((r.foldlM Builtin.min2 (.int k x):Sem Value)).run P w=.ok v w
 |[],x,v,h,w=>by cases h;rfl
 |y::r,x,v,h,w=>by
  cases y with
  |int k' y=>
   simp only[lF.HR]at h
   rw[List.foldlM_cons,Sem.run_bind]
   simp only[Builtin.min2,Sem.run_pure,Result.andThen_ok]
   have:(if y<x then y else x)=min x y:=by omega
   rw[this]
   exact UN k r _ h w
  |_=>cases h
theorem UO(k:IntKind):∀(r:List Value) (x:Int) {v:Value},lF.HS k x r=some v->∀w,((r.foldlM Builtin.max2 (.int k x):Sem Value)).run P w=.ok v w
 |[],x,v,h,w=>by cases h;rfl
 |y::r,x,v,h,w=>by
  cases y with
  |int k' y=>
   simp only[lF.HS]at h
   rw[List.foldlM_cons,Sem.run_bind]
   simp only[Builtin.max2,Sem.run_pure,Result.andThen_ok]
   have:(if y > x then y else x)=max x y:=by omega
   rw[this]
   exact UO k r _ h w
  |_=>cases h
theorem UP{ρ:Operand->Option Value}{e:Operand->Value}(hr:rT ρ e)(o:Oper){v:Value}(h:lF P ρ o.op=some v)(w:World):
  (execOp e o).run P w=.ok (.value v) w:=by
 obtain⟨dst,op,ty,ps,af,gd⟩:=o
 simp only at h
 unfold lF at h
 split at h
 ·rw[<- hr _ _ h];rfl
 ·rw[<- hr _ _ h];rfl
 ·rename_i op t x y yt
  split at h
  ·rename_i a b ha hb
   have:=R5 h x y w
   rw[<- hr _ _ ha,<- hr _ _ hb]at this
   simp only[execOp]
   rw[Sem.run_bind,this]
   rfl
  ·cases h
 ·rename_i op t x
  split at h
  ·rename_i b hb;cases h;simp only[execOp,hr _ _ hb];rfl
  ·rename_i k n hb;cases h;simp only[execOp,hr _ _ hb];rfl
  ·rename_i k n hb;cases h;simp only[execOp,hr _ _ hb];rfl
  ·cases h
 ·rename_i s d x
  split at h
  ·rename_i u k k0 n hs hd hx
   cases h
   simp only[execOp,hr _ _ hx,convert]
   rw[Sem.run_bind,Sem.run_bind,run_underlying hs,Result.andThen_ok,Sem.run_bind,run_underlying hd,Result.andThen_ok]
   rfl
  ·rename_i b hs hd hx
   cases h
   simp only[execOp,hr _ _ hx,convert]
   rw[Sem.run_bind,Sem.run_bind,run_underlying hs,Result.andThen_ok,Sem.run_bind,run_underlying hd,Result.andThen_ok]
   rfl
  ·cases h
 ·rename_i t x
  split at h
  ·cases h
  ·rename_i u hni hu
   cases hx:ρ x with
   |none=>rw[hx]at h;cases h
   |some v0=>
    rw[hx]at h;cases h
    simp only[execOp,hr _ _ hx,Instr.makeInterface]
    rw[Sem.run_bind,Sem.run_bind,run_underlying hu,Result.andThen_ok]
    cases u<;>first|rfl|exact(hni _ rfl).elim
  ·cases h
 ·rename_i fn first cap
  split at h
  ·rename_i va vb ha hb
   cases h
   simp only[execOp,uf hr ha,uf hr hb];rfl
  ·cases h
 ·rename_i t pts
  split at h
  ·rename_i vs hv
   simp only[execOp]
   rw[RY hr hv,Sem.run_bind,ag4 h];rfl
  ·cases h
 ·rename_i t x f
  split at h
  ·rename_i v0 hx
   simp only[execOp,hr _ _ hx]
   rw[Sem.run_bind,ag5 h];rfl
  ·cases h
 ·rename_i x i
  split at h
  ·rename_i vs hx
   simp only[execOp,hr _ _ hx,Instr.extract]
   have h':vs[i]? = some v:=by simpa using h
   rw[h'];rfl
  ·cases h
 ·rename_i t x f
  split at h
  ·rename_i a hx
   split at h
   ·rename_i fs hu
    split at h
    ·rename_i fd hf
     cases hc:(Nat.beq (Ev.sizeOf P fd.type) 0||!known P fd.type)with
     |true=>rw[hc]at h;cases h
     |false=>
      rw[hc]at h;cases h
      simp only[Bool.or_eq_false_iff,Bool.not_eq_false']at hc
      have E1:fs[f]? = some fd:=by simpa using hf
      simp only[execOp,hr _ _ hx,Instr.fieldAt]
      rw[Sem.run_bind,Sem.run_bind,run_underlying hu,Result.andThen_ok]
      simp only[E1]
      rw[Sem.run_bind]
      simp only[Instr.sureAddr,Sem.run_pure,Result.andThen_ok]
      rw[Sem.run_bind,ZX hc.2 hc.1];rfl
    ·cases h
   ·cases h
  ·cases h
 ·rename_i xs yU
  split at h
  ·rename_i a n c t hv ht
   split at h
   ·rename_i e0 hu
    cases h
    have jH:=uf hr hv
    have AG:yU=#[t]:=Array.ext' ht
    simp only[execOp,resolve,jH,invoke,Sem.run_bind,Sem.run_pure,Result.andThen_ok,builtin,Builtin.len_,AG]
    simp[run_underlying hu,goInt]
   ·cases h
  ·rename_i b t hv ht
   split at h
   ·rename_i hu
    cases h
    have jH:=uf hr hv
    have AG:yU=#[t]:=Array.ext' ht
    simp only[execOp,resolve,jH,invoke,Sem.run_bind,Sem.run_pure,Result.andThen_ok,builtin,Builtin.len_,AG]
    simp[run_underlying hu,goInt]
   ·cases h
  ·rename_i x0 t _ _ hv ht
   split at h
   ·rename_i n e0 hu
    cases h
    have jH:=uf hr hv
    have AG:yU=#[t]:=Array.ext' ht
    simp only[execOp,resolve,jH,invoke,Sem.run_bind,Sem.run_pure,Result.andThen_ok,builtin,Builtin.len_,AG]
    simp[run_underlying hu,goInt]
   ·cases h
  ·cases h
 ·rename_i xs yU
  split at h
  ·rename_i a n c t hv ht
   split at h
   ·rename_i e0 hu
    cases h
    have jH:=uf hr hv
    have AG:yU=#[t]:=Array.ext' ht
    simp only[execOp,resolve,jH,invoke,Sem.run_bind,Sem.run_pure,Result.andThen_ok,builtin,Builtin.cap_,AG]
    simp[run_underlying hu,goInt]
   ·cases h
  ·cases h
 ·rename_i xs yU
  split at h
  ·rename_i k x r hv
   have jH:=uf hr hv
   simp only[execOp,resolve,jH,invoke,Sem.run_bind,Sem.run_pure,Result.andThen_ok,builtin,Builtin.min_]
   rw[UN k r x h];rfl
  ·cases h
 ·rename_i xs yU
  split at h
  ·rename_i k x r hv
   have jH:=uf hr hv
   simp only[execOp,resolve,jH,invoke,Sem.run_bind,Sem.run_pure,Result.andThen_ok,builtin,Builtin.max_]
   rw[UO k r x h];rfl
  ·cases h
 ·cases h
variable{P:Program}
def sY(P:Program)(e:Operand->Value)(o:Oper)(w:World)(K:Value->World->Prop):Prop:=
 ∃v,(∀w',(execOp e o).run P w'=.ok (.value v) w')/\K v w
theorem sY.lF{ρ:Operand->Option Value}{e:Operand->Value}(hr:rT ρ e){o:Oper}{w:World}{K:Value->World->Prop}
  (h:match Ev.lF P ρ o.op with|some v=>K v w|none=>False):sY P e o w K:=by
 split at h
 ·rename_i v hv;exact⟨v,λw'=>UP hr o hv w',h⟩
 ·exact h.elim
theorem Ey{nw:Bool}{k:IntKind}{z:Int}{K:Int->Prop}(h:ar nw k z K):K (k.wrap z):=by
 unfold ar at h
 cases hc:(nw&&Iv k)with
 |false=>rw[hc]at h;exact h
 |true=>
  rw[hc]at h
  simp only[Bool.and_eq_true]at hc
  have hk:k=.i64:=by have:=hc.2;cases k<;>simp_all [Iv]
  subst hk
  have:IntKind.i64.wrap z=z:=by
   have h1:=h.1
   unfold cv at h1
   simp[IntKind.wrap,IntKind.bits,IntKind.signed]
   split<;>omega
  rw[this];exact h.2
theorem UQ{y:Int}{A:Prop}(h:pos y A):0<y/\A:=by
 unfold pos at h
 split at h
 ·exact⟨by simp only[Int.ofNat_eq_natCast];omega,h⟩
 ·exact h
theorem UR{y:Int}{A:Prop}(h:AF y A):0<=y/\A:=by
 unfold AF at h
 split at h
 ·exact⟨by simp only[Int.ofNat_eq_natCast];omega,h⟩
 ·exact h
theorem Ks{k:IntKind}{z:Int}(h0:0<=z)(h1:z<=k.max):k.wrap z=z:=by
 cases k<;>simp only[IntKind.max,IntKind.signed,IntKind.bits]at h1<;>simp only[IntKind.wrap,IntKind.bits,IntKind.signed]<;>simp at h1⊢<;>omega
theorem aja{m:Mode}{op:BinOp}{k k':IntKind}{x y:Int}{K:Value->Prop}(h:Et m op k x k' y K)(t:TypeId):
  ∃v,(∀w:World,(binOp op t (.int k x) (.int k' y)).run P w=.ok v w)/\K v:=by
 have kk:∀ {A:Prop},cond (decide (k=k')) A False->k=k'/\A:=λ{A} hA=>by
  cases hk:decide (k=k')with
  |true=>rw[hk]at hA;exact⟨of_decide_eq_true hk,hA⟩
  |false=>rw[hk]at hA;exact hA.elim
 have rest:(match xZ op k x k' y with|some v=>K v|none=>False)->∃v,(∀w:World,(binOp op t (.int k x) (.int k' y)).run P w=.ok v w)/\K v:=λh=>by
  split at h
  ·rename_i v hv;exact⟨v,λw=>RZ hv t w,h⟩
  ·exact h.elim
 cases op<;>simp only[Et]at h
 case add=>
  obtain⟨e,h2⟩:=kk h
  subst e
  exact⟨_,λw=>by simp[binOp,Op.intArith],Ey h2⟩
 case sub=>
  obtain⟨e,h2⟩:=kk h
  subst e
  exact⟨_,λw=>by simp[binOp,Op.intArith],Ey h2⟩
 case mul=>
  obtain⟨e,h2⟩:=kk h
  subst e
  exact⟨_,λw=>by simp[binOp,Op.intArith],Ey h2⟩
 case quo=>
  obtain⟨e,h2⟩:=kk h
  subst e
  clear h
  obtain⟨hy,h⟩:=UQ h2
  have gP:¬y=0:=by omega
  cases hd:m.dv with
  |true=>
   rw[hd]at h
   obtain⟨⟨h0,h1⟩,hK⟩:=h
   refine⟨_,λw=>?_,hK⟩
   have e1:x.tdiv y=x / y:=Int.tdiv_eq_ediv_of_nonneg h0
   have e2:k.wrap (x / y)=x / y:=Ks (Int.ediv_nonneg h0 (by omega)) (Int.le_trans (Int.ediv_le_self y h0) h1)
   simp[binOp,Op.intDiv,gP,e1,e2]
  |false=>
   rw[hd]at h
   exact⟨_,λw=>by simp[binOp,Op.intDiv,gP],h⟩
 case rem=>
  obtain⟨e,h2⟩:=kk h
  subst e
  clear h
  obtain⟨hy,h⟩:=UQ h2
  have gP:¬y=0:=by omega
  cases hd:m.dv with
  |true=>
   rw[hd]at h
   obtain⟨h0,hK⟩:=h
   refine⟨_,λw=>?_,hK⟩
   have e1:x.tmod y=x%y:=Int.tmod_eq_emod_of_nonneg h0
   simp[binOp,Op.intDiv,gP,e1]
  |false=>
   rw[hd]at h
   exact⟨_,λw=>by simp[binOp,Op.intDiv,gP],h⟩
 case shl=>obtain⟨hy,h⟩:=UR h;exact⟨_,λw=>by simp[binOp,Op.shift,show ¬y<0 by omega,shl],h⟩
 case shr=>obtain⟨hy,h⟩:=UR h;exact⟨_,λw=>by simp[binOp,Op.shift,show ¬y<0 by omega,shr],h⟩
 all_goals exact rest h
theorem afZ{op:BinOp}{t:TypeId}{x y:Operand}{k:IntKind}{n:Int}{b:Value}(w:World):(eqGuard op t x y (.int k n) b).run P w=.ok () w:=xw (by simp) (by simp) w
theorem R6{t:TypeId}{ms:Array (String × TypeId)}(hu:P.underlying t=some (.interface ms))(a:Value)(K:Bool->Prop)(h:ud a K):
  ∃z,(∀w:World,(Op.equal t a .nilIface).run P w=.ok z w)/\K z:=by
 cases a<;>simp only[ud]at h<;>first|exact h.elim|skip
 ·rename_i t' v
  refine⟨false,λw=>?_,h⟩
  have hh:∀d:Nat,(Op.equalIn (d+1) t (.iface t' v) .nilIface).run P w=.ok false w:=λd=>by simp only[Op.equalIn,Sem.run_bind,run_underlying hu,Result.andThen_ok];rfl
  exact hh 9999
 ·refine⟨true,λw=>?_,h⟩
  have hh:∀d:Nat,(Op.equalIn (d+1) t .nilIface .nilIface).run P w=.ok true w:=λd=>by simp only[Op.equalIn,Sem.run_bind,run_underlying hu,Result.andThen_ok];rfl
  exact hh 9999
theorem Rr{t:TypeId}{ps rs:Array TypeId}{va:Bool}(hu:P.underlying t=some (.func ps rs va))(a:Value)(K:Bool->Prop)(h:zQ a K):
  ∃z,(∀w:World,(Op.equal t a .nilFunc).run P w=.ok z w)/\K z:=by
 cases a<;>simp only[zQ]at h<;>first|exact h.elim|skip
 ·rename_i fn f c
  refine⟨false,λw=>?_,h⟩
  have hh:∀d:Nat,(Op.equalIn (d+1) t (.func fn f c) .nilFunc).run P w=.ok false w:=λd=>by simp only[Op.equalIn,Sem.run_bind,run_underlying hu,Result.andThen_ok];rfl
  exact hh 9999
 ·refine⟨true,λw=>?_,h⟩
  have hh:∀d:Nat,(Op.equalIn (d+1) t .nilFunc .nilFunc).run P w=.ok true w:=λd=>by simp only[Op.equalIn,Sem.run_bind,run_underlying hu,Result.andThen_ok];rfl
  exact hh 9999
theorem zS{e:Operand->Value}{dst:Option Nat}{op:BinOp}{t yt:TypeId}{x y:Operand}{ty:TypeId}{ps:String}{af:Array Edge}{gd:Option (Nat × Bool)}{v:Value}{w w':World}
  (h:(do eqGuard op t x y (e x) (e y);binOp op t (e x) (e y):Sem Value).run P w=.ok v w'):(execOp e ⟨dst,.binOp op t x y yt,ty,ps,af,gd⟩).run P w=.ok (.value v) w':=by
 simp only[execOp]
 rw[Sem.run_bind,h]
 rfl
theorem Ch{m:Mode}{op:BinOp}{t:TypeId}{a b:Value}{w:World}{K:Value->World->Prop}{yc:Bool}(h:Af P m op t yc a b w K)(hb:∀ys,b≠.agg ys)(x y:Operand)(hy:yc=Wt y):
  ∃v,(∀w':World,(do eqGuard op t x y a b;binOp op t a b:Sem Value).run P w'=.ok v w')/\K v w:=by
 have rest:(match uu P op t a b with|some v=>K v w|none=>False)->∃v,(∀w':World,(do eqGuard op t x y a b;binOp op t a b:Sem Value).run P w'=.ok v w')/\K v w:=λh=>by
  split at h
  ·rename_i v hv;exact⟨v,λw'=>R5 hv x y w',h⟩
  ·exact h.elim
 unfold Af at h
 split at h
 ·
  have Eg:yc=true->∀w':World,(eqGuard op t x y a .nilIface).run P w'=.ok () w':=λAH w'=>by
   have hc:∃c,y=.const c:=by
    rw[AH]at hy
    cases y<;>first|exact⟨_,rfl⟩|cases hy
   obtain⟨c,rfl⟩:=hc
   unfold eqGuard
   cases op<;>first|rfl|(cases a<;>first|rfl|(simp;done))
  split at h
  ·rename_i hu
   have AH:yc=true:=by cases yc<;>first|exact h.elim|rfl
   simp only[AH,cond_true]at h
   obtain⟨z,h1,h2⟩:=R6 hu a _ h
   refine⟨_,λw'=>?_,h2⟩
   rw[Sem.run_bind,Eg AH,Result.andThen_ok]
   cases a<;>simp only[ud]at h<;>first|exact h.elim|(show(Op.equal _ _ _ >>= _).run P w'=_;rw[Sem.run_bind,h1];rfl)
  ·rename_i hu
   have AH:yc=true:=by cases yc<;>first|exact h.elim|rfl
   simp only[AH,cond_true]at h
   obtain⟨z,h1,h2⟩:=R6 hu a _ h
   refine⟨_,λw'=>?_,h2⟩
   rw[Sem.run_bind,Eg AH,Result.andThen_ok]
   cases a<;>simp only[ud]at h<;>first|exact h.elim|(show(Op.equal _ _ _ >>= _).run P w'=_;rw[Sem.run_bind,h1];rfl)
  ·exact h.elim
 ·have Eg:∀w':World,(eqGuard op t x y a .nilFunc).run P w'=.ok () w':=λw'=>by
   unfold eqGuard
   cases op<;>first|rfl|(cases a<;>rfl)
  split at h
  ·rename_i hu
   obtain⟨z,h1,h2⟩:=Rr hu a _ h
   refine⟨_,λw'=>?_,h2⟩
   rw[Sem.run_bind,Eg,Result.andThen_ok]
   cases a<;>simp only[zQ]at h<;>first|exact h.elim|(show(Op.equal _ _ _ >>= _).run P w'=_;rw[Sem.run_bind,h1];rfl)
  ·rename_i hu
   obtain⟨z,h1,h2⟩:=Rr hu a _ h
   refine⟨_,λw'=>?_,h2⟩
   rw[Sem.run_bind,Eg,Result.andThen_ok]
   cases a<;>simp only[zQ]at h<;>first|exact h.elim|(show(Op.equal _ _ _ >>= _).run P w'=_;rw[Sem.run_bind,h1];rfl)
  ·exact h.elim
 ·split at h
  ·obtain⟨v,h1,h2⟩:=aja h t (P:=P)
   refine⟨v,λw'=>?_,h2⟩
   rw[Sem.run_bind,afZ,Result.andThen_ok,h1]
  ·exact h.elim
 ·rename_i ys;exact absurd rfl (hb ys)
 ·split at h
  ·rename_i s1 _
   refine⟨_,λw'=>?_,h.2⟩
   rw[Sem.run_bind,xw (by simp) (by simp),Result.andThen_ok]
   simp only[binOp,Op.stringOp]
   rw[if_neg (by simp only[IntKind.max,IntKind.signed,IntKind.bits];have:=h.1;simp;omega)]
   rfl
  ·exact rest h
  ·exact h.elim
 ·exact rest h
theorem US{i:Int}{n:Nat}{A:Prop}(h:idx i n A):0<=i/\i<(n:Int)/\A:=⟨h.1.1,h.1.2,h.2⟩
theorem ajb{b:ByteArray}{i:Int}(h0:0<=i)(h1:i<(b.size:Int)):∃u,b[i.toNat]? = some u/\(u.toNat:Int)=tq b i:=by
 have bB:i.toNat<b.size:=by omega
 refine⟨b[i.toNat],?_,?_⟩
 ·simp[bB]
 ·unfold tq
  have h2:i.toNat<b.data.toList.length:=by simpa using bB
  rw[List.getD,List.getElem?_eq_getElem h2]
  rfl
theorem qy{k:IntKind}{i:Int}{y:Nat}{c:BoundsCode}(h0:0<=i)(h1:i<=(y:Int))(w:World):(Instr.sliceBound (.int k i) y c).run P w=.ok i.toNat w:=by
 simp[Instr.sliceBound,asIntOf,h0,h1]
theorem TW{e:TypeId}{x:ag}{lo hi mx:Option Value}{K:ag->Prop}(h:An P e x lo hi mx K)(b:Bool):
  ∃s:ag,K s/\∃l hh m,(∀w:World,(Instr.sliceBounds b x.n x.c lo hi mx).run P w=.ok (l,hh,m) w)/\s.n=hh - l/\s.c=m - l/\s.a=(if m=l then x.a else x.a.map (·.add (l*Ev.sizeOf P e))):=by
 have Ap:∀a:Option Addr,a.map (·.add (0*Ev.sizeOf P e))=a:=λa=>by cases a<;>simp[Addr.add]
 unfold An at h
 split at h
 ·refine⟨x,h,0,x.n,x.c,λw=>by simp[Instr.sliceBounds],rfl,rfl,?_⟩
  rw[Ap];split<;>rfl
 ·rename_i k hh
  obtain⟨⟨h0,h1⟩,h⟩:=h
  refine⟨_,h,0,hh.toNat,x.c,λw=>?_,rfl,rfl,?_⟩
  ·cases b<;>simp[Instr.sliceBounds,qy h0 h1]
  ·rw[Ap];split<;>rfl
 ·rename_i k l
  obtain⟨⟨h0,h1⟩,h⟩:=h
  refine⟨_,h,l.toNat,x.n,x.c,λw=>?_,rfl,rfl,rfl⟩
  cases b<;>simp[Instr.sliceBounds,qy h0 h1]
 ·rename_i k l k' hh
  obtain⟨⟨h0,h1,h2⟩,h⟩:=h
  refine⟨_,h,l.toNat,hh.toNat,x.c,λw=>?_,rfl,rfl,rfl⟩
  have h3:l<=((hh.toNat:Nat):Int):=by omega
  cases b<;>simp[Instr.sliceBounds,qy (show 0<=hh by omega) h2,qy h0 h3]
 ·rename_i k hh k' mm
  obtain⟨⟨h0,h1,h2⟩,h⟩:=h
  refine⟨_,h,0,hh.toNat,mm.toNat,λw=>?_,rfl,rfl,?_⟩
  ·have h3:hh<=((mm.toNat:Nat):Int):=by omega
   cases b<;>simp[Instr.sliceBounds,qy (show 0<=mm by omega) h2,qy h0 h3]
  ·rw[Ap];split<;>rfl
 ·rename_i k l k' hh k2 mm
  obtain⟨⟨h0,h1,h2,h4⟩,h⟩:=h
  refine⟨_,h,l.toNat,hh.toNat,mm.toNat,λw=>?_,rfl,rfl,rfl⟩
  have h3:hh<=((mm.toNat:Nat):Int):=by omega
  have h5:l<=((hh.toNat:Nat):Int):=by omega
  cases b<;>simp[Instr.sliceBounds,qy (show 0<=mm by omega) h4,qy (show 0<=hh by omega) h3,qy h0 h5]
 ·exact h.elim
theorem vJ{ρ:Operand->Option Value}{e:Operand->Value}(hr:rT ρ e){x:Option Operand}{v:Option Value}(h:Cg ρ x=some v):x.map e=v:=by
 cases x with
 |none=>simp only[Cg]at h;cases h;rfl
 |some y=>
  simp only[Cg]at h
  split at h
  ·rename_i u hu;cases h;rw[Option.map_some,hr _ _ hu]
  ·cases h
variable{P:Program}
theorem R7{s:Sh}{a:Addr}{w:World}{K:Value->Prop}(h:zZ s a w K):∃v,w.cell? a=some v/\K v:=by
 cases s<;>simp only[zZ,au,mV,jX,uR,az,Nv]at h
 all_goals first
  |(obtain⟨n,h1,h2⟩:=h;exact⟨_,h1,h2⟩)
theorem Rs:∀ {l:List Sh} {a:Addr} {i:Nat} {w:World} {K:List Value->Prop},zR l a i w K->
  ∃vs,vs.length=l.length/\(∀j v,vs[j]? = some v->w.cell? (a.add (i+j))=some v)/\K vs
 |[],a,i,w,K,h=>⟨[],rfl,λj v hj=>by simp at hj,h⟩
 |s::r,a,i,w,K,h=>by
  simp only[zR]at h
  obtain⟨v,h1,h2⟩:=R7 h
  obtain⟨vs,h3,h4,h5⟩:=Rs h2
  refine⟨v::vs,by simp[h3],λj u hj=>?_,h5⟩
  cases j with
  |zero=>simp at hj;subst hj;exact h1
  |succ j=>rw[show i+(j+1)=i+1+j by omega];exact h4 j u (by simpa using hj)
theorem run_loadCells(a:Addr)(w:World):∀(cs:List Value) (i:Nat) (acc:Array Value),(∀j v,cs[j]? = some v->w.cell? (a.add (i+j))=some v)->
  (loadCellsFrom a i cs.length acc).run P w=.ok (acc++cs.toArray) w
 |[],i,acc,_=>by simp[loadCellsFrom]
 |v::r,i,acc,h=>by
  simp only[List.length_cons,loadCellsFrom]
  rw[Sem.run_bind]
  have h0:w.cell? (a.add i)=some v:=by simpa using h 0 v (by simp)
  rw[show(load (a.add i)).run P w=.ok v w by simp[h0],Result.andThen_ok]
  rw[run_loadCells a w r (i+1) (acc.push v) (λj u hj=>by rw[show i+1+j=i+(j+1) by omega];exact h (j+1) u (by simpa using hj))]
  simp
theorem R8{a:Addr}{n:Nat}{w w':World}(h:kept a n w w'){v:Value}(hj:j<n)(hv:w.cell? (a.add j)=some v):w'.cell? (a.add j)=some v:=(h j hj).trans hv
theorem Ap(a:Addr):a.add 0=a:=by simp[Addr.add]
theorem ie{b:Bool}{A:Prop}(h:cond b A False):b=true/\A:=by cases b<;>first|exact h.elim|exact⟨rfl,h⟩
theorem LB{t:TypeId}{a:Addr}{w:World}{K:Value->Prop}(h:uJ P t a w K):
  ∃v,K v/\∀w',kept a (Ev.sizeOf P t) w w'->(loadVar t a).run P w'=.ok v w':=by
 have row:∀ {u:TypeDesc} {vs:List Value},P.underlying t=some u->sN P t=true->known P t=true->vs.length=Ev.sizeOf P t->(∀j v,vs[j]? = some v->w.cell? (a.add j)=some v)->
   ∀w',kept a (Ev.sizeOf P t) w w'->(loadVar t a).run P w'=.ok (.agg ⟨vs⟩) w':=by
  intro u vs hu ha hk hl hc w' hw
  unfold loadVar
  rw[Sem.run_bind,GY hu,Result.andThen_ok,if_pos ha,Sem.run_bind,qz hk,Result.andThen_ok,Sem.run_bind]
  unfold loadCells
  have:=run_loadCells (P:=P) a w' vs 0 #[] (λj v hj=>by
   rw[Nat.zero_add]
   have bB:j<vs.length:=(List.getElem?_eq_some_iff.1 hj).1
   exact R8 hw (by omega) (hc j v hj))
  rw[hl]at this
  rw[this]
  simp
 unfold uJ at h
 split at h
 ·rename_i fs hu
  split at h
  ·rename_i l hl
   obtain⟨hc,h⟩:=ie h
   simp only[Bool.and_eq_true,beq_eq]at hc
   obtain⟨vs,h1,h2,h3⟩:=Rs h
   refine⟨_,h3,row hu (by simp[sN,hu]) hc.1 (h1.trans hc.2) (λj v hj=>?_)⟩
   have:=h2 j v hj
   rwa [Nat.zero_add]at this
  ·exact h.elim
 ·rename_i n e hu
  obtain⟨hc,h⟩:=ie h
  obtain⟨cs,h1,h2,h3⟩:=h
  exact⟨_,h3,row hu (by simp[sN,hu]) hc h1 h2⟩
 ·rename_i u wO oW hu
  obtain⟨hc,h⟩:=ie h
  obtain⟨v,h1,h2⟩:=R7 h
  refine⟨v,h2,λw' hw=>?_⟩
  have ha:sN P t=false:=by
   unfold sN;rw[hu]
   cases u<;>first|rfl|exact(wO _ rfl).elim|exact(wO _ _ rfl).elim|exact(oW _ rfl).elim|exact(oW _ _ rfl).elim
  have h0:w'.cell? a=some v:=by
   have:=R8 hw (j:=0) (by rw[beq_eq.1 hc];omega) (by rw[Ap];exact h1)
   rwa [Ap]at this
  unfold loadVar
  rw[Sem.run_bind,GY hu,Result.andThen_ok,if_neg (by simp[ha])]
  simp[h0]
 ·exact h.elim
theorem run_store{a:Addr}{v u:Value}{w:World}(h1:w.cell? a=some u)(h2:w.frozen? a=false)(h3:dQ v=true):(store a v).run P w=.ok () (w.setCell a v):=by
 unfold store
 cases v<;>first|(cases h3;done)|(simp[Sem.run,h1,h2])
theorem aij{v:Value}{A:Prop}(h:VQ v A):dQ v=true/\A:=by
 cases v<;>first|exact⟨rfl,h⟩|exact h.elim
theorem Vt{a:Addr}{v:Value}{w:World}{K:World->Prop}(h:st a v w K):(store a v).run P w=.ok () (w.setCell a v)/\dQ v=true/\K (w.setCell a v):=by
 obtain⟨⟨u,h1⟩,h2,h3⟩:=h
 obtain⟨h4,h5⟩:=aij h3
 exact⟨run_store h1 h2 h4,h4,h5⟩
theorem Rt:∀ {l:List Value} {a:Addr} {i:Nat} {w:World} {K:World->Prop},lX l a i w K->∃w',(storeCells a l i).run P w=.ok () w'/\K w'
 |[],a,i,w,K,h=>⟨w,rfl,h⟩
 |v::r,a,i,w,K,h=>by
  simp only[lX]at h
  obtain⟨h1,_,h2⟩:=Vt (P:=P) h
  obtain⟨w',h3,h4⟩:=Rt h2
  refine⟨w',?_,h4⟩
  unfold storeCells
  rw[Sem.run_bind,h1]
  exact h3
theorem SS:∀ {l:List Value} {a:Addr} {i:Nat} {w:World},(∀j,j<l.length->(∃u,w.cell? (a.add (i+j))=some u)/\w.frozen? (a.add (i+j))=false)->(∀v∈l,dQ v=true)->
  (storeCells a l i).run P w=.ok () (setRow w a i l)
 |[],a,i,w,_,_=>rfl
 |v::r,a,i,w,h,h1=>by
  obtain⟨⟨u,h2⟩,h3⟩:=h 0 (by simp)
  rw[Nat.add_zero]at h2 h3
  unfold storeCells setRow
  rw[Sem.run_bind,run_store h2 h3 (h1 v List.mem_cons_self),Result.andThen_ok]
  refine SS (λj hj=>?_) (λv hv=>h1 v (List.mem_cons_of_mem _ hv))
  obtain⟨⟨u',h4⟩,h5⟩:=h (j+1) (by simp only[List.length_cons];omega)
  rw[show i+(j+1)=i+1+j by omega]at h4 h5
  refine⟨?_,by rw[World.frozen?_setCell];exact h5⟩
  by_cases e:a.add i=a.add (i+1+j)
  ·rw[<- e];exact⟨_,World.cell?_setCell_same _ _ _ h2⟩
  ·exact⟨u',by rw[World.cell?_setCell_other _ _ _ _ e];exact h4⟩
theorem af0{v:Value}(h:dQ v=true):v.cells=#[v]:=by cases v<;>first|rfl|cases h
theorem aik{t:TypeId}{a:Addr}{v:Value}{w:World}{K:World->Prop}(h:EH P t a v w K):∃w',(storeVar t a v).run P w=.ok () w'/\K w':=by
 unfold EH at h
 obtain⟨hk,h0⟩:=ie h
 clear h
 have h:=h0
 clear h0
 have go:∀ {l:List Value} {w':World},v.cells=⟨l⟩->l.length=Ev.sizeOf P t->(storeCells a l).run P w=.ok () w'->(storeVar t a v).run P w=.ok () w':=by
  intro l w' hv hl hs
  unfold storeVar
  rw[Sem.run_bind,qz hk,Result.andThen_ok,if_neg (by rw[hv];simpa using hl)]
  rw[hv];exact hs
 split at h
 ·split at h
  ·rename_i cs
   obtain⟨hc,h⟩:=ie h
   obtain⟨w',h1,h2⟩:=Rt (P:=P) h
   exact⟨w',go (l:=cs.toList) rfl (beq_eq.1 hc) h1,h2⟩
  ·exact h.elim
 ·split at h
  ·rename_i cs
   obtain⟨h1,h2,h3,h4⟩:=h
   refine⟨_,go (l:=cs.toList) rfl h1 (SS (λj hj=>?_) h3),h4⟩
   rw[Nat.zero_add]
   exact h2 j (by omega)
  ·exact h.elim
 ·obtain⟨hc,h⟩:=ie h
  obtain⟨h1,h2,h3⟩:=Vt (P:=P) h
  refine⟨_,go (l:=[v]) (by rw[af0 h2]) (beq_eq.1 hc).symm ?_,h3⟩
  unfold storeCells
  rw[Sem.run_bind,Ap,h1];rfl
 ·exact h.elim
def Out(P:Program)(e:Operand->Value)(o:Oper)(w:World)(K:Value->World->Prop):Prop:=
 (∃v w',(execOp e o).run P w=.ok (.value v) w'/\K v w')\/(∃w',(execOp e o).run P w=.ok .skip w'/\K undef w')\/
 (∃f args,(execOp e o).run P w=.ok (.enter f args) w/\Calls P f args w λx w'=>∃v,x=.returned v/\K v w')
def II(P:Program)(e:Operand->Value)(o:Oper)(w:World)(a:Addr)(n:Nat)(K:Value->World->Prop):Prop:=
 ∃v,(∀w',kept a n w w'->(execOp e o).run P w'=.ok (.value v) w')/\K v w
theorem kept_refl(a:Addr)(n:Nat)(w:World):kept a n w w:=λ_ _=>rfl
theorem II.out{e:Operand->Value}{w:World}{a:Addr}{n:Nat}{K:Value->World->Prop}(h:II P e o w a n K):Out P e o w K:=
 let ⟨v,h1,h2⟩:=h;.inl ⟨v,w,h1 w (kept_refl a n w),h2⟩
theorem sY.reads{e:Operand->Value}{w:World}{K:Value->World->Prop}(h:sY P e o w K)(a:Addr):II P e o w a 0 K:=
 let ⟨v,h1,h2⟩:=h;⟨v,λw' _=>h1 w',h2⟩
theorem sY.out{e:Operand->Value}{o:Oper}{w:World}{K:Value->World->Prop}(h:sY P e o w K):Out P e o w K:=(h.reads default).out
structure Good(P:Program):Prop where
 names:∀(f:Nat) (fn:Func),P.funcs[f]? = some fn->fn.name≠ "runtime.NumGoroutine"
 mixed:P.follows .mixedOrders=true
theorem QX(hP:Good P){f:Nat}(hb:jB P f=true)(args:Array Value)(w:World):(callFunc f args).run P w=.ok (.enter f args) w:=by
 unfold jB at hb
 unfold callFunc
 rw[Sem.run_bind]
 simp only[program,Sem.run,Result.andThen_ok]
 split at hb
 ·rename_i fn hf
  rw[hf]
  simp only[]
  have hn:(fn.name == "runtime.NumGoroutine")=false:=by simpa using hP.names f fn hf
  rw[if_neg (by simp[hn])]
  cases hbd:fn.body with
  |none=>rw[hbd]at hb;cases hb
  |some c=>rfl
 ·cases hb
theorem Ru(t:TypeId)(v:Value)(w:World):(newVar t v).run P w=.ok ⟨w.heap.size,0,none⟩ (w.alloc (.cells v.cells t)):=by
 rfl
theorem Rv(t:TypeId)(cs:Array Value)(w:World):(newRow t cs).run P w=.ok ⟨w.heap.size,0,none⟩ (w.alloc (.cells cs t)):=by
 rfl
theorem zT{s:Sem Value}{w w':World}{v:Value}(h:s.run P w=.ok v w'):((do pure (.value (<- s))):Sem Next).run P w=.ok (.value v) w':=by
 rw[Sem.run_bind,h];rfl
theorem ag6{s:Sem Unit}{w w':World}(h:s.run P w=.ok () w'):((do s;pure .skip):Sem Next).run P w=.ok .skip w':=by
 rw[Sem.run_bind,h];rfl
theorem aeC(n:Nat)(zs:List Value):((Array.range (n*zs.length)).map (λi=>(Array.mk zs)[i%zs.length]!))=⟨j9 n zs⟩:=by
 apply Array.ext'
 simp only[Array.toList_map,Array.toList_range]
 unfold j9
 induction n with
 |zero=>simp
 |succ n ih=>
  rw[Nat.succ_mul,List.range_add,List.map_append,ih,List.replicate_succ',List.flatten_append]
  congr 1
  simp only[List.map_map,List.flatten_cons,List.flatten_nil,List.append_nil]
  apply List.ext_getElem
  ·simp
  ·intro i h1 h2
   simp only[List.length_map,List.length_range]at h1
   simp only[List.getElem_map,List.getElem_range,Function.comp]
   rw[Nat.mul_comm n,Nat.mul_add_mod,Nat.mod_eq_of_lt h1]
   simp[h1]
theorem R9{t:TypeId}(h:HP P t=true)(n:Nat)(w:World):known P t=true/\∃z0:Array Value,
  (∀f:Array Value->Sem Value,(if n*Ev.sizeOf P t=0 then pure #[] >>= f else zeroValue t >>= λz=>pure z.cells >>= f).run P w=(f z0).run P w)/\
  ((Array.range (n*Ev.sizeOf P t)).map (λi=>z0[i%z0.size]!))=⟨j9 n (zc P t)⟩:=by
 unfold HP at h
 simp only[Bool.and_eq_true,beq_eq]at h
 have CR:known P t=true:=by
  have:=h.1;unfold uh at this;unfold known;split at this<;>simp_all
 obtain⟨zv,wM,wN,_⟩:=Lf (P:=P) h.1 w
 refine⟨CR,if n*Ev.sizeOf P t=0 then #[] else ⟨zc P t⟩,λf=>?_,?_⟩
 ·split
  ·rfl
  ·rw[Sem.run_bind,wM]
   simp only[Result.andThen_ok]
   have:zv.cells=⟨zc P t⟩:=Array.ext' wN
   rw[this];rfl
 ·by_cases h0:n*Ev.sizeOf P t=0
  ·rw[if_pos h0,h0]
   apply Array.ext'
   unfold j9
   rcases Nat.mul_eq_zero.1 h0 with h1|h1
   ·subst h1;simp
   ·rw[h1]at h
    have:zc P t=[]:=List.length_eq_zero_iff.1 h.2
    rw[this];simp
  ·rw[if_neg h0]
   have e:=aeC n (zc P t)
   rw[h.2]at e
   have e2:(Array.mk (zc P t)).size=Ev.sizeOf P t:=h.2
   rw[e2];exact e
theorem KW{s:Sh}{v:Value}{K:Value->Prop}(h:rF s v K):K v:=by
 cases s<;>simp only[rF,cY,wK,Iw,IV,iU,nv]at h<;>first|exact h|(obtain⟨_,rfl,h⟩:=h;exact h)
theorem KY{vs:List Value}{K:Value->List Value->Prop}(h:bM vs K):∃v r,vs=v::r/\K v r:=by
 cases vs with
 |nil=>exact h.elim
 |cons v r=>exact⟨v,r,rfl,h⟩
theorem Kt:∀ {l:List Sh} {vs:List Value} {K:List Value->Prop},vK l vs K->K vs
 |[],vs,K,h=>by obtain⟨rfl,h⟩:=h;exact h
 |s::r,vs,K,h=>by
  simp only[vK]at h
  obtain⟨v,r',e,h2⟩:=KY h
  subst e
  exact Kt (K:=λvs=>K (v::vs)) (KW (K:=λv=>vK r r' λvs=>K (v::vs)) h2)
theorem KI:∀ {l:List Sh} {vs:List Value} {K:List Value->Prop},ny.rC l vs K->K vs
 |[],vs,K,h=>by obtain⟨rfl,h⟩:=h;exact h
 |s::r,vs,K,h=>by
  cases s
  case cells l=>
   simp only[ny.rC]at h
   obtain⟨v,r',e,cs,e2,h2⟩:=KY h
   subst e;subst e2
   exact KI (K:=λvs=>K (.agg ⟨cs⟩::vs)) (Kt (K:=λcs=>ny.rC r r' λvs=>K (.agg ⟨cs⟩::vs)) h2)
  all_goals
   simp only[ny.rC]at h
   obtain⟨v,r',e,h2⟩:=KY h
   subst e
   exact KI (K:=λvs=>K (v::vs)) (KW (K:=λv=>ny.rC r r' λvs=>K (v::vs)) h2)
theorem ag7{s:Sh}{v:Value}{K:Value->Prop}(h:ny s v K):K v:=by
 cases s
 case cells l=>obtain⟨cs,rfl,h⟩:=h;exact Kt h
 case oU l=>obtain⟨cs,rfl,h⟩:=h;exact KI h
 all_goals (simp only[ny]at h;exact KW h)
theorem SW{dst:Option Nat}{t:TypeId}{v:Value}{K:Value->Prop}(h:yl P dst t v K):K v:=by
 unfold yl at h
 split at h
 ·exact h
 ·split at h
  ·exact h
  ·exact ag7 h
section
variable{m:Mode}{ρ:Operand->Option Value}{e:Operand->Value}(hr:rT ρ e)
include hr
theorem Vu{w:World}{K:Value->World->Prop}(hc:cls P o.op=0)(h:wz P m ρ o w K):sY P e o w K:=by
 obtain⟨dst,op,ty,ps,af,gd⟩:=o
 simp only at hc
 unfold wz at h
 simp only at h
 split at h
 ·
  rename_i op t x y yt
  split at h
  ·rename_i a b ha hb
   have iZ:∀ys,b≠.agg ys:=λys e1=>by
    subst e1
    simp only[cls]at hc
    unfold Af at h
    simp only at h
    split at h
    ·split at h
     ·rename_i hu;rw[hu]at hc;cases hc
     ·exact h
    ·exact h
   obtain⟨v,h1,h2⟩:=Ch h iZ x y rfl
   rw[<- hr _ _ ha,<- hr _ _ hb]at h1
   exact⟨v,λw'=>zS (h1 w'),h2⟩
  ·exact h.elim
 ·
  rename_i t x
  split at h
  ·rename_i k n hx
   exact⟨_,λw'=>by simp only[execOp,hr _ _ hx];rfl,Ey h⟩
  ·exact h.elim
 ·
  rename_i s d x
  split at h
  ·rename_i k0 k k1 n hs hd hx
   refine⟨_,λw'=>?_,Ey h⟩
   simp only[execOp,hr _ _ hx,convert]
   rw[Sem.run_bind,Sem.run_bind,run_underlying hs,Result.andThen_ok,Sem.run_bind,run_underlying hd,Result.andThen_ok]
   rfl
  ·rename_i b hs hd hx
   refine⟨_,λw'=>?_,h⟩
   simp only[execOp,hr _ _ hx,convert]
   rw[Sem.run_bind,Sem.run_bind,run_underlying hs,Result.andThen_ok,Sem.run_bind,run_underlying hd,Result.andThen_ok]
   rfl
  ·rename_i hs hd hx;simp only[cls,hs,hd]at hc;cases hc
  ·rename_i hs hd hx;simp only[cls,hs,hd]at hc;cases hc
  ·rename_i hs hd hx;simp only[cls,hs,hd]at hc;cases hc
  ·exact h.elim
 ·
  rename_i t x i
  split at h
  ·rename_i b k i hx hi
   split at h
   ·rename_i hu
    obtain⟨h0,h1,h2⟩:=US h
    obtain⟨u,h3,h4⟩:=ajb h0 h1
    refine⟨_,λw'=>?_,h2⟩
    simp only[execOp,hr _ _ hx,hr _ _ hi,Instr.index,asIntOf]
    rw[Sem.run_bind,Sem.run_bind]
    simp only[Sem.run_pure,Result.andThen_ok]
    rw[Sem.run_bind,run_underlying hu]
    simp only[Result.andThen_ok]
    rw[if_pos h0,h3]
    simp[h4]
   ·exact h.elim
  ·rename_i cs k i hx hi
   split at h
   ·rename_i n el hu
    split at h
    ·rename_i k' bO
     obtain⟨hk,h⟩:=ie h
     simp only[Bool.and_eq_true,beq_eq]at hk
     obtain⟨h0,h1,z,h2,h3⟩:=US h
     refine⟨_,λw'=>?_,h3⟩
     have h4:cs[i.toNat]? = some (.int k' z):=by simpa using h2
     simp only[execOp,hr _ _ hx,hr _ _ hi,Instr.index,asIntOf]
     rw[Sem.run_bind,Sem.run_bind]
     simp only[Sem.run_pure,Result.andThen_ok]
     rw[Sem.run_bind,run_underlying hu]
     simp only[Result.andThen_ok]
     rw[if_pos ⟨h0,h1⟩,Sem.run_bind,qz hk.2,Result.andThen_ok,hk.1,Nat.mul_one]
     unfold part
     rw[Sem.run_bind,GY bO,Result.andThen_ok,if_neg (by simp[sN,bO]),h4]
     rfl
    ·exact h.elim
   ·exact h.elim
  ·exact h.elim
 ·
  rename_i t x i
  split at h
  ·rename_i a n c k i hx hi
   split at h
   ·rename_i el hu
    obtain⟨hk,h⟩:=ie h
    obtain⟨⟨hs,h0,h1⟩,h2⟩:=h
    obtain⟨a,rfl⟩:=Option.isSome_iff_exists.1 hs
    refine⟨_,λw'=>?_,h2⟩
    simp only[execOp,hr _ _ hx,hr _ _ hi,Instr.indexAt,asIntOf]
    rw[Sem.run_bind,Sem.run_bind]
    simp only[Sem.run_pure,Result.andThen_ok]
    rw[Sem.run_bind,run_underlying hu]
    simp only[Result.andThen_ok]
    simp[run_underlying hu,h0,h1,qz hk,Ev.base]
   ·exact h.elim
  ·rename_i a k i hx hi
   split at h
   ·rename_i n el hu
    obtain⟨hk,h⟩:=ie h
    obtain⟨⟨h0,h1⟩,h2⟩:=h
    refine⟨_,λw'=>?_,h2⟩
    simp only[execOp,hr _ _ hx,hr _ _ hi,Instr.indexAt,asIntOf]
    rw[Sem.run_bind,Sem.run_bind]
    simp only[Sem.run_pure,Result.andThen_ok]
    rw[Sem.run_bind,run_underlying hu]
    simp only[Result.andThen_ok]
    simp[run_underlying hu,h0,h1,qz hk,Instr.sureAddr]
   ·exact h.elim
  ·exact h.elim
 ·
  rename_i t x lo hi mx
  split at h
  ·rename_i a n c Nw AI mx' hx qo AJ yV
   split at h
   ·rename_i el hu
    obtain⟨hk,h⟩:=ie h
    obtain⟨s,h1,l,hh,mm,h2,h3,h4,h5⟩:=TW h true
    refine⟨_,λw'=>?_,h1⟩
    simp only[execOp,hr _ _ hx,vJ hr qo,vJ hr AJ,vJ hr yV,Instr.sliceAt]
    rw[Sem.run_bind,Sem.run_bind,run_underlying hu]
    simp only[Result.andThen_ok,Instr.slice]
    rw[Sem.run_bind,run_underlying hu]
    simp only[Result.andThen_ok]
    rw[Sem.run_bind,h2,Result.andThen_ok]
    simp only[]
    rw[Sem.run_bind,qz hk,Result.andThen_ok,h3,h4,h5]
    rfl
   ·exact h.elim
  ·rename_i a Nw AI mx' hx qo AJ yV
   split at h
   ·rename_i n el hu
    obtain⟨hk,h⟩:=ie h
    obtain⟨s,h1,l,hh,mm,h2,h3,h4,h5⟩:=TW h false
    refine⟨_,λw'=>?_,h1⟩
    simp only[execOp,hr _ _ hx,vJ hr qo,vJ hr AJ,vJ hr yV,Instr.sliceAt]
    rw[Sem.run_bind,Sem.run_bind,run_underlying hu]
    simp only[Result.andThen_ok]
    rw[Sem.run_bind]
    simp only[Instr.sureAddr,Sem.run_pure,Result.andThen_ok]
    rw[Sem.run_bind,h2,Result.andThen_ok]
    simp only[]
    rw[Sem.run_bind,qz hk,Result.andThen_ok,h3,h4,h5]
    simp only[Sem.run_pure,Result.andThen_ok,Option.map_some]
    congr 3
    split<;>rfl
   ·exact h.elim
  ·rename_i b Nw AI hx qo AJ yV
   split at h
   ·rename_i hu
    have oZ:∃l hh,(∀w':World,(Instr.sliceBounds false b.size b.size Nw AI none).run P w'=.ok (l,hh,b.size) w')/\K (.string (b.extract l hh)) w:=by
     unfold Vs at h
     split at h
     ·refine⟨0,b.size,λw'=>by simp[Instr.sliceBounds],?_⟩
      have:b.extract 0 b.size=b:=by simp
      rw[this];exact h
     ·rename_i k hh
      obtain⟨⟨h0,h1⟩,h⟩:=h
      exact⟨0,hh.toNat,λw'=>by simp[Instr.sliceBounds,qy h0 h1],h⟩
     ·rename_i k l
      obtain⟨⟨h0,h1⟩,h⟩:=h
      exact⟨l.toNat,b.size,λw'=>by simp[Instr.sliceBounds,qy h0 h1],h⟩
     ·rename_i k l k' hh
      obtain⟨⟨h0,h1,h2⟩,h⟩:=h
      have h3:l<=((hh.toNat:Nat):Int):=by omega
      exact⟨l.toNat,hh.toNat,λw'=>by simp[Instr.sliceBounds,qy (show 0<=hh by omega) h2,qy h0 h3],h⟩
     ·exact h.elim
    obtain⟨l,hh,h1,h2⟩:=oZ
    refine⟨_,λw'=>?_,h2⟩
    simp only[execOp,hr _ _ hx,vJ hr qo,vJ hr AJ,vJ hr yV,Instr.sliceAt]
    rw[Sem.run_bind,Sem.run_bind,run_underlying hu]
    simp only[Result.andThen_ok,Instr.slice]
    rw[Sem.run_bind,run_underlying hu]
    simp only[Result.andThen_ok,Option.isSome_none]
    rw[if_neg (by simp),Sem.run_bind,h1]
    rfl
   ·exact h.elim
  ·exact h.elim
 ·
  rename_i x
  split at h
  ·rename_i p hx
   cases p with
   |none=>exact h.elim
   |some a=>exact⟨_,λw'=>by simp only[execOp,hr _ _ hx];rfl,h⟩
  ·exact h.elim
 ·simp only[cls]at hc;cases hc
 ·simp only[cls]at hc;cases hc
 ·simp only[cls]at hc;cases hc
 ·simp only[cls]at hc;cases hc
 ·simp only[cls]at hc;cases hc
 ·simp only[cls]at hc;cases hc
 ·
  rename_i c
  split at h
  ·exact h.elim
  ·rename_i vs hv
   split at h
   all_goals first
    |exact sY.lF hr h
    |(exfalso;rename_i CJ;simp only[cls]at hc;split at hc<;>simp_all;done)
 ·exact sY.lF hr h
theorem Mt{t:TypeId}{x:Operand}{a:Addr}{w:World}{K:Value->World->Prop}(ho:o.op=.load t x)(hx:ρ x=some (.pointer (some a)))(h:uJ P t a w λv=>K v w):
  II P e o w a (Ev.sizeOf P t) K:=by
 obtain⟨dst,op,ty,ps,af,gd⟩:=o
 simp only at ho
 subst ho
 obtain⟨v,h1,h2⟩:=LB h
 refine⟨v,λw' hw=>?_,h1⟩
 simp only[execOp,hr _ _ hx,Instr.loadAt]
 rw[Sem.run_bind,Sem.run_bind]
 simp only[Instr.sureAddr,Sem.run_pure,Result.andThen_ok]
 rw[h2 w' hw]
 rfl
theorem ag8(hP:Good P){w:World}{K:Value->World->Prop}(h:wz P m ρ o w K):Out P e o w K:=by
 by_cases hc:cls P o.op=0
 ·exact(Vu hr hc h).out
 obtain⟨dst,op,ty,ps,af,gd⟩:=o
 simp only at hc
 unfold wz at h
 simp only at h
 split at h
 ·
  rename_i op t x y yt
  split at h
  ·rename_i a b ha hb
   have h':=h
   unfold Af at h
   split at h
   ·obtain⟨v,h1,h2⟩:=Ch h' (by simp) x y rfl
    rw[<- hr _ _ ha,<- hr _ _ hb]at h1
    exact .inl ⟨v,w,zS (h1 w),h2⟩
   ·obtain⟨v,h1,h2⟩:=Ch h' (by simp) x y rfl
    rw[<- hr _ _ ha,<- hr _ _ hb]at h1
    exact .inl ⟨v,w,zS (h1 w),h2⟩
   ·obtain⟨v,h1,h2⟩:=Ch h' (by simp) x y rfl
    rw[<- hr _ _ ha,<- hr _ _ hb]at h1
    exact .inl ⟨v,w,zS (h1 w),h2⟩
   ·rename_i ys
    split at h
    ·rename_i xs
     split at h
     ·obtain⟨v,w',h1,b,h2,h3⟩:=h
      subst h2
      have hg:∀(x y:Operand) (w:World),(eqGuard op t x y (.agg xs) (.agg ys)).run P w=(eqGuard op t (.tmp 0) (.tmp 0) (.agg xs) (.agg ys)).run P w:=λx y w=>by
       unfold eqGuard;cases op<;>rfl
      refine .inl ⟨_,w',zS ?_,h3⟩
      rw[hr _ _ ha,hr _ _ hb,Sem.run_bind,hg,<- Sem.run_bind]
      exact h1
     ·exact h.elim
    ·exact h.elim
   ·obtain⟨v,h1,h2⟩:=Ch h' (by simp) x y rfl
    rw[<- hr _ _ ha,<- hr _ _ hb]at h1
    exact .inl ⟨v,w,zS (h1 w),h2⟩
   ·rename_i anZ an0 an1 akL an2
    obtain⟨v,h1,h2⟩:=Ch h' (λys e1=>akL ys e1) x y rfl
    rw[<- hr _ _ ha,<- hr _ _ hb]at h1
    exact .inl ⟨v,w,zS (h1 w),h2⟩
  ·exact h.elim
 ·simp only[cls]at hc;exact absurd trivial hc
 ·
  rename_i s d x
  split at h
  ·rename_i hs hd hx;simp only[cls,hs,hd]at hc;exact absurd trivial hc
  ·rename_i hs hd hx;simp only[cls,hs,hd]at hc;exact absurd trivial hc
  ·rename_i el b hs hd hx
   split at h
   ·rename_i hu
    obtain⟨v,w',h1,s',h2,h3⟩:=h
    subst h2
    refine .inl ⟨_,w',?_,h3⟩
    simp only[execOp,hr _ _ hx]
    refine zT ?_
    unfold convert
    rw[Sem.run_bind,run_underlying hs,Result.andThen_ok,Sem.run_bind,run_underlying hd,Result.andThen_ok]
    simp only[]
    rw[Sem.run_bind,run_underlying hu,Result.andThen_ok]
    exact h1
   ·exact h.elim
  ·rename_i e0 el a n c hs hd hx
   split at h
   ·rename_i hu
    obtain⟨fZ,h⟩:=ie h
    unfold Lx at h
    split at h
    ·rename_i a
     obtain⟨w',h1,h2⟩:=h
     refine .inl ⟨_,w',?_,h2⟩
     simp only[execOp,hr _ _ hx]
     refine zT ?_
     unfold convert
     rw[Sem.run_bind,run_underlying hs,Result.andThen_ok,Sem.run_bind,run_underlying hd,Result.andThen_ok]
     simp only[]
     rw[Sem.run_bind,run_underlying hu,Result.andThen_ok]
     have:(s == d)=true:=by simpa using beq_eq.1 fZ
     rw[this]
     simp only[]
     rw[Sem.run_bind,h1]
     rfl
    ·exact h.elim
   ·exact h.elim
  ·rename_i el a n c hs hd hx
   split at h
   ·rename_i hu
    obtain⟨v,w',h1,s',h2,h3⟩:=h
    subst h2
    refine .inl ⟨_,w',?_,h3⟩
    simp only[execOp,hr _ _ hx]
    refine zT ?_
    unfold convert
    rw[Sem.run_bind,run_underlying hs,Result.andThen_ok,Sem.run_bind,run_underlying hd,Result.andThen_ok]
    simp only[]
    rw[Sem.run_bind,run_underlying hu,Result.andThen_ok]
    exact h1
   ·exact h.elim
  ·exact h.elim
 ·simp only[cls]at hc;exact absurd trivial hc
 ·simp only[cls]at hc;exact absurd trivial hc
 ·simp only[cls]at hc;exact absurd trivial hc
 ·simp only[cls]at hc;exact absurd trivial hc
 ·
  split at h
  ·rename_i t x _ a hx
   exact(Mt hr (o:=⟨dst,_,ty,ps,af,gd⟩) rfl hx h).out
  ·exact h.elim
 ·
  rename_i t x y
  split at h
  ·rename_i a v hx hy
   obtain⟨w',h1,h2⟩:=aik h
   refine .inr (.inl ⟨w',?_,h2⟩)
   simp only[execOp,hr _ _ hx,hr _ _ hy]
   refine ag6 ?_
   simp only[Instr.storeAt,Instr.sureAddr]
   exact h1
  ·exact h.elim
 ·
  rename_i t
  obtain⟨hz,h⟩:=ie h
  refine .inl ⟨_,_,?_,h⟩
  simp only[execOp]
  refine zT ?_
  unfold Instr.alloc
  obtain⟨zv,wM,wN,_⟩:=Lf (P:=P) hz w
  rw[Sem.run_bind,wM]
  simp only[Result.andThen_ok]
  have:zv.cells=⟨zc P t⟩:=Array.ext' wN
  rw[Sem.run_bind,Ru,this];rfl
 ·
  rename_i t x
  split at h
  ·rename_i v hx
   refine .inl ⟨_,_,?_,h⟩
   simp only[execOp,hr _ _ hx]
   refine zT ?_
   simp only[Instr.box]
   rw[Sem.run_bind,Ru];rfl
  ·exact h.elim
 ·
  rename_i t n pts
  split at h
  ·rename_i el vs hu hv
   split at h
   ·rename_i cs fY
    obtain⟨hk,h⟩:=ie h
    simp only[Bool.and_eq_true,Nat.ble_eq]at hk
    refine .inl ⟨_,_,?_,h⟩
    simp only[execOp,RY hr hv]
    refine zT ?_
    unfold Instr.buildSlice
    obtain⟨CR,z0,hz,fV⟩:=R9 hk.2 n w
    rw[Sem.run_bind,run_underlying hu,Result.andThen_ok]
    simp only[]
    rw[Sem.run_bind,qz CR,Result.andThen_ok,if_neg (by omega),hz]
    simp only[fV]
    rw[Ht _ _ _ fY]
    simp only[]
    rw[Sem.run_bind,Rv];rfl
   ·exact h.elim
  ·exact h.elim
 ·
  rename_i t l c
  split at h
  ·rename_i el k l' k' c' hu hl wP
   obtain⟨hz,h⟩:=ie h
   obtain⟨⟨h0,h1,h2,h3⟩,h4⟩:=h
   refine .inl ⟨_,_,?_,h4⟩
   simp only[execOp,hr _ _ hl,hr _ _ wP]
   refine zT ?_
   unfold Instr.makeSlice
   obtain⟨CR,z0,hz,fV⟩:=R9 hz c'.toNat w
   cases hi:P.info? el with
   |none=>simp[known,hi]at CR
   |some i=>
    have hb:Ev.bytesOf P el=i.bytes:=by simp[Ev.bytesOf,hi]
    have wl:IntKind.i64.wrap l'=l':=Ks h0 (by simp only[IntKind.max,IntKind.signed,IntKind.bits];simp;omega)
    have wc:IntKind.i64.wrap c'=c':=Ks (by omega) (by simp only[IntKind.max,IntKind.signed,IntKind.bits];simp;omega)
    rw[Sem.run_bind,run_underlying hu,Result.andThen_ok]
    simp only[]
    rw[Sem.run_bind]
    simp only[asInt,asIntOf,pure_bind,Sem.run_pure,Result.andThen_ok]
    rw[Sem.run_bind,Le hi,Result.andThen_ok]
    simp only[wl,wc]
    rw[hb]at h3
    have Ez:((decide (c'<0)||decide ((i.bytes:Int)*c' > 2 ^ 48))||decide (l'<0)||decide (l' > c'))=false:=by
     simp only[Bool.or_eq_false_iff,decide_eq_false_iff_not]
     omega
    rw[if_neg (by rw[Ez];simp)]
    rw[Sem.run_bind]
    have nC:(askRoom (c'.toNat*i.bytes)).run P w=.ok () w:=by unfold askRoom;split<;>rfl
    rw[nC,Result.andThen_ok,Sem.run_bind,qz CR,Result.andThen_ok]
    refine Eq.trans (hz λzero=>newRow el ((Array.range (c'.toNat*Ev.sizeOf P el)).map (λx=>zero[x%zero.size]!)) >>= λa=>pure (.slice (some a) l'.toNat c'.toNat)) ?_
    simp only[fV]
    rw[Sem.run_bind,Rv];rfl
  ·exact h.elim
 ·
  rename_i c
  split at h
  ·exact h.elim
  ·rename_i vs hv
   have jH:=uf hr hv
   have enter:∀ {f:Nat} {args:List Value},jB P f=true->(ek P f args w λv w'=>yl P dst ty v λv'=>K v' w')->(execOp e ⟨dst,.call c,ty,ps,af,gd⟩).run P w=(callFunc f ⟨args⟩).run P w->
     Out P e ⟨dst,.call c,ty,ps,af,gd⟩ w K:=by
    intro f args hb hk EI
    exact .inr (.inr ⟨f,⟨args⟩,by rw[EI,QX hP hb],hk.mono λx w' ⟨v,h1,h2⟩=>⟨v,h1,SW h2⟩⟩)
   split at h
   ·rename_i CJ
    obtain⟨v,w',h1,s',h2,h3⟩:=h
    subst h2
    refine .inl ⟨_,w',?_,h3⟩
    simp only[execOp,resolve,jH,CJ,invoke,Sem.run_bind,Sem.run_pure,Result.andThen_ok,builtin]
    simp only[Array.toArray_toList]at h1
    rw[h1];rfl
   ·rename_i CJ
    obtain⟨v,w',h1,s',h2,h3⟩:=h
    subst h2
    refine .inl ⟨_,w',?_,h3⟩
    simp only[execOp,resolve,jH,CJ,invoke,Sem.run_bind,Sem.run_pure,Result.andThen_ok,builtin]
    simp only[Array.toArray_toList]at h1
    rw[h1];rfl
   ·rename_i g CJ
    split at h
    ·rename_i gv hg
     unfold qH at h
     split at h
     ·rename_i f first cap
      obtain⟨hb,h⟩:=ie h
      refine enter hb h ?_
      simp only[execOp,resolve,jH,CJ,hr _ _ hg,Deferred.ofValue,invoke,Sem.run_bind,Sem.run_pure,Result.andThen_ok]
      congr 2
      apply Array.ext'
      simp
     ·exact h.elim
    ·exact h.elim
   ·exact(sY.lF hr h).out
 ·exact(sY.lF hr h).out
end
variable{P:Program}{n:Nat}{ws:List Nat}{f0:Fr}{ops:Array Oper}
theorem Kn.snd[fX]{s:St}{a:Act}(h:Kn n ws f0 s a){k:Key}(hs:Sat a k):rT (s.val k) a.eval:=λ_ _ hv=>h.val hs hv
theorem Ku{a:Act}(h:o.guard=none):Region.wanted o (yielded ops a.tmps)=true:=by simp[Region.wanted,h]
theorem Kv{a:Act}{g:Nat}{b:Bool}(h:o.guard=some (j,b))(hg:(ops.toList[j]?).bind (·.dst)=some g):
  Region.wanted o (yielded ops a.tmps)=true↔slot a g=.bool b:=by
 simp only[Region.wanted,h,yielded]
 have rU:(ops[j]?).bind (·.dst)=some g:=by simpa using hg
 rw[rU]
 simp only[Option.bind_some,slot,Array.getD_eq_getD_getElem?]
 cases ht:a.tmps[g]? with
 |none=>simp[undef]
 |some v=>cases v<;>simp
def YR(P:Program)(ops:Array Oper)(o:Oper)(v:Value)(a:Act)(w:World)(rd:Rd):Prop:=
 (Region.wanted o (yielded ops a.tmps)=true/\∀w',(∀c∈rd,kept c.2.1 c.2.2 w w')->(execOp a.eval o).run P w'=.ok (.value v) w')\/
 (Region.wanted o (yielded ops a.tmps)=false/\v=undef)
theorem SX{a:Act}{c x y:Operand}{t:Bool}(hc:a.eval c=.bool t)(dst:Option Nat)(ty:TypeId)(ps:String)(af:Array Edge)(gd:Option (Nat × Bool))(w:World):
  (execOp a.eval ⟨dst,.pick c x y,ty,ps,af,gd⟩).run P w=.ok (.value (if t then a.eval x else a.eval y)) w:=by
 simp only[execOp,hc];rfl
def kW(c:Operand)(b:Bool):Key:=match c with | .tmp t=>[(t,b)]|_=>[]
theorem G9{a:Act}{c:Operand}{t:Bool}(hc:a.eval c=.bool t):Sat a (kW c t):=by
 cases c<;>simp only[kW]<;>first|exact Sat.nil a|(refine Sat.cons.2 ⟨?_,Sat.nil a⟩;exact hc)
theorem Rw{a:Act}{k l:Key}(h1:Sat a k)(h2:Sat a l):Sat a (k++l):=λx hx=>by
 rcases List.mem_append.1 hx with h|h
 ·exact h1 x h
 ·exact h2 x h
theorem QY[fX]{m:Mode}{s:St}{a:Act}{w:World}{K:St->World->Prop}(hk:Kn n ws f0 s a)(hd:∀d,o.dst=some d->d<n/\d∈ws)(hc:cls P o.op<=1)(h:oE P m o s w K):
  ∃v s',(∀w',(∀t x A,o.op=.load t x->s.val [] x=some (.pointer (some A))->kept A (Ev.sizeOf P t) w w')->(execOp a.eval o).run P w'=.ok (.value v) w')/\Kn n ws f0 s' (a.put o.dst v)/\K s' w:=by
 have hr:rT (s.val []) a.eval:=hk.snd (Sat.nil a)
 obtain⟨dst,op,ty,ps,af,gd⟩:=o
 unfold oE at h
 simp only at h hc hd
 split at h
 ·rename_i c x y
  unfold UL at h
  split at h
  ·rename_i t E7
   have MN:=hr _ _ E7
   have ht:∀ {u:Value},s.val (kW c true) x=some u->t=true->a.eval x=u:=λhu e=>hk.val (e▸G9 MN) hu
   have hf:∀ {u:Value},s.val (kW c false) y=some u->t=false->a.eval y=u:=λhu e=>hk.val (e▸G9 MN) hu
   have fin:∀ {u:Value},(if t then a.eval x else a.eval y)=u->K (s.put dst (some u)) w->
     ∃v s',(∀w',(∀t' x' A,Op.pick c x y=.load t' x'->s.val [] x'=some (.pointer (some A))->kept A (Ev.sizeOf P t') w w')->(execOp a.eval ⟨dst,.pick c x y,ty,ps,af,gd⟩).run P w'=.ok (.value v) w')/\Kn n ws f0 s' (a.put dst v)/\K s' w:=by
    intro u hu hK
    exact⟨u,_,λw' _=>by rw[SX MN,hu],hk.put hd (λx hx=>by cases hx;rfl),hK⟩
   split at h
   ·rename_i bx by' h1 h2
    refine fin ?_ h
    cases t with
    |true=>simp only[if_true,cond_true];exact ht h1 rfl
    |false=>simp only[Bool.false_eq_true,if_false,cond_false];exact hf h2 rfl
   ·rename_i v h1 h2
    cases t with
    |true=>exact fin (by simp only[if_true];exact ht h1 rfl) h
    |false=>exact h.elim
   ·rename_i v h1 h2
    cases t with
    |true=>exact h.elim
    |false=>exact fin (by simp only[Bool.false_eq_true,if_false];exact hf h2 rfl) h
   ·rename_i u v _ h1 h2
    cases t with
    |true=>exact fin (by simp only[if_true];exact ht h1 rfl) h
    |false=>exact fin (by simp only[Bool.false_eq_true,if_false];exact hf h2 rfl) h
   ·exact h.elim
  ·exact h.elim
 ·rename_i x
  exact⟨a.eval x,_,λw' _=>rfl,hk.put hd (λu hu=>hr _ _ hu),h⟩
 ·rename_i x
  exact⟨a.eval x,_,λw' _=>rfl,hk.put hd (λu hu=>hr _ _ hu),h⟩
 ·rename_i wO oW tw
  by_cases h0:cls P op=0
  ·obtain⟨v,h1,h2⟩:=Vu hr (o:=⟨dst,op,ty,ps,af,gd⟩) h0 h
   exact⟨v,_,λw' _=>h1 w',hk.put hd (λx hx=>by cases hx;rfl),h2⟩
  ·have h1:cls P op=1:=by omega
   have hl:∃t x,op=.load t x:=by
    unfold cls at h1
    split at h1<;>first|exact⟨_,_,rfl⟩|cases h1|(split at h1<;>cases h1)
   obtain⟨t,x,rfl⟩:=hl
   unfold wz at h
   simp only at h
   split at h
   ·rename_i A hx
    obtain⟨v,h2,h3⟩:=Mt hr (o:=⟨dst,.load t x,ty,ps,af,gd⟩) rfl hx h
    exact⟨v,_,λw' hw=>h2 w' (hw t x A rfl hx),hk.put hd (λx hx=>by cases hx;rfl),h3⟩
   ·exact h.elim
theorem He[fX](hP:Good P){m:Mode}{s:St}{a:Act}{w:World}{K:St->World->Prop}{Q:Exit->Act->World->Prop}(hk:Kn n ws f0 s a)(hd:∀d,o.dst=some d->d<n/\d∈ws)
  (h:oE P m o s w K):o.wp P a w (λa' w'=>∃s',Kn n ws f0 s' a'/\K s' w') Q:=by
 by_cases hc:cls P o.op<=1
 ·obtain⟨v,s',h1,h2,h3⟩:=QY hk hd hc h
  unfold Oper.wp
  rw[h1 w (λt x A _ _=>kept_refl _ _ _)]
  exact⟨s',h2,h3⟩
 ·have hr:rT (s.val []) a.eval:=hk.snd (Sat.nil a)
  have h':wz P m (s.val []) o w λv w'=>K (s.put o.dst (some v)) w':=by
   unfold oE at h
   split at h
   ·rename_i ho;rw[ho]at hc;simp[cls]at hc
   ·rename_i ho;rw[ho]at hc;simp[cls]at hc
   ·rename_i ho;rw[ho]at hc;simp[cls]at hc
   ·exact h
  unfold Oper.wp
  rcases ag8 hr hP h' with ⟨v,w',h1,h2⟩|⟨w',h1,h2⟩|⟨f,args,h1,h2⟩
  ·rw[h1];exact⟨_,hk.put hd (λx hx=>by cases hx;rfl),h2⟩
  ·rw[h1];exact⟨_,hk.put hd (λx hx=>by cases hx;rfl),h2⟩
  ·rw[h1]
   refine Calls.mono h2 λe w' ⟨v,h3,h4⟩=>?_
   subst h3
   exact⟨_,hk.put hd (λx hx=>by cases hx;rfl),h4⟩
theorem Qs[fX]{s:St}{a:Act}(hk:Kn n ws f0 s a){g:Nat}{want:Bool}(hg:o.guard=some (j,want))(hd:(ops.toList[j]?).bind (·.dst)=some g):
  Region.wanted o (yielded ops a.tmps)=true↔Sat a ((g,want)::(match cS g s.cd with|some (k,_)=>k|none=>[])):=by
 rw[Kv hg hd,Sat.cons]
 refine⟨λh=>⟨h,?_⟩,λh=>h.1⟩
 cases hl:cS g s.cd with
 |none=>exact Sat.nil a
 |some kv=>
  obtain⟨k,v⟩:=kv
  simp only
  have:=hk.cd g k v hl
  by_cases hs:Sat a k
  ·exact hs
  ·have h2:=this.2 hs
   rw[h]at h2;cases h2
theorem aeD[fX]{s:St}{a:Act}(hk:Kn n ws f0 s a){k:Key}(hs:Sat a k){c x y:Operand}{v:Value}(h:Ly (s.val k c) (s.val (kW c true++k) x) (s.val (kW c false++k) y)=some v)
  (dst:Option Nat) (ty:TypeId) (ps:String) (af:Array Edge) (gd:Option (Nat × Bool)) (w:World):(execOp a.eval ⟨dst,.pick c x y,ty,ps,af,gd⟩).run P w=.ok (.value v) w:=by
 unfold Ly at h
 split at h
 ·rename_i t bx by' h1 h2 h3
  have E7:a.eval c=.bool t:=hk.val hs h1
  cases h
  rw[SX E7]
  cases t with
  |true=>rw[if_pos rfl,hk.val (Rw (G9 E7) hs) h2];rfl
  |false=>rw[if_neg (by simp),hk.val (Rw (G9 E7) hs) h3];rfl
 ·cases h
theorem SY[fX]{s:St}{a:Act}(hk:Kn n ws f0 s a){k:Key}(hs:Sat a k){v:Value}(h:Eu P s k o=some v)(w:World):(execOp a.eval o).run P w=.ok (.value v) w:=by
 obtain⟨dst,op,ty,ps,af,gd⟩:=o
 unfold Eu at h
 simp only at h
 split at h
 ·exact aeD hk hs h dst ty ps af gd w
 ·exact UP (hk.snd hs) ⟨dst,_,ty,ps,af,gd⟩ h w
theorem SZ[fX]{s:St}{a:Act}(hk:Kn n ws f0 s a)(wA:∀o∈ops.toList,∀d,o.dst=some d->d<n/\d∈ws){g:Nat}{want:Bool}(gF:(ops.toList[j]?).bind (·.dst)=some g):
  ∀y∈((g,want)::(match cS g s.cd with|some (k,_)=>k|none=>[]):Key),y.1∈ws:=by
 intro y hy
 cases hy with
 |head=>
  cases hj:ops.toList[j]? with
  |none=>rw[hj]at gF;cases gF
  |some oj=>rw[hj]at gF;exact(wA oj (List.mem_of_getElem? hj) g gF).2
 |tail _ hy=>
  cases hl:cS g s.cd with
  |none=>rw[hl]at hy;cases hy
  |some kv=>
   obtain⟨k,v⟩:=kv
   rw[hl]at hy
   exact(hk.ins _ (xP hl)).2 y hy
theorem Rx[fX](wA:∀o∈ops.toList,∀d,o.dst=some d->d<n/\d∈ws){m:Mode}{i:Nat}{s:St}{a:Act}{w:World}{K:St->World->Prop}(hk:Kn n ws f0 s a)(hd:∀d,o.dst=some d->d<n/\d∈ws)(hc:cls P o.op<=1)(h:rG P m ops o s w K):
  ∃v s',YR P ops o v a w (sI P ops.toList s i o)/\Kn n ws f0 s' (a.put o.dst v)/\K s' w:=by
 have quiet:∀ {s':St},Kn n ws f0 s' a->oE P m o s' w K->Region.wanted o (yielded ops a.tmps)=true->
   (∀t x A,o.op=.load t x->s'.val [] x=some (.pointer (some A))->(i,A,Ev.sizeOf P t)∈sI P ops.toList s i o)->
   ∃v s',YR P ops o v a w (sI P ops.toList s i o)/\Kn n ws f0 s' (a.put o.dst v)/\K s' w:=by
  intro s' fM EI hw EJ
  obtain⟨v,s2,h1,h2,h3⟩:=QY fM hd hc EI
  exact⟨v,s2,.inl ⟨hw,λw' Cz=>h1 w' λt x A ho hv=>Cz _ (EJ t x A ho hv)⟩,h2,h3⟩
 unfold rG at h
 split at h
 ·rename_i hg
  refine quiet hk h (Ku hg) λt x A ho hv=>?_
  unfold sI
  rw[ho,hg]
  simp only[hv]
  exact List.mem_singleton.2 rfl
 ·rename_i j want hg
  split at h
  ·exact h.elim
  ·rename_i g gF
   split at h
   ·rename_i b hl
    have hb:=hk.lt g b hl
    have hw:=Kv (ops:=ops) (a:=a) hg gF
    cases hs:yh b want with
    |true=>
     rw[hs]at h
     have e:=BQ.1 hs
     subst e
     refine quiet hk h (hw.2 hb) λt x A ho hv=>?_
     unfold sI
     rw[ho,hg]
     simp only[gF,hl,hv]
     exact List.mem_singleton.2 rfl
    |false=>
     rw[hs]at h
     have gP:¬Region.wanted o (yielded ops a.tmps)=true:=λhh=>by
      have:=hw.1 hh
      rw[hb]at this
      cases this
      simp[BQ.2]at hs
     exact⟨undef,_,.inr ⟨by simpa using gP,rfl⟩,hk.put hd (λx hx=>by cases hx;rfl),h⟩
   ·rename_i hl
    have mq:=Qs (ops:=ops) hk hg gF
    have o8:=SZ (want:=want) hk wA gF
    cases he:early o.op with
    |true=>
     rw[he]at h
     simp only[cond_true]at h
     split at h
     ·rename_i v hv
      by_cases hs:Region.wanted o (yielded ops a.tmps)=true
      ·exact⟨v,_,.inl ⟨hs,λw' _=>SY hk (mq.1 hs) hv w'⟩,hk.kU hd o8 (λ_=>rfl) (λhn=>absurd (mq.1 hs) hn),h⟩
      ·exact⟨undef,_,.inr ⟨by simpa using hs,rfl⟩,hk.kU hd o8 (λhh=>absurd (mq.2 hh) hs) (λ_=>rfl),h⟩
     ·obtain⟨s',on,fM,h1,h2⟩:=Ds _ s _ o8 hk h
      cases on with
      |true=>
       exact quiet fM h1 (mq.2 (h2.1 rfl)) λt x A ho hv=>by rw[ho]at he;cases he
      |false=>
       have hs:¬Region.wanted o (yielded ops a.tmps)=true:=λhh=>by have:=h2.2 (mq.1 hh);cases this
       exact⟨undef,_,.inr ⟨by simpa using hs,rfl⟩,fM.put hd (λx hx=>by cases hx;rfl),h1⟩
    |false=>
     rw[he]at h
     simp only[cond_false]at h
     split at h
     ·rename_i t x ho
      split at h
      ·rename_i A hx
       by_cases hs:Region.wanted o (yielded ops a.tmps)=true
       ·obtain⟨v,h1,h2⟩:=Mt (hk.snd (mq.1 hs)) (o:=o) (K:=λv w=>K (s.kU o.dst _ v) w) ho hx h
        refine⟨v,_,.inl ⟨hs,λw' Cz=>h1 w' (Cz (i,A,Ev.sizeOf P t) ?_)⟩,hk.kU hd o8 (λ_=>rfl) (λhn=>absurd (mq.1 hs) hn),h2⟩
        unfold sI
        rw[ho,hg]
        simp only[gF,hl,hx]
        exact List.mem_singleton.2 rfl
       ·obtain⟨v,h1,h2⟩:=LB h
        exact⟨undef,_,.inr ⟨by simpa using hs,rfl⟩,hk.kU hd o8 (λhh=>absurd (mq.2 hh) hs) (λ_=>rfl),h1⟩
      ·exact h.elim
     ·rename_i IY
      obtain⟨s',on,fM,h1,h2⟩:=Ds _ s _ o8 hk h
      cases on with
      |true=>
       exact quiet fM h1 (mq.2 (h2.1 rfl)) λt x A ho hv=>absurd ho (IY t x)
      |false=>
       have hs:¬Region.wanted o (yielded ops a.tmps)=true:=λhh=>by have:=h2.2 (mq.1 hh);cases this
       exact⟨undef,_,.inr ⟨by simpa using hs,rfl⟩,fM.put hd (λx hx=>by cases hx;rfl),h1⟩
theorem TX[fX](hP:Good P)(wA:∀o∈ops.toList,∀d,o.dst=some d->d<n/\d∈ws){m:Mode}{s:St}{a:Act}{w:World}{K:St->World->Prop}{Q:Exit->Act->World->Prop}(hk:Kn n ws f0 s a)(hd:∀d,o.dst=some d->d<n/\d∈ws)
  (h:rG P m ops o s w K):if Region.wanted o (yielded ops a.tmps) then o.wp P a w (λa' w'=>∃s',Kn n ws f0 s' a'/\K s' w') Q else ∃s',Kn n ws f0 s' (a.put o.dst undef)/\K s' w:=by
 by_cases hc:cls P o.op<=1
 ·obtain⟨v,s',h1,h2,h3⟩:=Rx (i:=0) wA hk hd hc h
  rcases h1 with ⟨hw,h4⟩|⟨hw,rfl⟩
  ·rw[if_pos hw]
   unfold Oper.wp
   rw[h4 w (λc _=>kept_refl _ _ _)]
   exact⟨s',h2,h3⟩
  ·rw[if_neg (by simp[hw])]
   exact⟨s',h2,h3⟩
 ·unfold rG at h
  split at h
  ·rename_i hg
   rw[if_pos (Ku hg)]
   exact He hP hk hd h
  ·rename_i j want hg
   split at h
   ·exact h.elim
   ·rename_i g gF
    split at h
    ·rename_i b hl
     have hb:=hk.lt g b hl
     have hw:=Kv (ops:=ops) (a:=a) hg gF
     cases hs:yh b want with
     |true=>
      rw[hs]at h
      have e:=BQ.1 hs
      subst e
      rw[if_pos (hw.2 hb)]
      exact He hP hk hd h
     |false=>
      rw[hs]at h
      rw[if_neg (λhh=>by
       have:=hw.1 hh
       rw[hb]at this
       cases this
       simp[BQ.2]at hs)]
      exact⟨_,hk.put hd (λx hx=>by cases hx;rfl),h⟩
    ·rename_i hl
     have mq:=Qs (ops:=ops) hk hg gF
     have o8:=SZ (want:=want) hk wA gF
     cases he:early o.op with
     |true=>
      rw[he]at h
      simp only[cond_true]at h
      split at h
      ·rename_i v hv
       by_cases hs:Region.wanted o (yielded ops a.tmps)=true
       ·rw[if_pos hs]
        unfold Oper.wp
        rw[SY hk (mq.1 hs) hv w]
        exact⟨_,hk.kU hd o8 (λ_=>rfl) (λhn=>absurd (mq.1 hs) hn),h⟩
       ·rw[if_neg hs]
        exact⟨_,hk.kU hd o8 (λhh=>absurd (mq.2 hh) hs) (λ_=>rfl),h⟩
      ·obtain⟨s',on,fM,h1,h2⟩:=Ds _ s _ o8 hk h
       cases on with
       |true=>
        rw[if_pos (mq.2 (h2.1 rfl))]
        exact He hP fM hd h1
       |false=>
        rw[if_neg (λhh=>by have:=h2.2 (mq.1 hh);cases this)]
        exact⟨_,fM.put hd (λx hx=>by cases hx;rfl),h1⟩
     |false=>
      rw[he]at h
      simp only[cond_false]at h
      split at h
      ·rename_i t x ho;rw[ho]at hc;simp[cls]at hc
      ·obtain⟨s',on,fM,h1,h2⟩:=Ds _ s _ o8 hk h
       cases on with
       |true=>
        rw[if_pos (mq.2 (h2.1 rfl))]
        exact He hP fM hd h1
       |false=>
        rw[if_neg (λhh=>by have:=h2.2 (mq.1 hh);cases this)]
        exact⟨_,fM.put hd (λx hx=>by cases hx;rfl),h1⟩
theorem Eh[fX](hP:Good P)(wA:∀o∈ops.toList,∀d,o.dst=some d->d<n/\d∈ws){m:Mode}{K:Fr->World->Prop}{Q:Exit->Act->World->Prop}(hQ:∀fr a w,Kn n ws f0 ⟨fr,[],[]⟩ a->K fr w->Q .normal a w):
  ∀(l:List Oper) (s:St) (a:Act) (w:World),(∀o∈l,∀d,o.dst=some d->d<n/\d∈ws)->Kn n ws f0 s a->rR P m ops l s w K->wpList P ops Q l a w
 |[],s,a,w,_,hk,h=>wpList_nil (hQ s.fr a w hk.out h)
 |o::r,s,a,w,hd,hk,h=>by
  simp only[rR]at h
  have:=TX (ops:=ops) (Q:=Q) hP wA hk (hd o List.mem_cons_self) h
  refine wpList_step λK' hK'=>?_
  have go:∀a' w',(∃s',Kn n ws f0 s' a'/\rR P m ops r s' w' K)->K' a' w':=λa' w' ⟨s',h1,h2⟩=>
   hK' a' w' (Eh hP wA hQ r s' a' w' (λo ho=>hd o (List.mem_cons_of_mem _ ho)) h1 h2)
  split
  ·rename_i hw
   rw[if_pos hw]at this
   exact Oper.wp_mono go this
  ·rename_i hw
   rw[if_neg hw]at this
   exact go _ _ this
variable{P:Program}{n:Nat}{ws:List Nat}{f0:Fr}{ops:Array Oper}
theorem vL{x:Nat}{l:List Nat}:kA x l=true↔x∈l:=by
 induction l with
 |nil=>simp[kA]
 |cons y r ih=>
  simp only[kA]
  cases h:Nat.beq x y with
  |true=>simp[beq_eq.1 h]
  |false=>have:=fU.1 h;simp[ih,this]
theorem Sa:j∈after o↔∃e∈o.after,Region.binds .any e=true/\e.on=j:=by
 unfold after
 simp only[List.mem_filterMap,Array.mem_toList_iff]
 constructor
 ·rintro⟨e,he,h⟩
  cases hb:Region.binds .any e with
  |true=>rw[hb]at h;cases h;exact⟨e,he,hb,rfl⟩
  |false=>rw[hb]at h;cases h
 ·rintro⟨e,he,hb,rfl⟩
  exact⟨e,he,by rw[hb];rfl⟩
theorem Sb{l:List Nat}:Cv dn l=true↔∀j∈l,j∈dn:=by
 induction l with
 |nil=>simp[Cv]
 |cons y r ih=>
  simp only[Cv]
  cases h:kA y dn with
  |true=>have:=vL.1 h;simp[ih,this]
  |false=>have:y∉dn:=λhm=>by rw[vL.2 hm]at h;cases h
          simp[this]
structure rV(ops:Array Oper)(dn:List Nat)(listed:Array Bool):Prop where
 size:listed.size=ops.size
 iff:∀j,j<ops.size->(listed.getD j false=true↔j∈dn)
 lt:∀j∈dn,j<ops.size
 closed:∀(j:Nat) (o:Oper),ops[j]? = some o->j∈dn->∀i∈after o,i∈dn
theorem rV.Sc{listed:Array Bool}(h:rV ops dn listed)(hj:j<ops.size):listed.getD j true=listed.getD j false:=by
 have:j<listed.size:=by rw[h.size];exact hj
 simp[this]
theorem S0{dn:List Nat}:∀ {l:List Oper} {k i:Nat} {o:Oper},(i,o)∈lY ops.toList dn k l↔(∃j,i=k+j/\l[j]? = some o)/\i∉dn/\∀x∈after o,x∈dn
 |[],k,i,o=>by simp[lY]
 |o'::r,k,i,o=>by
  have ih:=S0 (dn:=dn) (l:=r) (k:=k+1) (i:=i) (o:=o)
  have split:(∃j,i=k+j/\(o'::r)[j]? = some o)↔(i=k/\o'=o)\/(∃j,i=k+1+j/\r[j]? = some o):=by
   constructor
   ·rintro⟨j,h1,h2⟩
    cases j with
    |zero=>simp at h2;exact .inl ⟨by omega,h2⟩
    |succ j=>exact .inr ⟨j,by omega,by simpa using h2⟩
   ·rintro (⟨h1,h2⟩|⟨j,h1,h2⟩)
    ·exact⟨0,by omega,by simp[h2]⟩
    ·exact⟨j+1,by omega,by simpa using h2⟩
  simp only[lY]
  cases h1:kA k dn with
  |true=>
   have hk:=vL.1 h1
   simp only[cond_true,ih,split]
   constructor
   ·rintro⟨h,h2⟩;exact⟨.inr h,h2⟩
   ·rintro⟨h|h,h2,h3⟩
    ·exact absurd (h.1▸hk) h2
    ·exact⟨h,h2,h3⟩
  |false=>
   have hk:k∉dn:=λhm=>by rw[vL.2 hm]at h1;cases h1
   simp only[cond_false]
   cases h2:Cv dn (after o')with
   |true=>
    have hf:=Sb.1 h2
    simp only[cond_true,List.mem_cons,Prod.mk.injEq,ih,split]
    constructor
    ·rintro (⟨rfl,rfl⟩|⟨h,h3⟩)
     ·exact⟨.inl ⟨rfl,rfl⟩,hk,hf⟩
     ·exact⟨.inr h,h3⟩
    ·rintro⟨⟨h3,h4⟩|h,h5⟩
     ·exact .inl ⟨h3,h4.symm⟩
     ·exact .inr ⟨h,h5⟩
   |false=>
    simp only[cond_false,ih,split]
    constructor
    ·rintro⟨h,h3⟩;exact⟨.inr h,h3⟩
    ·rintro⟨⟨h3,h4⟩|h,h5,h6⟩
     ·subst h4
      rw[Sb.2 h6]at h2;cases h2
     ·exact⟨h,h5,h6⟩
theorem rz{i:Nat}:(i,o)∈lY ops.toList dn 0 ops.toList↔ops[i]? = some o/\i∉dn/\∀x∈after o,x∈dn:=by
 rw[S0]
 constructor
 ·rintro⟨⟨j,h1,h2⟩,h3⟩
  rw[Nat.zero_add]at h1
  subst h1
  exact⟨by simpa using h2,h3⟩
 ·rintro⟨h1,h2⟩
  exact⟨⟨i,(Nat.zero_add i).symm,by simpa using h1⟩,h2⟩
theorem ag9{listed:Array Bool}(h:rV ops dn listed)(hj:listed.getD j false=true):j<ops.size/\j∈dn:=by
 have bB:j<ops.size:=by
  rcases Nat.lt_or_ge j listed.size with h'|h'
  ·rw[<- h.size];exact h'
  ·simp[Array.getElem?_eq_none h']at hj
 exact⟨bB,(h.iff j bB).1 hj⟩
theorem zI{listed:Array Bool}(h:rV ops dn listed){i:Nat}:i∈Region.ready .any ops listed↔∃o,(i,o)∈lY ops.toList dn 0 ops.toList:=by
 rw[mem_ready]
 constructor
 ·rintro⟨h0,o,ho,jU⟩
  have bB:i<ops.size:=(Array.getElem?_eq_some_iff.1 ho).1
  refine⟨o,rz.2 ⟨ho,λhm=>?_,λx hx=>?_⟩⟩
  ·rw[h.Sc bB,(h.iff i bB).2 hm]at h0;cases h0
  ·obtain⟨e,he,hb,rfl⟩:=Sa.1 hx
   exact(ag9 h (jU e he hb)).2
 ·rintro⟨o,ho⟩
  obtain⟨h1,h2,h3⟩:=rz.1 ho
  have bB:i<ops.size:=(Array.getElem?_eq_some_iff.1 h1).1
  refine⟨?_,o,h1,λe he hb=>?_⟩
  ·rw[h.Sc bB]
   cases hh:listed.getD i false with
   |false=>rfl
   |true=>exact absurd ((h.iff i bB).1 hh) h2
  ·have hx:=h3 e.on (Sa.2 ⟨e,he,hb,rfl⟩)
   exact(h.iff _ (h.lt _ hx)).2 hx
theorem rV.set{listed:Array Bool}(h:rV ops dn listed){i:Nat}(ho:(i,o)∈lY ops.toList dn 0 ops.toList):rV ops (i::dn) (listed.setIfInBounds i true):=by
 obtain⟨h1,h2,h3⟩:=rz.1 ho
 have bB:i<ops.size:=(Array.getElem?_eq_some_iff.1 h1).1
 refine⟨by simp[h.size],λj hj=>?_,λj hj=>?_,λj oj yW hm x hx=>?_⟩
 ·by_cases e:i=j
  ·subst e
   have:i<listed.size:=by rw[h.size];exact bB
   simp[this]
  ·rw[getD_set_ne false e,h.iff j hj]
   simp[Ne.symm e]
 ·cases hj with
  |head=>exact bB
  |tail _ hm=>exact h.lt j hm
 ·cases hm with
  |head=>
   rw[h1]at yW;cases yW
   exact List.mem_cons_of_mem _ (h3 x hx)
  |tail _ hm=>exact List.mem_cons_of_mem _ (h.closed j oj yW hm x hx)
theorem Ry{acc:List Nat}{i:Nat}:∀ {l:List Nat},Nat.testBit (ya acc l) i=true->∃x∈l,i=x\/Nat.testBit (acc.getD x 0) i=true
 |[],h=>by simp[ya]at h
 |y::r,h=>by
  simp only[ya]at h
  have h':Nat.testBit (2 ^ y|||acc.getD y 0|||ya acc r) i=true:=h
  rw[Nat.testBit_or,Nat.testBit_or]at h'
  simp only[Bool.or_eq_true]at h'
  rcases h' with (h1|h1)|h1
  ·rw[Nat.testBit_two_pow]at h1
   exact⟨y,List.mem_cons_self,.inl (of_decide_eq_true h1).symm⟩
  ·exact⟨y,List.mem_cons_self,.inr h1⟩
  ·obtain⟨x,hx,h2⟩:=Ry h1
   exact⟨x,List.mem_cons_of_mem _ hx,h2⟩
theorem Sd:∀(l:List Oper) (acc:List Nat) (j:Nat),(j<acc.length->(lZ l acc).getD j 0=acc.getD j 0)/\
  (∀k o,j=acc.length+k->l[k]? = some o->∃Aq,(∀x,x<Aq.length->Aq.getD x 0=(lZ l acc).getD x 0)/\Aq.length=j/\(lZ l acc).getD j 0=ya Aq (after o))
 |[],acc,j=>⟨λ_=>rfl,λk o _ h=>by simp at h⟩
 |o'::r,acc,j=>by
  have ih:=Sd r (acc++[ya acc (after o')])
  simp only[lZ]
  refine⟨λhj=>?_,λk o hj hk=>?_⟩
  ·rw[(ih j).1 (by simp;omega)]
   simp[List.getD_eq_getElem?_getD,List.getElem?_append_left hj]
  ·cases k with
   |zero=>
    simp at hk;subst hk
    refine⟨acc,λx hx=>?_,by omega,?_⟩
    ·rw[(ih x).1 (by simp;omega)]
     simp[List.getD_eq_getElem?_getD,List.getElem?_append_left hx]
    ·rw[(ih j).1 (by simp;omega)]
     subst hj
     simp[List.getD_eq_getElem?_getD]
   |succ k=>exact(ih j).2 k o (by simp;omega) (by simpa using hk)
theorem af1{listed:Array Bool}(h:rV ops dn listed){i:Nat}:∀(j:Nat) (o:Oper),ops[j]? = some o->(∀x∈after o,x∈dn)->Nat.testBit ((lZ ops.toList []).getD j 0) i=true->i∈dn:=by
 intro j
 induction j using Nat.strongRecOn with
 |_ j ih=>
  intro o ho jU hb
  obtain⟨Aq,h1,h2,h3⟩:=(Sd ops.toList [] j).2 j o (by simp) (by simpa using ho)
  rw[h3]at hb
  obtain⟨x,hx,E8⟩:=Ry hb
  have Nx:=jU x hx
  rcases E8 with rfl|E8
  ·exact Nx
  ·have bB:x<Aq.length:=by
    rcases Nat.lt_or_ge x Aq.length with h'|h'
    ·exact h'
    ·simp[List.getD_eq_getElem?_getD,List.getElem?_eq_none h']at E8
   rw[h1 x bB]at E8
   have iQ:=h.lt x Nx
   exact ih x (by omega) ops[x] (Array.getElem?_eq_getElem iQ) (h.closed x ops[x] (Array.getElem?_eq_getElem iQ) Nx) E8
def Q0(K:Act->World->Prop):Exit->Act->World->Prop:=λe a w=>match e with | .normal=>K a w|_=>False
def yA(P:Program)(ops:Array Oper)(Q:Act->World->Prop)(mk:List Nat):Nat->Array Bool->Rd->Act->World->Prop
 |0,listed,_,a,w=>Region.ready .any ops listed=[]/\Q a w
 |f+1,listed,C,a,w=>(Region.ready .any ops listed=[]->Q a w)/\∀i∈Region.ready .any ops listed,
   wpOp P ops (Q0 Q) i (λa' w'=>(∀c∈C,Nat.testBit (mk.getD i 0) c.1=false->kept c.2.1 c.2.2 w w')/\yA P ops Q mk f (listed.setIfInBounds i true) C a' w') a w
theorem Lg{Q:Act->World->Prop}{mk:List Nat}:∀ {f:Nat} {listed:Array Bool} {C:Rd} {a:Act} {w:World},yA P ops Q mk f listed C a w->wpAny P .any ops (Q0 Q) f listed a w
 |0,_,_,_,_,h=>h
 |_+1,_,_,_,_,h=>⟨h.1,λi hi=>wpOp_mono (λ_ _ h=>Lg h.2) (h.2 i hi)⟩
theorem KZ{Q:Act->World->Prop}{mk:List Nat}:∀ {f:Nat} {listed:Array Bool} {C C':Rd} {a:Act} {w:World},(∀c∈C',c∈C)->yA P ops Q mk f listed C a w->yA P ops Q mk f listed C' a w
 |0,_,_,_,_,_,_,h=>h
 |_+1,_,_,_,_,_,hs,h=>⟨h.1,λi hi=>wpOp_mono (λ_ _ h=>⟨λc hc hb=>h.1 c (hs c hc) hb,KZ hs h.2⟩) (h.2 i hi)⟩
theorem YR.wpOp{i:Nat}{o:Oper}{v:Value}{a:Act}{w:World}{rd:Rd}{Q:Exit->Act->World->Prop}(hi:ops[i]? = some o)(hy:YR P ops o v a w rd){K:Act->World->Prop}(h:K (a.put o.dst v) w):wpOp P ops Q i K a w:=by
 unfold Go.wpOp
 simp only[hi]
 rcases hy with ⟨hw,hv⟩|⟨hw,rfl⟩
 ·simp only[hw,if_true,Oper.wp,hv w (λc _=>kept_refl _ _ _),Oper.upon];exact .inl h
 ·simp only[hw,Bool.false_eq_true,if_false];exact h
theorem aeE{a:Addr}{n:Nat}{w w1 w2:World}(h:kept a n w w1)(h':kept a n w1 w2):kept a n w w2:=λj hj=>(h' j hj).trans (h j hj)
theorem YR.of_same{v:Value}{a a':Act}{w w':World}{rd:Rd}(hy:YR P ops o v a w rd)(he:execOp a'.eval o=execOp a.eval o)
  (hw:Region.wanted o (yielded ops a'.tmps)=Region.wanted o (yielded ops a.tmps)) (hk:∀c∈rd,kept c.2.1 c.2.2 w w'):YR P ops o v a' w' rd:=by
 unfold YR at*
 rw[he,hw]
 rcases hy with ⟨h1,h2⟩|h
 ·exact .inl ⟨h1,λw2 h3=>h2 w2 λc hc=>aeE (hk c hc) (h3 c hc)⟩
 ·exact .inr h
theorem af2{oi oj:Oper}{v:Value}{rd:Rd}{Q:Act->World->Prop}(hj:ops[j]? = some oj)(wQ:oi.apart ops oj=true)
  (hsi:∀cs b,oi.op≠.select cs b) (Wu:∀cs b,oj.op≠.select cs b) {K:Act->World->Prop} {a:Act} {w:World}
  (hy:YR P ops oi v a w rd) (Cz:∀a' w',K a' w'->∀c∈rd,kept c.2.1 c.2.2 w w') (h:wpOp P ops (Q0 Q) j K (a.put oi.dst v) w) :
  wpOp P ops (Q0 Q) j (λa' w'=>YR P ops oi v a' w' rd/\K (a'.put oi.dst v) w') a w:=by
 obtain⟨h1,h2,h3⟩:=Oper.apart_spec wQ
 have keep:∀(u:Value) (w':World),(∀c∈rd,kept c.2.1 c.2.2 w w')->YR P ops oi v (a.put oj.dst u) w' rd:=λu w' hk=>
  hy.of_same (execOp_put oi hsi a oj.dst u h3) (wanted_put oi a oj.dst u h3) hk
 have fin:∀u w',K ((a.put oi.dst v).put oj.dst u) w'->YR P ops oi v (a.put oj.dst u) w' rd/\K ((a.put oj.dst u).put oi.dst v) w':=λu w' hK=>
  ⟨keep u w' (Cz _ _ hK),by rw[<- Act.put_comm a v u h2];exact hK⟩
 unfold wpOp at*
 simp only[hj]at*
 rw[wanted_put oj a oi.dst v h1]at h
 split
 ·rename_i hw
  simp only[hw,if_true]at h
  rcases h with h|⟨Vv,aj3⟩
  case inr=>exact .inr ⟨by unfold Oper.asks at*;rw[execOp_put oj Wu a oi.dst v h1]at Vv;exact Vv,aj3⟩
  refine .inl ?_
  unfold Oper.wp at*
  rw[execOp_put oj Wu a oi.dst v h1]at h
  generalize (execOp a.eval oj).run P w=r at*
  cases r with
  |ok n w'=>
   cases n<;>simp only[Oper.upon]at h⊢
   case value u=>exact fin u w' h
   case skip=>exact fin _ w' h
   case defer d=>
    have hk:=Cz _ _ h
    refine⟨(keep undef w' hk).of_same (by cases oj.dst<;>rfl) (by cases oj.dst<;>rfl) (λc _=>kept_refl _ _ _),?_⟩
    rw[<- Act.put_comm _ v undef h2,<- Act.put_defers]
    exact h
   case enter f args=>
    refine Calls.mono h λe bS he=>?_
    cases e with
    |returned u=>exact fin u bS he
    |panicked c=>exact he
    |outgrown=>exact he
   case row row args=>exact Rows.mono h λu bS he=>fin u bS he
  |halt x w'=>
   cases x<;>simp only[Oper.upon]at h⊢
   case panic u=>exact h
 ·rename_i hw
  simp only[hw]at h
  exact fin _ w h
theorem S1:∀ {l:List Oper},Ag l=true->∀o∈l,∀cs b,o.op≠.select cs b
 |[],_,_,h=>by cases h
 |x::r,h,o,ho=>by
  simp only[Ag]at h
  intro cs b e
  cases ho with
  |head=>rw[e]at h;cases h
  |tail _ ho=>
   have hr:Ag r=true:=by split at h<;>first|cases h|exact h
   exact S1 hr o ho cs b e
theorem S2(o:Oper):slotsOf ops.toList o=o.looksAt ops:=by
 unfold slotsOf Oper.looksAt
 congr 1
 cases o.guard with
 |none=>rfl
 |some g=>simp
theorem aaI(d:Nat)(l:List Nat):kA d l=l.contains d:=by
 rw[Bool.eq_iff_iff,vL];simp
theorem af3{x y:Oper}(h:HT ops.toList x y=true):x.apart ops y=true:=by
 unfold HT at h
 unfold Oper.apart
 rw[S2,S2]at h
 cases hx:x.dst<;>cases hy:y.dst<;>simp only[hx,hy,aaI]at h⊢
 ·exact h
 ·exact h
 ·rename_i d
  cases hc:(Oper.looksAt ops y).contains d with
  |true=>rw[hc]at h;cases h
  |false=>rfl
 ·rename_i d e
  cases hc:(Oper.looksAt ops y).contains d with
  |true=>rw[hc]at h;cases h
  |false=>
   rw[hc]at h
   simp only[cond_false,Bool.and_eq_true,Bool.not_eq_true',fU]at h
   simp only[Bool.not_false,Bool.true_and,Bool.and_eq_true,Bool.not_eq_true']
   exact⟨by simp;exact λe'=>h.1 e'.symm,h.2⟩
theorem QZ{i:Nat}{o:Oper}:∀ {l:List Oper} {k:Nat},BP ops.toList i o k l=true->∀j x,l[j]? = some x->i=k+j\/i∈after x\/(k+j)∈after o\/o.apart ops x=true
 |[],_,_,j,x,hx=>by simp at hx
 |y::r,k,h,j,x,hx=>by
  simp only[BP]at h
  cases hc:(Nat.beq i k||kA i (after y)||kA k (after o)||HT ops.toList o y)with
  |false=>rw[hc]at h;cases h
  |true=>
   rw[hc]at h
   cases j with
   |zero=>
    simp at hx;subst hx
    simp only[Bool.or_eq_true,beq_eq,vL]at hc
    rcases hc with ((h1|h1)|h1)|h1
    ·exact .inl (by omega)
    ·exact .inr (.inl h1)
    ·exact .inr (.inr (.inl (by simpa using h1)))
    ·exact .inr (.inr (.inr (af3 h1)))
   |succ j=>
    have:=QZ h j x (by simpa using hx)
    rwa [show k+1+j=k+(j+1) by omega]at this
theorem Q2:∀ {l:List Oper} {k:Nat},zN ops.toList k l=true->∀i o,l[i]? = some o->BP ops.toList (k+i) o 0 ops.toList=true
 |[],_,_,i,o,ho=>by simp at ho
 |y::r,k,h,i,o,ho=>by
  simp only[zN]at h
  cases hc:BP ops.toList k y 0 ops.toList with
  |false=>rw[hc]at h;cases h
  |true=>
   rw[hc]at h
   cases i with
   |zero=>simp at ho;subst ho;exact hc
   |succ i=>
    have:=Q2 h i o (by simpa using ho)
    rwa [show k+1+i=k+(i+1) by omega]at this
theorem aha(wQ:zN ops.toList 0 ops.toList=true){i:Nat}{oi oj:Oper}(hi:(i,oi)∈lY ops.toList dn 0 ops.toList)(hj:ops[j]? = some oj)(gP:j≠i)
  (Ny:j∉dn) (cr:i∉after oj):oi.apart ops oj=true:=by
 obtain⟨h1,h2,h3⟩:=rz.1 hi
 have fV:=Q2 wQ i oi (by simpa using h1)
 rw[Nat.zero_add]at fV
 have:=QZ fV j oj (by simpa using hj)
 rw[Nat.zero_add]at this
 rcases this with h|h|h|h
 ·exact absurd h.symm gP
 ·exact absurd h cr
 ·exact absurd (h3 j h) Ny
 ·exact h
theorem af4{i:Nat}(h:(i,o)∈lY ops.toList dn 0 ops.toList)(gP:i≠j):(i,o)∈lY ops.toList (j::dn) 0 ops.toList:=by
 obtain⟨h1,h2,h3⟩:=rz.1 h
 exact rz.2 ⟨h1,by simp[gP,h2],λx hx=>List.mem_cons_of_mem _ (h3 x hx)⟩
theorem aeF{Q:Act->World->Prop}(EL:Ag ops.toList=true)(wQ:zN ops.toList 0 ops.toList=true){i:Nat}{oi:Oper}{v:Value}{rd:Rd}(hrd:∀c∈rd,c.1=i):
  ∀(f:Nat) (listed:Array Bool) (dn:List Nat) (C:Rd) (a:Act) (w:World),rV ops dn listed->(i,oi)∈lY ops.toList dn 0 ops.toList->YR P ops oi v a w rd->
   yA P ops Q (lZ ops.toList []) f (listed.setIfInBounds i true) (rd++C) (a.put oi.dst v) w->yA P ops Q (lZ ops.toList []) (f+1) listed C a w:=by
 have bX:∀(j:Nat) (o:Oper),ops[j]? = some o->∀cs b,o.op≠.select cs b:=λj o ho=>S1 EL o (by
  have:=List.mem_of_getElem? (l:=ops.toList) (i:=j) (a:=o) (by simpa using ho)
  exact this)
 intro f
 induction f with
 |zero=>
  intro listed dn C a w hl hi hy H
  have CS:=(zI hl).2 ⟨oi,hi⟩
  refine⟨λh=>(by rw[h]at CS;cases CS),λj hj=>?_⟩
  by_cases yX:j=i
  ·subst yX
   exact hy.wpOp (rz.1 hi).1 ⟨λc _ _=>kept_refl _ _ _,KZ (λc hc=>List.mem_append_right _ hc) H⟩
  ·have:=ready_mono hj yX
   rw[H.1]at this
   cases this
 |succ f ih=>
  intro listed dn C a w hl hi hy H
  have CS:=(zI hl).2 ⟨oi,hi⟩
  refine⟨λh=>(by rw[h]at CS;cases CS),λj hj=>?_⟩
  by_cases yX:j=i
  ·subst yX
   exact hy.wpOp (rz.1 hi).1 ⟨λc _ _=>kept_refl _ _ _,KZ (λc hc=>List.mem_append_right _ hc) H⟩
  ·have h1:=H.2 j (ready_mono hj yX)
   obtain⟨oj,qX⟩:=(zI hl).1 hj
   obtain⟨yW,Ny,Wv⟩:=rz.1 qX
   obtain⟨hoi,dw,hia⟩:=rz.1 hi
   have cr:i∉after oj:=λhm=>dw (Wv i hm)
   have IJ:Nat.testBit ((lZ ops.toList []).getD j 0) i=false:=by
    cases hb:Nat.testBit ((lZ ops.toList []).getD j 0) i with
    |false=>rfl
    |true=>exact absurd (af1 hl j oj yW Wv hb) dw
   have h2:=af2 yW (aha wQ hi yW yX Ny cr) (bX i oi hoi) (bX j oj yW) hy (λa' w' hK c hc=>hK.1 c (List.mem_append_left _ hc) (by rw[hrd c hc];exact IJ)) h1
   refine wpOp_mono (λa' w' h3=>⟨λc hc hb=>h3.2.1 c (List.mem_append_right _ hc) hb,?_⟩) h2
   refine ih (listed.setIfInBounds j true) (j::dn) C a' w' (hl.set qX) (af4 hi (Ne.symm yX)) h3.1 ?_
   rw[Array.setIfInBounds_comm _ _ yX]
   exact h3.2.2
theorem KJ{mask:Nat}{w w':World}{A:Prop}:∀ {C:Rd},B6 mask w w' A C->(∀c∈C,Nat.testBit mask c.1=false->kept c.2.1 c.2.2 w w')/\A
 |[],h=>⟨λ_ h=>(by cases h),h⟩
 |(i,a,n)::r,h=>by
  simp only[B6]at h
  cases hb:Nat.testBit mask i with
  |true=>
   rw[hb]at h
   obtain⟨h1,h2⟩:=KJ h
   refine⟨λc hc E9=>?_,h2⟩
   cases hc with
   |head=>rw[hb]at E9;cases E9
   |tail _ hc=>exact h1 c hc E9
  |false=>
   rw[hb]at h
   obtain⟨h0,h⟩:=h
   obtain⟨h1,h2⟩:=KJ h
   refine⟨λc hc E9=>?_,h2⟩
   cases hc with
   |head=>exact h0
   |tail _ hc=>exact h1 c hc E9
theorem aeG{s:St}{i:Nat}:∀c∈sI P ops.toList s i o,c.1=i:=by
 intro c hc
 unfold sI at hc
 split at hc
 ·split at hc
  ·rw[List.mem_singleton.1 hc]
  ·cases hc
 ·cases hc
theorem P6:∀ {l:List (Nat × Oper)} {i:Nat} {o:Oper},DD P l=some (i,o)->(i,o)∈l/\cls P o.op<=1
 |[],_,_,h=>by cases h
 |(j,x)::r,i,o,h=>by
  simp only[DD]at h
  cases hb:Nat.ble (cls P x.op) 1 with
  |true=>rw[hb]at h;cases h;exact⟨List.mem_cons_self,Nat.le_of_ble_eq_true hb⟩
  |false=>rw[hb]at h;obtain⟨h1,h2⟩:=P6 h;exact⟨List.mem_cons_of_mem _ h1,h2⟩
theorem TY{A:Nat × Oper->Prop}:∀ {l:List (Nat × Oper)},CI A l->∀x∈l,A x
 |[],_,_,h=>by cases h
 |[x],h,y,hy=>by
  cases hy with
  |head=>exact h
  |tail _ hy=>cases hy
 |x::z::r,h,y,hy=>by
  cases hy with
  |head=>exact h.1
  |tail _ hy=>exact TY (l:=z::r) h.2 y hy
theorem HV[fX](hP:Good P){m:Mode}{K:Fr->World->Prop}{Q:Act->World->Prop}(hQ:∀fr a w,Kn n ws f0 ⟨fr,[],[]⟩ a->K fr w->Q a w)
  (EL:Ag ops.toList=true) (wQ:zN ops.toList 0 ops.toList=true) (hd:∀o∈ops.toList,∀d,o.dst=some d->d<n/\d∈ws) :
  ∀(f:Nat) (dn:List Nat) (C:Rd) (s:St) (a:Act) (w:World) (listed:Array Bool),rV ops dn listed->Kn n ws f0 s a->tu P m ops (lZ ops.toList []) f dn C s w K->
   yA P ops Q (lZ ops.toList []) f listed C a w
 |0,dn,C,s,a,w,listed,hl,hk,h=>by
  simp only[tu]at h
  split at h
  ·rename_i ht
   refine⟨List.eq_nil_iff_forall_not_mem.2 λi hi=>?_,hQ s.fr a w hk.out h⟩
   obtain⟨o,ho⟩:=(zI hl).1 hi
   rw[ht]at ho;cases ho
  ·exact h.elim
 |f+1,dn,C,s,a,w,listed,hl,hk,h=>by
  simp only[tu]at h
  split at h
  ·rename_i ht
   have rL:Region.ready .any ops listed=[]:=List.eq_nil_iff_forall_not_mem.2 λi hi=>by
    obtain⟨o,ho⟩:=(zI hl).1 hi
    rw[ht]at ho;cases ho
   exact⟨λ_=>hQ s.fr a w hk.out h,λi hi=>by rw[rL]at hi;cases hi⟩
  ·rename_i x r ht
   have TZ:∀ {i:Nat} {o:Oper},(i,o)∈lY ops.toList dn 0 ops.toList->∀d,o.dst=some d->d<n/\d∈ws:=λ{i o} ho=>
    hd o (List.mem_of_getElem? (l:=ops.toList) (i:=i) (by simpa using (rz.1 ho).1))
   split at h
   ·rename_i i o hq
    obtain⟨hm,hc⟩:=P6 hq
    rw[<- ht]at hm
    obtain⟨v,s',h1,h2,h3⟩:=Rx (i:=i) hd hk (TZ hm) hc h
    have:=HV hP hQ EL wQ hd f (i::dn) _ s' _ w _ (hl.set hm) h2 h3
    exact aeF EL wQ aeG f listed dn C a w hl hm h1 this
   ·rw[<- ht]at h
    refine⟨λrL=>?_,λi hi=>?_⟩
    ·exfalso
     have hx:x∈lY ops.toList dn 0 ops.toList:=by rw[ht];exact List.mem_cons_self
     have:=(zI hl).2 ⟨x.2,by simpa using hx⟩
     rw[rL]at this;cases this
    ·obtain⟨o,ho⟩:=(zI hl).1 hi
     have h1:=TY h (i,o) ho
     have h2:=TX (ops:=ops) (Q:=Q0 Q) hP hd hk (TZ ho) h1
     unfold wpOp
     rw[(rz.1 ho).1]
     simp only
     have go:∀a' w',(∃s',Kn n ws f0 s' a'/\B6 ((lZ ops.toList []).getD i 0) w w' (tu P m ops (lZ ops.toList []) f (i::dn) C s' w' K) C)->
       (∀c∈C,Nat.testBit ((lZ ops.toList []).getD i 0) c.1=false->kept c.2.1 c.2.2 w w')/\yA P ops Q (lZ ops.toList []) f (listed.setIfInBounds i true) C a' w':=λa' w' ⟨s',h3,h4⟩=>by
      obtain⟨h5,h6⟩:=KJ h4
      exact⟨h5,HV hP hQ EL wQ hd f (i::dn) C s' a' w' _ (hl.set ho) h3 h6⟩
     split
     ·rename_i hw
      rw[if_pos hw]at h2
      exact .inl (Oper.wp_mono go h2)
     ·rename_i hw
      rw[if_neg hw]at h2
      exact go _ _ h2
theorem UT[fX](hP:Good P){m:Mode}{draw:Bool}{id:Nat}{fr:Fr}{a:Act}{w:World}{K:Fr->World->Prop}{Q:Exit->Act->World->Prop}(hQ:∀fr a w,Kn n ws f0 ⟨fr,[],[]⟩ a->K fr w->Q .normal a w)
  (hd:∀o∈ops.toList,∀d,o.dst=some d->d<n/\d∈ws) (hk:Kn n ws f0 ⟨fr,[],[]⟩ a) (h:wL P m ops draw fr w K):(Code.region id ops draw).wp P Q a w:=by
 unfold wL at h
 cases draw with
 |false=>
  exact wp_region_list (Eh hP hd hQ _ _ a w hd hk h)
 |true=>
  obtain⟨hc,h⟩:=ie h
  simp only[Bool.and_eq_true]at hc
  have hl:rV ops [] (Array.replicate ops.size false):=⟨by simp,λj hj=>(by simp[hj]),λj hj=>(by cases hj),λj o _ hm=>(by cases hm)⟩
  have h1:=HV hP (Q:=λa w=>Q .normal a w) (λfr a w h1 h2=>hQ fr a w h1 h2) hc.1 hc.2 hd _ [] [] _ a w.drew _ hl hk h
  have h2:(Code.region id ops true).wp P (Q0 λa w=>Q .normal a w) a w:=wp_region_any hP.mixed (by
   have:=Lg h1
   rw[Array.length_toList]at this
   exact this)
  exact wp_mono h2 λe a w hq=>by cases e<;>first|exact hq|exact hq.elim
variable{P:Program}{n:Nat}{m:Mode}{J L:mj}
structure KF[fX](n:Nat)(fr:Fr)(a:Act):Prop where
 size:a.tmps.size=n
 defers:a.defers=fX.ds
 fr:∀t v,look t fr=some v->slot a t=v
theorem KF.kn[fX]{fr:Fr}{a:Act}(h:KF n fr a)(ws:List Nat):Kn n ws fr ⟨fr,[],[]⟩ a:=
 ⟨h.size,h.defers,λt v hl _=>h.fr t v hl,λt k v hl=>(by cases hl),List.nodup_nil,λg b hl=>(by cases hl),λt kv hl=>(by cases hl),λ_ _=>rfl,λx hx=>(by cases hx)⟩
theorem Kn.kf[fX]{ws:List Nat}{f0 fr:Fr}{a:Act}(h:Kn n ws f0 ⟨fr,[],[]⟩ a):KF n fr a:=⟨h.size,h.defers,λt v hl=>h.fr t v hl rfl⟩
theorem BS:∀ {l:List Oper} {d:Nat},d∈qL l↔∃o∈l,o.dst=some d
 |[],d=>by simp[qL]
 |o::r,d=>by
  simp only[qL]
  cases ho:o.dst with
  |none=>simp[BS (l:=r),ho]
  |some x=>
   simp only[List.mem_cons,BS (l:=r)]
   constructor
   ·rintro (rfl|⟨o',h1,h2⟩)
    ·exact⟨o,.inl rfl,ho⟩
    ·exact⟨o',.inr h1,h2⟩
   ·rintro⟨o',h1|h1,h2⟩
    ·subst h1;rw[ho]at h2;cases h2;exact .inl rfl
    ·exact .inr ⟨o',h1,h2⟩
def EM(ws:List Nat)(f g:Fr):Prop:=∀t,t∉ws->look t g=look t f
set_option linter.unusedVariables false
theorem Q3(t:Nat)(f g:Fr):look t (f++g)=if t∈f.map (·.1) then look t f else look t g:=by
 induction f with
 |nil=>simp
 |cons y r ih=>
  obtain⟨s,v⟩:=y
  simp only[List.cons_append,look]
  cases hb:Nat.beq s t with
  |true=>simp[beq_eq.1 hb]
  |false=>
   have:t≠s:=λe=>fU.1 hb e.symm
   simp only[cond_false,ih,List.map_cons,List.mem_cons,this,false_or]
theorem KK(ws:List Nat)(t:Nat):∀(f:Fr),look t (strip ws f)=if t∈ws then none else look t f
 |[]=>by simp[strip,look]
 |(s,v)::r=>by
  have ih:=KK ws t r
  simp only[strip]
  cases hw:kA s ws with
  |true=>
   simp only[cond_true,ih,look]
   cases hb:Nat.beq s t with
   |true=>have:=vL.1 hw;rw[beq_eq.1 hb]at this;simp[this]
   |false=>rfl
  |false=>
   simp only[cond_false,look]
   cases hb:Nat.beq s t with
   |true=>
    have:t∉ws:=λhm=>by rw[<- beq_eq.1 hb]at hm;rw[vL.2 hm]at hw;cases hw
    simp[this]
   |false=>simpa using ih
theorem Q4(fr:Fr):∀ls:List (Nat × Sh),(carry fr ls).map (·.1)=ls.map (·.1)
 |[]=>rfl
 |(t,s)::r=>by simp[carry,Q4 fr r]
theorem Rz(fr:Fr)(t:Nat):∀ls:List (Nat × Sh),t∈ls.map (·.1)->look t (carry fr ls)=look t fr
 |[],h=>by cases h
 |(s,x)::r,h=>by
  simp only[carry,look]
  cases hb:Nat.beq s t with
  |true=>rw[beq_eq.1 hb];rfl
  |false=>
   have:t≠s:=λe=>fU.1 hb e.symm
   simp[this]at h
   exact Rz fr t r (by simpa using h)
theorem xQ{ws:List Nat}:∀ {ls:List (Nat × Sh)},ym ls ws=true->∀t∈ls.map (·.1),t∈ws
 |[],_,t,h=>by cases h
 |(s,x)::r,h,t,ht=>by
  simp only[ym]at h
  cases hw:kA s ws with
  |true=>
   rw[hw]at h
   rcases List.mem_cons.1 ht with h1|h1
   ·rw[h1];exact vL.1 hw
   ·exact xQ h t h1
  |false=>rw[hw]at h;cases h
theorem P7{s:Sh}{F:Value->Prop}(h:∀v,F v):Hs s F:=by
 cases s<;>simp only[Hs]<;>intros<;>exact h _
theorem Pj:∀ {l:List Sh} {F:List Value->Prop},(∀v,F v)->KU l F
 |[],F,h=>h []
 |s::r,F,h=>P7 λv=>Pj λvs=>h (v::vs)
theorem ac1{s:Sh}{F:Value->Prop}(h:∀v,F v):Mq s F:=by
 cases s
 case cells l=>exact Pj λvs=>h _
 all_goals (simp only[Mq];exact P7 h)
theorem xA:∀ {ls:List (Nat × Sh)} {F:Fr->Prop},(∀fr:Fr,fr.map (·.1)=ls.map (·.1)->F fr)->Ah ls F
 |[],F,h=>h [] rfl
 |(t,s)::r,F,h=>ac1 λv=>xA λfr hf=>h _ (by simp[hf])
theorem uj[fX]{ws:List Nat}{f f':Fr}{ls:List (Nat × Sh)}{a:Act}(h:KF n f' a)(hs:∀t,t∉ws->look t f'=look t f):KF n (carry f' ls++strip ws f) a:=by
 refine⟨h.size,h.defers,λt v hl=>?_⟩
 rw[Q3,Q4]at hl
 split at hl
 ·rename_i hm
  rw[Rz f' t ls hm]at hl
  exact h.fr t v hl
 ·rw[KK]at hl
  split at hl
  ·cases hl
  ·rename_i hw
   exact h.fr t v ((hs t hw).trans hl)
theorem zJ{ws:List Nat}{f fr:Fr}{ls:List (Nat × Sh)}(hf:fr.map (·.1)=ls.map (·.1))(dw:∀t∈ls.map (·.1),t∈ws){t:Nat}(ht:t∉ws):look t (fr++strip ws f)=look t f:=by
 rw[Q3,hf,if_neg (λhm=>ht (dw t hm)),KK,if_neg ht]
def Iy(P:Program)(c:Code)(Q:Exit->Act->World->Prop)(a:Act)(w:World):Prop:=
 ∀(b:Frame) (k:List Item) (cs:List Frame),∃e a' w',Q e a' w'/\Arrives P (lone (b.at a (.code c::.inLoop c::k)) cs w) b k cs e a' w'
theorem ahb{c:Code}{Q:Exit->Act->World->Prop}{a:Act}{w:World}(h:c.wp P (Exit.then (Iy P c Q) Q) a w):Iy P c Q a w:=by
 intro b k cs
 obtain⟨e,a₁,w₁,hq,iV⟩:=h b (.inLoop c::k) cs
 cases e with
 |normal=>
  obtain⟨e₂,a₂,w₂,EA,DZ⟩:=hq b k cs
  exact⟨e₂,a₂,w₂,EA,.of_steps (Steps.trans iV (.one step_inLoop)) DZ⟩
 |exit id=>exact⟨_,a₁,w₁,hq,.pass (x:=.inLoop c) rfl (λ_ _=>.inl (by simp)) iV⟩
 |goto l=>exact⟨_,a₁,w₁,hq,.pass (x:=.inLoop c) rfl (λ_ _=>.inl (by simp)) iV⟩
 |ret=>exact⟨_,a₁,w₁,hq,.pass (x:=.inLoop c) rfl (λ_ _=>.inl (by simp)) iV⟩
 |panic ch=>exact⟨_,a₁,w₁,hq,.pass (x:=.inLoop c) rfl (λ_ _=>.inl (by simp)) iV⟩
 |outgrown=>exact⟨_,a₁,w₁,hq,.pass (x:=.inLoop c) rfl (λ_ _=>.inl (by simp)) iV⟩
theorem ail{c:Code}{Q:Exit->Act->World->Prop}{a:Act}{w:World}(h:Iy P c Q a w):(Code.loop c).wp P Q a w:=by
 intro b k cs
 obtain⟨e,a',w',hq,iV⟩:=h b k cs
 exact⟨e,a',w',hq,.of_steps (.one step_loop) iV⟩
theorem sO[fX](hP:Good P):∀(c:Code),(∀d∈writes c,d<n)->∀ {fr:Fr} {a:Act} {w:World} {Q':kV} {Q:Exit->Act->World->Prop},KF n fr a->
  (∀e aP a' w',KF n aP a'->EM (writes c) fr aP->Q' e aP w'->Q e a' w')->dH P m J L c fr w Q'->c.wp P Q a w
 |.skip,_,fr,a,w,Q',Q,hk,hq,h=>wp_skip (hq _ _ _ _ hk (λ_ _=>rfl) h)
 |.exit id,_,fr,a,w,Q',Q,hk,hq,h=>wp_exit (hq _ _ _ _ hk (λ_ _=>rfl) h)
 |.ret,_,fr,a,w,Q',Q,hk,hq,h=>wp_ret (hq _ _ _ _ hk (λ_ _=>rfl) h)
 |.region id ops draw,hw,fr,a,w,Q',Q,hk,hq,h=>by
  refine UT (n:=n) (ws:=qL ops.toList) (f0:=fr) (m:=m) hP (K:=λaP w'=>Q' .normal aP w') (λaP a' w' h1 h2=>hq .normal aP a' w' h1.kf (λt ht=>h1.Ao t ht) h2) (λo ho d hd=>?_) (hk.kn _) h
  have:d∈qL ops.toList:=BS.2 ⟨o,ho,hd⟩
  exact⟨hw d this,this⟩
 |.cond c x y,hw,fr,a,w,Q',Q,hk,hq,h=>by
  simp only[dH]at h
  split at h
  ·rename_i t ht
   have hc:=(hk.kn []).val (Sat.nil a) ht
   have hx:∀d∈writes x,d<n:=λd hd=>hw d (List.mem_append_left _ hd)
   have hy:∀d∈writes y,d<n:=λd hd=>hw d (List.mem_append_right _ hd)
   refine wp_cond hc ?_
   cases t with
   |true=>
    exact sO hP x hx hk (λe aP a' w' h1 h2 h3=>hq e aP a' w' h1 (λt ht=>h2 t (λhm=>ht (List.mem_append_left _ hm))) h3) h
   |false=>
    exact sO hP y hy hk (λe aP a' w' h1 h2 h3=>hq e aP a' w' h1 (λt ht=>h2 t (λhm=>ht (List.mem_append_right _ hm))) h3) h
  ·exact h.elim
 |.block id c,hw,fr,a,w,Q',Q,hk,hq,h=>by
  refine wp_block (sO hP c hw hk (λe aP a' w' h1 h2 h3=>?_) h)
  cases e with
  |exit i=>
   simp only[zO]at h3
   simp only[Exit.inBlock]
   cases hb:Nat.beq i id with
   |true=>rw[hb]at h3;rw[if_pos (beq_eq.1 hb)];exact hq _ _ _ _ h1 h2 h3
   |false=>rw[hb]at h3;rw[if_neg (fU.1 hb)];exact hq _ _ _ _ h1 h2 h3
  |_=>exact hq _ _ _ _ h1 h2 h3
 |.seq x y,hw,fr,a,w,Q',Q,hk,hq,h=>by
  have hx:∀d∈writes x,d<n:=λd hd=>hw d (List.mem_append_left _ hd)
  have hy:∀d∈writes y,d<n:=λd hd=>hw d (List.mem_append_right _ hd)
  simp only[dH]at h
  refine wp_seq ?_
  split at h
  ·refine sO hP x hx hk (λe aP a' w' h1 h2 h3=>?_) h
   have off:∀e,Q' e aP w'->Q e a' w':=λe h4=>hq e aP a' w' h1 (λt ht=>h2 t (λhm=>ht (List.mem_append_left _ hm))) h4
   cases e with
   |normal=>
    exact sO hP y hy h1 (λe gq a2 w2 h4 h5 h6=>hq e gq a2 w2 h4 (λt ht=>
     (h5 t (λhm=>ht (List.mem_append_right _ hm))).trans (h2 t (λhm=>ht (List.mem_append_left _ hm)))) h6) h3
   |_=>exact off _ h3
  ·rename_i ls CT
   obtain⟨dw,h⟩:=ie h
   have dw:=xQ dw
   have h':=h (λfC w'=>∀a',KF n (fC++strip (writes x) fr) a'->y.wp P Q a' w') (xA λfC hf w' yY a' fM=>
    sO hP y hy fM (λe gq a2 w2 h4 h5 h6=>hq e gq a2 w2 h4 (λt ht=>
     (h5 t (λhm=>ht (List.mem_append_right _ hm))).trans (zJ hf dw (λhm=>ht (List.mem_append_left _ hm)))) h6) yY)
   refine sO hP x hx hk (λe aP a' w' h1 h2 h3=>?_) h'
   have off:∀e,Q' e aP w'->Q e a' w':=λe h4=>hq e aP a' w' h1 (λt ht=>h2 t (λhm=>ht (List.mem_append_left _ hm))) h4
   cases e with
   |normal=>exact h3 a' (uj h1 h2)
   |_=>exact off _ h3
 |.loop c,hw,fr,a,w,Q',Q,hk,hq,h=>by
  simp only[dH]at h
  split at h
  ·exact h.elim
  ·rename_i ls CT
   obtain⟨dw,h⟩:=ie h
   have dw:=xQ dw
   have h':=h (λfC w'=>∀a',KF n (fC++strip (writes c) fr) a'->Iy P c Q a' w') (xA λfC hf w' wP a' fM=>ahb (
    sO hP c hw fM (λe gq a2 w2 h4 h5 h6=>by
     have same:∀t,t∉writes c->look t gq=look t fr:=λt ht=>(h5 t ht).trans (zJ hf dw ht)
     have off:∀e,Q' e gq w2->Q e a2 w2:=λe h7=>hq e gq a2 w2 h4 same h7
     cases e with
     |normal=>exact h6 a2 (uj h4 same)
     |_=>exact off _ h6) wP))
   exact ail (h' a (uj hk (λ_ _=>rfl)))
 |.rangeFunc ..,_,_,_,_,_,_,_,_,h=>(by simp only[dH]at h)
 |.scope c,hw,fr,a,w,Q',Q,hk,hq,h=>by
  simp only[dH]at h
  refine wp_scope_straight (sO hP c hw hk (λe aP a' w' h1 h2 h3=>?_) h)
  cases e with
  |goto l=>exact h3.elim
  |_=>exact hq _ _ _ _ h1 h2 h3
 |.label l,hw,fr,a,w,Q',Q,hk,hq,h=>by
  simp only[dH]at h
  exact wp_label (hq _ _ _ _ hk (λ_ _=>rfl) h)
 |.goto _,_,_,_,_,_,_,_,_,h=>(by simp only[dH]at h)
 |.refuse _,_,_,_,_,_,_,_,_,h=>(by simp only[dH]at h)
theorem K1[fX]{fr:Fr}{a:Act}(hk:KF n fr a){w:World}:∀ {l:List ResultVar} {K:List Value->Prop},qD P fr w l K->
  ∃vs,vs.length=l.length/\(l.mapM fun | .tmp t=>pure (a.tmps.getD t undef) | .cell x t=>do loadVar t (<- asAddr (a.tmps.getD x undef)):Sem (List Value)).run P w=.ok vs w/\K vs
 |[],K,h=>⟨[],rfl,rfl,h⟩
 |.tmp t::r,K,h=>by
  simp only[qD]at h
  split at h
  ·rename_i v hv
   obtain⟨vs,h1,h2,h3⟩:=K1 hk h
   refine⟨v::vs,by simp[h1],?_,h3⟩
   have hs:a.tmps.getD t undef=v:=hk.fr t v hv
   rw[List.mapM_cons,Sem.run_bind]
   simp only[Sem.run_pure,Result.andThen_ok]
   rw[Sem.run_bind,h2,hs];rfl
  ·exact h.elim
 |.cell t ty::r,K,h=>by
  simp only[qD]at h
  split at h
  ·rename_i p hv
   obtain⟨v,h0,h1⟩:=LB h
   obtain⟨vs,h2,h3,h4⟩:=K1 hk h0
   refine⟨v::vs,by simp[h2],?_,h4⟩
   have hs:a.tmps.getD t undef=.pointer (some p):=hk.fr t _ hv
   rw[List.mapM_cons,Sem.run_bind]
   show((asAddr (a.tmps.getD t undef) >>= λp=>loadVar ty p).run P w).andThen _=_
   have e1:(asAddr (a.tmps.getD t undef) >>= λp=>loadVar ty p).run P w=.ok v w:=by rw[hs];exact h1 w (kept_refl _ _ _)
   rw[e1,Result.andThen_ok,Sem.run_bind,h3];rfl
  ·exact h.elim
theorem BF[fX]{fn:Func}{fr:Fr}{a:Act}(hk:KF n fr a){w:World}{R:Value->World->Prop}(h:qD P fr w fn.results.toList (HU R w)):
  ∃v,(results fn a.tmps).run P w=.ok v w/\R v w:=by
 obtain⟨vs,h1,h2,h3⟩:=K1 hk h
 have hm:(fn.results.mapM fun | .tmp t=>pure (a.tmps.getD t undef) | .cell x t=>do loadVar t (<- asAddr (a.tmps.getD x undef)):Sem (Array Value)).run P w=.ok ⟨vs⟩ w:=by
  rw[Array.mapM_eq_mapM_toList,Sem.run_map,h2];rfl
 refine⟨if h:(Array.mk vs).size=1 then (Array.mk vs)[0] else .tuple ⟨vs⟩,?_,?_⟩
 ·unfold results
  rw[Sem.run_bind]
  exact(congrArg (λr=>Result.andThen r λ(vs:Array Value) w'=>Sem.run P (pure (if h:vs.size=1 then vs[0] else .tuple vs)) w') hm).trans rfl
 ·match vs,h3 with
  |[],h3=>exact h3
  |[v],h3=>exact h3
  |v::u::r,h3=>exact h3
theorem GZ:∀ {l:List Value} {i t:Nat} {v:Value},look t (qM i l)=some v->i<=t/\l[t - i]? = some v
 |[],_,_,_,h=>by cases h
 |x::r,i,t,v,h=>by
  simp only[qM,look]at h
  cases hb:Nat.beq i t with
  |true=>
   rw[hb]at h;cases h
   have:=beq_eq.1 hb
   exact⟨by omega,by simp[this]⟩
  |false=>
   rw[hb]at h
   have gP:=fU.1 hb
   obtain⟨h1,h2⟩:=GZ h
   refine⟨by omega,?_⟩
   rw[show t - i=(t - (i+1))+1 by omega]
   simpa using h2
theorem G0{n:Nat}:∀ {l:List Nat},Cy n l=true->∀d∈l,d<n
 |[],_,d,h=>by cases h
 |x::r,h,d,hd=>by
  simp only[Cy]at h
  cases hb:Nat.blt x n with
  |true=>
   rw[hb]at h
   rcases List.mem_cons.1 hd with h1|h1
   ·rw[h1];exact Nat.le_of_ble_eq_true hb
   ·exact G0 h d h1
  |false=>rw[hb]at h;cases h
theorem L4(hP:Good P){f:FuncId}{fn:Func}(hf:P.funcs[f]? = some fn){args:List Value}(EB:Nat.ble args.length fn.ntmps=true){w:World}{R:Value->World->Prop}
  (h:CQ P m J L fn args w R):Ok P f args w R:=by
 have hlen:args.length<=fn.ntmps:=Nat.le_of_ble_eq_true EB
 unfold CQ at h
 split at h
 ·rename_i c hc
  obtain⟨bB,h⟩:=ie h
  refine calls_of_wp hf hc (sO (n:=fn.ntmps) (m:=m) (J:=J) (L:=L) hP c (G0 bB) (fr:=qM 0 args) ⟨?_,rfl,λt v hl=>?_⟩ (λe aP a' w' hk _ hq=>?_) h)
  ·simp;omega
  ·obtain⟨_,h2⟩:=GZ hl
   have h3:args[t]? = some v:=by simpa using h2
   have h4:t<args.length:=(List.getElem?_eq_some_iff.1 h3).1
   show Array.getD _ t undef=v
   rw[Array.getD_eq_getD_getElem?,Array.getElem?_append_left (by simpa using h4)]
   simp[h3]
  ·cases e with
   |normal=>
    obtain⟨v,h1,h2⟩:=BF (fn:=fn) hk hq
    exact⟨hk.defers,v,h1,v,rfl,h2⟩
   |ret=>
    obtain⟨v,h1,h2⟩:=BF (fn:=fn) hk hq
    exact⟨hk.defers,v,h1,v,rfl,h2⟩
   |_=>exact hq.elim
 ·exact h.elim
#print axioms L4
end Go.Ev
end
section
set_option linter.unusedVariables false
set_option linter.unusedSimpArgs false
namespace Go.Ev
open Go Go.RowKit
variable{w':World}{sz:Nat}{vs:List Value}{lo:Nat}
variable{P:Program}
structure Mod(S:List Nat)(w w':World):Prop where
 os:w'.os=w.os
 tape:w'.tape=w.tape
 output:w'.output=w.output
 size:w.heap.size<=w'.heap.size
 block:∀k,k<w.heap.size->k∉S->w'.heap[k]? = w.heap[k]?
theorem Mod.refl(S:List Nat)(w:World):Mod S w w:=⟨rfl,rfl,rfl,Nat.le_refl _,λ_ _ _=>rfl⟩
theorem Mod.trans'{S T:List Nat}{w w1 w2:World}(h:Mod S w w1)(k:Mod T w1 w2)(hT:∀b∈T,b∈S\/w.heap.size<=b):Mod S w w2:=
 ⟨k.os.trans h.os,k.tape.trans h.tape,k.output.trans h.output,Nat.le_trans h.size k.size,λb hb hn=>
  (k.block b (Nat.lt_of_lt_of_le hb h.size) (λhm=>(hT b hm).elim hn (λh1=>by omega))).trans (h.block b hb hn)⟩
theorem Mod.trans{S:List Nat}{w w1 w2:World}(h:Mod S w w1)(k:Mod S w1 w2):Mod S w w2:=h.trans' k λ_ hb=>.inl hb
theorem Mod.then{S:List Nat}{w w1 w2:World}(h:Mod S w w1)(k:Mod [] w1 w2):Mod S w w2:=h.trans' k λ_ hb=>by cases hb
theorem Mod.mono{S T:List Nat}{w:World}(h:Mod S w w')(hs:∀b∈S,b∈T):Mod T w w':=
 ⟨h.os,h.tape,h.output,h.size,λb hb hn=>h.block b hb λhm=>hn (hs b hm)⟩
theorem Mod.of_nil{T:List Nat}{w:World}(h:Mod [] w w'):Mod T w w':=h.mono λ_ hb=>by cases hb
theorem Mod.drew(S:List Nat)(w:World):Mod S w w.drew:=⟨rfl,rfl,rfl,Nat.le_refl _,λ_ _ _=>rfl⟩
theorem Mod.alloc(S:List Nat)(w:World)(o:Obj):Mod S w (w.alloc o):=⟨rfl,rfl,rfl,by simp,λk hk _=>Below.heap_alloc _ _ _ hk⟩
theorem Mod.setCell(w:World)(a:Addr)(v:Value):Mod [a.block] w (w.setCell a v):=
 ⟨rfl,rfl,rfl,by simp,λk _ hn=>Below.heap_setCell _ _ _ _ (λe=>hn (by simp[e]))⟩
theorem Mod.grown{w:World}{row:Option Nat}(h:w.grownBy w' row):Mod row.toList w w':=
 ⟨h.os,h.tape,h.output,h.size,λk hk hn=>h.block k hk (λe=>hn (by rw[<- e];simp))⟩
theorem Mod.below{w:World}(h:Mod [] w w'):Below w.heap.size w w':=⟨h.os,h.tape,h.output,h.size,λk hk=>h.block k hk (by simp)⟩
theorem Mod.cell?{S:List Nat}{w w':World}(h:Mod S w w'){a:Addr}(ha:a.block<w.heap.size)(hn:a.block∉S):w'.cell? a=w.cell? a:=
 World.cell?_of_block (h.block _ ha hn)
theorem Mod.cell{S:List Nat}{w w':World}(h:Mod S w w'){a:Addr}{v:Value}(hv:w.cell? a=some v)(hn:a.block∉S):w'.cell? a=some v:=
 (h.cell? (World.block_lt_of_cell? _ _ hv) hn).trans hv
theorem Mod.qa{w:World}(h:Mod [] w w'){a:Addr}{v:Value}(hv:w.cell? a=some v):w'.cell? a=some v:=h.cell hv (by simp)
theorem D0{S:List Nat}{w:World}(h:Mod S w w'){a:Addr}{n:Nat}(ha:a.block<w.heap.size)(hn:a.block∉S):kept a n w w':=λj _=>by
 have:(a.add j).block=a.block:=by unfold Addr.add;split<;>rfl
 exact h.cell? (this▸ha) (this▸hn)
theorem vM{w:World}(h:Mod [] w w'){a:Addr}{n:Nat}{v:Value}(ha:w.cell? a=some v):kept a n w w':=D0 h (World.block_lt_of_cell? _ _ ha) (by simp)
def bp(w:World)(b:Nat)(cs:List Value)(t:TypeId):Prop:=w.heap[b]? = some (.cells ⟨cs⟩ t (0,0))
section
variable{w w':World}{b:Nat}{cs:List Value}{t:TypeId}
theorem bp.lt(h:bp w b cs t):b<w.heap.size:=(Array.getElem?_eq_some_iff.1 h).1
theorem bp.cell(h:bp w b cs t)(i:Nat):w.cell? ⟨b,i,none⟩=cs[i]?:=by
 unfold bp at h;simp[World.cell?,h]
theorem bp.frozen(h:bp w b cs t)(i:Nat):w.frozen? ⟨b,i,none⟩=false:=by
 unfold bp at h;simp[World.frozen?,h]
theorem bp.mod{S:List Nat}(h:bp w b cs t)(hm:Mod S w w')(hn:b∉S):bp w' b cs t:=(hm.block b h.lt hn).trans h
theorem bp.av(h:bp w b cs t)(hm:Mod [] w w'):bp w' b cs t:=h.mod hm (by simp)
theorem bp.new(w:World)(cs:List Value)(t:TypeId):bp (w.alloc (.cells ⟨cs⟩ t)) w.heap.size cs t:=by
 unfold bp World.alloc;simp
theorem bp.set(h:bp w b cs t)(i:Nat)(v:Value):bp (w.setCell ⟨b,i,none⟩ v) b (cs.set i v) t:=by
 unfold bp at*
 simp only[World.setCell,Array.getElem?_modify,if_true,h,Option.map_some]
 simp
end
theorem sP(b o n:Nat):Addr.add ⟨b,o,none⟩ n=⟨b,o+n,none⟩:=by
 unfold Addr.add;split<;>simp_all
theorem fS(a:Addr)(n:Nat):(a.add n).block=a.block:=by unfold Addr.add;split<;>rfl
theorem add_add(a:Addr)(m n:Nat):(a.add m).add n=a.add (m+n):=by
 unfold Addr.add
 split<;>split<;>simp_all<;>omega
theorem aZ{b:Bool}{A B:Prop}(h1:b=true->A)(h2:b=false->B):dc b A B:=by cases b<;>first|exact h2 rfl|exact h1 rfl
theorem ite_true{b:Bool}{A B:Prop}(hb:b=true)(h:A):dc b A B:=by rw[hb];exact h
theorem ite_false{b:Bool}{A B:Prop}(hb:b=false)(h:B):dc b A B:=by rw[hb];exact h
theorem an{f:FuncId}{args:List Value}{w:World}{R K:Value->World->Prop}(h:Ok P f args w R)(hk:∀v w',R v w'->K v w'):ek P f args w K:=
 Calls.mono h λ_ _ ⟨v,h1,h2⟩=>⟨v,h1,hk v _ h2⟩
theorem Ok.mono{f:FuncId}{args:List Value}{w:World}{R K:Value->World->Prop}(h:Ok P f args w R)(hk:∀v w',R v w'->K v w'):Ok P f args w K:=an h hk
theorem qE{t:TypeId}{cs:List Value}{w:World}{K:Addr->World->Prop}(h:∀b w',b=w.heap.size->bp w' b cs t->Mod [] w w'->w'.heap.size=w.heap.size+1->K ⟨b,0,none⟩ w'):nw t cs w K:=
 h _ _ rfl (bp.new w cs t) (Mod.alloc _ _ _) (by simp)
theorem aj4{a:Addr}{u v:Value}{w:World}{K:World->Prop}(h1:w.cell? a=some u)(h2:w.frozen? a=false)(h3:dQ v=true)(h:K (w.setCell a v)):st a v w K:=
 ⟨⟨u,h1⟩,h2,by cases v<;>first|exact h|cases h3⟩
theorem HX{b i:Nat}{v:Value}{w:World}{cs:List Value}{t:TypeId}{K:World->Prop}(hb:bp w b cs t)(hi:i<cs.length)(h3:dQ v=true)
  (h:∀w',bp w' b (cs.set i v) t->Mod [b] w w'->w'.heap.size=w.heap.size->K w'):st ⟨b,i,none⟩ v w K:=
 aj4 (u:=cs[i]) (by rw[hb.cell];simp[hi]) (hb.frozen i) h3 (h _ (hb.set i v) (Mod.setCell w ⟨b,i,none⟩ v) (by simp))
theorem RA{t:TypeId}{b:Nat}:∀(l:List Value) (cs:List Value) (w:World) (o:Nat),bp w b cs t->o+l.length<=cs.length->
  bp (setRow w ⟨b,0,none⟩ o l) b (cs.take o++(l++cs.drop (o+l.length))) t/\Mod [b] w (setRow w ⟨b,0,none⟩ o l)/\(setRow w ⟨b,0,none⟩ o l).heap.size=w.heap.size
 |[],cs,w,o,hb,_=>by simp[setRow];exact⟨hb,Mod.refl _ _⟩
 |v::r,cs,w,o,hb,hl=>by
  simp only[List.length_cons]at hl
  have h1:=hb.set o v
  obtain⟨h2,h3,h4⟩:=RA r (cs.set o v) (w.setCell ⟨b,o,none⟩ v) (o+1) h1 (by simp;omega)
  simp only[setRow]
  rw[sP,Nat.zero_add]
  refine⟨?_,(Mod.setCell w ⟨b,o,none⟩ v).trans h3,by rw[h4];simp⟩
  have e:(cs.set o v).take (o+1)++(r++(cs.set o v).drop (o+1+r.length))=cs.take o++(v::r++cs.drop (o+(v::r).length)):=by
   have bB:o<cs.length:=by omega
   rw[List.take_succ_eq_append_getElem (by simpa using bB)]
   simp only[List.getElem_set_self,List.take_set_of_le (Nat.le_refl _),List.append_assoc,List.cons_append,List.nil_append,List.length_cons]
   rw[List.drop_set_of_lt (by omega),show o+1+r.length=o+(r.length+1) by omega]
  rw[<- e];exact h2
theorem T3{n b:Nat}{l cs:List Value}{w:World}{t:TypeId}{K:World->Prop}(hb:bp w b cs t)(hl:l.length=n)(hn:n<=cs.length)(h1:∀v∈l,dQ v=true)
  (h:∀w',bp w' b (l++cs.drop n) t->Mod [b] w w'->w'.heap.size=w.heap.size->K w'):yR n ⟨b,0,none⟩ l w K:=by
 obtain⟨h2,h3,h4⟩:=RA l cs w 0 hb (by omega)
 refine⟨hl,λi hi=>?_,h1,h _ ?_ h3 h4⟩
 ·rw[sP,Nat.zero_add]
  exact⟨⟨cs[i]'(by omega),by rw[hb.cell];simp[show i<cs.length by omega]⟩,hb.frozen i⟩
 ·rw[<- hl];simpa using h2
theorem T4{n b:Nat}{cs:List Value}{w:World}{t:TypeId}{K:List Value->Prop}(hb:bp w b cs t)(hn:n<=cs.length)(h:K (cs.take n)):yQ n ⟨b,0,none⟩ w K:=
 ⟨cs.take n,(by simp;omega),λi v hv=>(by
  rw[sP,Nat.zero_add,hb.cell]
  rw[List.getElem?_take]at hv
  split at hv
  ·exact hv
  ·cases hv),h⟩
structure Sl(w:World)(s:ag)(sz:Nat)(vs:List Value):Prop where
 len:vs.length=s.n*sz
 cap:s.n<=s.c
 pre:0<s.n->s.a.isSome=true
 cell:∀i v,vs[i]? = some v->w.cell? ((base s.a).add i)=some v
def off(S:List Nat)(s:ag):Prop:=0<s.n->∀a,s.a=some a->a.block∉S
theorem jQ(s:ag):off [] s:=λ_ _ _=>by simp
theorem Sl.mod{w:World}{s:ag}(h:Sl w s sz vs){S:List Nat}(hm:Mod S w w')(hn:off S s):Sl w' s sz vs:=by
 refine⟨h.len,h.cap,h.pre,λi v hv=>?_⟩
 have h1:=h.cell i v hv
 refine hm.cell h1 ?_
 rw[fS]
 have h0:0<s.n:=by
  rcases Nat.eq_zero_or_pos s.n with e|e
  ·have:=h.len;rw[e,Nat.zero_mul]at this
   have:=List.length_eq_zero_iff.1 this;rw[this]at hv;simp at hv
  ·exact e
 obtain⟨a,ha⟩:=Option.isSome_iff_exists.1 (h.pre h0)
 rw[ha];exact hn h0 a ha
theorem Sl.av{w:World}{s:ag}(h:Sl w s sz vs)(hm:Mod [] w w'):Sl w' s sz vs:=h.mod hm (jQ s)
theorem Sl.block{w:World}{s:ag}{sz:Nat}{vs:List Value}(h:Sl w s sz vs)(gQ:0<sz)(h0:0<s.n){a:Addr}(ha:s.a=some a):a.block<w.heap.size:=by
 have hl:0<vs.length:=by rw[h.len];exact Nat.mul_pos h0 gQ
 have h1:=h.cell 0 vs[0] (by simp[hl])
 have:=World.block_lt_of_cell? _ _ h1
 rw[fS,ha]at this
 exact this
theorem Sl.aim{w:World}{s:ag}(h:Sl w s sz vs)(gQ:0<sz){S:List Nat}(hS:∀b∈S,w.heap.size<=b):off S s:=λh0 a ha hb=>by
 have:=h.block gQ h0 ha
 have:=hS _ hb
 omega
theorem Sl.nil(w:World)(sz:Nat):Sl w ⟨none,0,0⟩ sz []:=⟨by simp,by simp,by simp,by simp⟩
def VV(w:World)(s:ag)(k:IntKind)(xs:List Int):Prop:=Sl w s 1 (xs.map (Value.int k))/\∀x∈xs,k.min<=x/\x<=k.max
def VW(P:Program)(t e:TypeId)(sz bytes:Nat):Bool:=
 (match P.underlying t with|some (.slice e')=>Nat.beq e' e|_=>false)&&
 (match P.info? e with|some i=>Nat.beq i.size sz&&Nat.beq i.bytes bytes&&(match i.zero with|some z=>Nat.beq z.cells.toList.length sz|none=>false)|none=>false)&&Nat.ble 1 sz
structure ew(P:Program)(t e:TypeId)(sz bytes:Nat):Prop where
 qp:P.underlying t=some (.slice e)
 pos:0<sz
 info:∃i z,P.info? e=some i/\i.zero=some z/\i.size=sz/\i.bytes=bytes/\z.cells.size=sz
theorem ew.of{t e:TypeId}{bytes:Nat}(h:VW P t e sz bytes=true):ew P t e sz bytes:=by
 unfold VW at h
 simp only[Bool.and_eq_true]at h
 obtain⟨⟨h1,h2⟩,h3⟩:=h
 refine⟨?_,Nat.le_of_ble_eq_true h3,?_⟩
 ·split at h1
  ·rename_i e' he;rw[he,beq_eq.1 h1]
  ·cases h1
 ·split at h2
  ·rename_i i hi
   simp only[Bool.and_eq_true,beq_eq]at h2
   obtain⟨⟨h4,h5⟩,h6⟩:=h2
   split at h6
   ·rename_i z hz;exact⟨i,z,hi,hz,h4,h5,by simpa using beq_eq.1 h6⟩
   ·cases h6
  ·cases h2
def Own(w:World)(lo:Nat)(e:TypeId)(sz:Nat)(s:ag)(vs:List Value):Prop:=w.ownsRow lo e sz s.v s.n vs
def ag.row(s:ag):List Nat:=match s.a with|some a=>[a.block]|none=>[]
theorem Own.sl{w:World}{e:TypeId}{s:ag}(h:Own w lo e sz s vs):Sl w s sz vs:=by
 obtain⟨a,n,c⟩:=s
 obtain⟨hl,h1|⟨g,cap,cur,h1,h2,h3,h4,h5,h6,h7⟩⟩:=h
 ·obtain⟨h1,h2⟩:=h1
  simp only[ag.v,Value.slice.injEq]at h1
  obtain⟨rfl,rfl,rfl⟩:=h1
  simp only[Nat.zero_mul]at hl
  have:=List.length_eq_zero_iff.1 hl
  subst this
  exact Sl.nil w sz
 ·simp only[ag.v,Value.slice.injEq]at h1
  obtain⟨rfl,-,rfl⟩:=h1
  refine⟨hl,h4,λ_=>rfl,λi v hv=>?_⟩
  show w.cell? (Addr.add ⟨g,0,none⟩ i)=some v
  rw[sP,Nat.zero_add]
  unfold World.cell?
  simp only[h3]
  rw[<- h7]at hv
  rw[List.getElem?_take]at hv
  split at hv
  ·simpa using hv
  ·cases hv
theorem Own.nil(w:World)(lo:Nat)(e:TypeId)(sz:Nat):Own w lo e sz ⟨none,0,0⟩ []:=World.ownsRow_nil w lo e sz
theorem Own.yb{w:World}{e:TypeId}{s:ag}(h:Own w lo e sz s vs):∀b∈s.row,lo<=b/\b<w.heap.size:=by
 intro b hb
 obtain⟨a,n,c⟩:=s
 unfold ag.row at hb
 cases a with
 |none=>cases hb
 |some a=>
  have iZ:b=a.block:=by simpa using hb
  have:=World.ownsRow.lt h a.block rfl
  rw[iZ];exact this
theorem ain{t ty e:TypeId}{bytes:Nat}{s x:ag}{us:List Value}{w:World}(bO:ew P t e sz bytes)(hs:Own w lo e sz s vs)(hx:Sl w x sz us)
  (h1:∀u∈us,dQ u=true) (hb:(s.n+x.n)*bytes<=140737488355328) (hm:s.n+x.n<=maxLen) (qo:lo<=w.heap.size) :
  ∃s':ag,∃w',(Builtin.append_ #[t,t] ty #[s.v,x.v]).run P w=.ok s'.v w'/\Own w' lo e sz s' (vs++us)/\Mod s.row w w'/\s'.n=s.n+x.n/\(∀b∈s'.row,b∈s.row\/w.heap.size<=b):=by
 obtain⟨i,z,hi,hz,gQ,nO,gG⟩:=bO.info
 have CU:∀u∈us,u.oneCell'=true:=λu hu=>by
  have:=h1 u hu
  cases u<;>first|rfl|cases this
 obtain⟨xa,xn,xc⟩:=x
 cases xa with
 |none=>
  have h0:xn=0:=by
   rcases Nat.eq_zero_or_pos xn with e|e
   ·exact e
   ·cases hx.pre e
  have h2:=hx.cap
  subst h0
  have hu:us=[]:=List.eq_nil_of_length_eq_zero (by simpa using hx.len)
  subst hu
  have hr:(Builtin.append_ #[t,t] ty #[s.v,.slice none 0 xc]).run P w=.ok s.v w:=by
   obtain⟨sa,sn,sc⟩:=s
   rcases hs.2 with ⟨hv,hn⟩|⟨g,cap,cur,hv,_,_,CV,_⟩
   ·simp only[ag.v,Value.slice.injEq]at hv
    obtain⟨rfl,rfl,rfl⟩:=hv
    simp[ag.v,Builtin.append_,run_underlying bO.qp,Go.sizeOf,Go.typeInfo,hi,Builtin.lenOf,Builtin.firstCells]
   ·simp only[ag.v,Value.slice.injEq]at hv
    obtain⟨rfl,-,rfl⟩:=hv
    simp[ag.v,Builtin.append_,run_underlying bO.qp,Go.sizeOf,Go.typeInfo,hi,Builtin.lenOf,Builtin.firstCells,CV,storeCells]
  exact⟨s,w,hr,by simpa using hs,Mod.refl _ _,by simp,λb hb=>.inl hb⟩
 |some xa=>
  obtain⟨sa,sn,sc⟩:=s
  have aT:us.length=xn*sz:=hx.len
  have nP:∀j u,us[j]? = some u->w.cell? (xa.add j)=some u:=hx.cell
  rcases hs.2 with ⟨hv,hn⟩|⟨g,cap,cur,hv,Ww,hg,CV,wR,fY,CA⟩
  ·simp only[ag.v,Value.slice.injEq]at hv
   obtain⟨rfl,rfl,rfl⟩:=hv
   have rW:vs=[]:=List.eq_nil_of_length_eq_zero (by simpa using hs.1)
   subst rW
   obtain⟨v',w',hr,ho,hg,hi⟩:=run_append_own (P:=P) w w.heap.size t ty e i z sz bytes bO.qp hi hz gQ nO gG bO.pos (.slice none 0 0) 0 [] (World.ownsRow_nil w _ e sz) xa xn xc us aT nP CU
    (by simpa using hm) (by simpa using hb) (Nat.le_refl _)
   have VX:Mod [] w w':=⟨hg.os,hg.tape,hg.output,hg.size,λk hk _=>hg.block k hk (by simp[Value.ownBlock])⟩
   simp only[Nat.zero_add]at ho
   rcases ho.2 with ⟨rfl,h0⟩|⟨g,cap,cur,rfl,h3,h4,h5⟩
   ·subst h0
    exact⟨⟨none,0,0⟩,w',hr,⟨ho.1,.inl ⟨rfl,rfl⟩⟩,VX.of_nil,rfl,by simp[ag.row]⟩
   ·exact⟨⟨some ⟨g,0,none⟩,xn,cap⟩,w',hr,⟨ho.1,.inr ⟨g,cap,cur,rfl,Nat.le_trans qo h3,h4,h5⟩⟩,VX.of_nil,by simp,λb hb=>by
     simp only[ag.row,List.mem_singleton]at hb;subst hb;exact .inr h3⟩
  ·simp only[ag.v,Value.slice.injEq]at hv
   obtain⟨rfl,-,rfl⟩:=hv
   have akM:∀ {w'},w.grownBy w' (some g)->Mod (ag.row ⟨some ⟨g,0,none⟩,sn,sc⟩) w w':=λhg=>by simpa[ag.row]using Mod.grown hg
   by_cases nC:sn+xn<=sc
   ·obtain⟨w',hr,ho,hg⟩:=run_append_fits (P:=P) w lo t ty e i sz bO.qp hi gQ g sn sc vs hs xa xn xc us aT nP CU nC
    exact⟨⟨some ⟨g,0,none⟩,sn+xn,sc⟩,w',hr,ho,akM hg,rfl,λb hb=>.inl hb⟩
   ·have holds:∀j u,vs[j]? = some u->w.cell? ((⟨g,0,none⟩:Addr).add j)=some u:=World.ownsRow.cells (g:=g) hs rfl
    subst gQ nO
    have yZ:sn+xn<=9223372036854775807:=by have h:sn+xn<=maxLen:=hm;simp only[maxLen]at h;omega
    have hr:=run_append_grow (P:=P) w t ty e i z bO.qp hi hz ⟨g,0,none⟩ sn sc vs hs.1 holds xa xn xc us aT nP (by omega) (by omega) (growslice_fits (by omega) hb)
    have tA:=grownCap_ge w (sn+xn) sc e
    have wR:grownCap w (sn+xn) sc e<=maxLen:=grownCap_le_maxLen w (sn+xn) sc e hm
    have hlen:(vs++us).length=(sn+xn)*i.size:=by rw[List.length_append,hs.1,aT,Nat.add_mul]
    refine⟨⟨some ⟨w.heap.size,0,none⟩,sn+xn,grownCap w (sn+xn) sc e⟩,_,hr,⟨hlen,.inr ⟨w.heap.size,_,_,rfl,qo,heap_alloc_new w.drew _,tA,wR,?_,?_⟩⟩,(Mod.drew _ w).trans (Mod.alloc _ w.drew _),rfl,?_⟩
    ·simp only[Array.size_append,List.size_toArray,size_zeroCells,gG,hs.1,aT,<- Nat.add_mul]
     congr 1
     omega
    ·simp only[Array.toList_append,List.append_assoc]
     rw[<- List.append_assoc,<- hlen]
     exact List.take_left
    ·intro b hb
     simp only[ag.row,List.mem_singleton]at hb
     exact .inr (by omega)
theorem aio{t ty e:TypeId}{bytes:Nat}{s x:ag}{us:List Value}{w:World}{K:ag->World->Prop}(bO:ew P t e sz bytes)(hs:Own w lo e sz s vs)(hx:Sl w x sz us)
  (h1:∀u∈us,dQ u=true) (hb:(s.n+x.n)*bytes<=140737488355328) (hm:s.n+x.n<=9223372036854775807) (qo:lo<=w.heap.size)
  (hk:∀s' w',Own w' lo e sz s' (vs++us)->Mod s.row w w'->s'.n=s.n+x.n->(∀b∈s'.row,b∈s.row\/w.heap.size<=b)->K s' w'):jc P [t,t] ty [s.v,x.v] w K:=by
 obtain⟨s',w',hr,h2,h3,h4,h5⟩:=ain (ty:=ty) bO hs hx h1 hb (by simp only[maxLen];omega) qo
 exact⟨_,w',hr,s',rfl,hk s' w' h2 h3 h4 h5⟩
end Go.Ev
end
section
set_option linter.unusedVariables false
set_option linter.unusedSimpArgs false
namespace Go.Ev
open Go Go.RowKit Go.ChangeShapes Go.WideShapes Go.ChangeAt
variable{H:Type}{enc:TypeId × Value->H}{P:Program}
theorem YY{W W':World}(hb:Below W.heap.size W W')(may:MemPlace->Prop):W.keptBut W' may:=by
 refine⟨hb.os,hb.output,λi hi=>?_⟩
 rw[hb.block i hi]
 cases W.heap[i]? with
 |none=>rfl
 |some o=>cases o<;>simp
def Ci(P:Program)(ts:List TypeId):Bool:=ts.all λt=>P.readableRec t&&decide (t<P.types.size)
theorem P8(hl:laidOutB P=true){W W':World}(hb:Below W.heap.size W W'):∀ {ts:List TypeId} {vs:List Value} {ds:List (DataW H)} {ps:List MemPlace},Ci P ts=true->
  DataW.TrodAll enc P W 0 (λ_=>true) true ts vs ds ps->DataW.TrodAll enc P W' 0 (λb=>decide (b<W.heap.size)) true ts vs ds ps
 |[],[],[],_,_,h=>h
 |t::ts,v::vs,d::ds,ps,ht,h=>by
  have bB:=DataW.TrodAll.lt h
  obtain⟨p,q,h1,h2,rfl⟩:=h
  simp only[Ci,List.all_cons,Bool.and_eq_true,decide_eq_true_eq]at ht
  exact⟨p,q,Below.trod hl ht.1.1 ht.1.2 h1 hb (λx hx=>bB x (List.mem_append_left _ hx)),P8 hl hb (by simpa[Ci]using ht.2) h2,rfl⟩
 |[],[],_::_,_,_,h=>h.elim
 |[],_::_,_,_,_,h=>by cases ‹List (DataW H)›<;>exact h.elim
 |_::_,[],_,_,_,h=>by cases ‹List (DataW H)›<;>exact h.elim
 |_::_,_::_,[],_,_,h=>h.elim
theorem S3{f:Func}{s:ChangeSpec}{apart fresh handsOn:Bool}{W W':World}{args:Array Value}{ds gs:List (DataW H)}{before:List MemPlace}{tb:TypeId}
  (hW:DataW.Whole enc P f.params.toList s.vars apart W args.toList ds gs before) (hb:Below W.heap.size W W') (hl:laidOutB P=true) (ht:Ci P f.params.toList=true) (hr:f.resultTypes=#[tb]) (aj5:P.underlying tb=some .bool)
  (hv:s.vars=[]) (hf:s.fn H ds={ results:=[.lit (.bool true)],args:=ds }):s.post enc P f apart fresh handsOn false W args (.bool true) W':=by
 have Fa:=hW
 obtain⟨p,q,h1,h2,h3,h4,h5⟩:=hW
 rw[hv]at h2
 obtain⟨rfl,rfl⟩:=trodVars_none h2
 refine⟨ds,[],before,[],p,[],Fa,?_,?_,?_,YY hb _,λh=>by cases h⟩
 ·rw[List.append_nil,hf,hr]
  exact trodAll_cons_mk (shut_bool aj5 _) trodAll_mk0
 ·rw[List.append_nil,hf]
  exact P8 hl hb ht h1
 ·rw[List.append_nil,hf,hv]
  rfl
end Go.Ev
end
section
set_option linter.unusedVariables false
set_option linter.unusedSimpArgs false
namespace Go.Proofs.YtgjoehgomjgckaaGreatDoor
open Go Go.Ev
@[reducible] noncomputable def Pr:Program:=Tryz.prog
abbrev Yt:FuncId:=6
abbrev Yg:FuncId:=7
abbrev aaJ:FuncId:=8
abbrev JT:FuncId:=9
abbrev P9:FuncId:=10
abbrev BG:FuncId:=11
abbrev YZ:FuncId:=12
abbrev Y0:FuncId:=13
abbrev KL:FuncId:=14
abbrev abV:FuncId:=16
abbrev Yu:FuncId:=17
abbrev Y1:FuncId:=18
abbrev Yv:FuncId:=19
abbrev ZY:FuncId:=20
abbrev YH:FuncId:=21
abbrev abW:FuncId:=22
abbrev Ka:FuncId:=23
abbrev ac2:FuncId:=24
abbrev Zj:FuncId:=25
abbrev Gb:FuncId:=26
abbrev JU:FuncId:=27
abbrev Pz:FuncId:=28
abbrev RB:FuncId:=29
abbrev YI:FuncId:=30
abbrev YJ:FuncId:=31
abbrev Q5:FuncId:=32
abbrev Q6:FuncId:=33
abbrev ac3:FuncId:=34
abbrev Gc:FuncId:=35
abbrev abX:FuncId:=36
abbrev abY:FuncId:=37
abbrev Zk:FuncId:=38
abbrev abZ:FuncId:=39
abbrev ab0:FuncId:=40
abbrev aeH:FuncId:=41
abbrev ac4:FuncId:=42
abbrev ac5:FuncId:=43
abbrev Pa:FuncId:=44
abbrev Y2:FuncId:=45
abbrev ac6:FuncId:=46
abbrev ZZ:FuncId:=47
abbrev ab1:FuncId:=48
abbrev ac7:FuncId:=49
abbrev af5:FuncId:=50
abbrev aaK:FuncId:=51
abbrev ab2:FuncId:=52
abbrev Pb:FuncId:=53
abbrev O0:FuncId:=54
abbrev Yw:FuncId:=55
abbrev Yx:FuncId:=56
abbrev Yy:FuncId:=57
abbrev Zl:FuncId:=58
abbrev YK:FuncId:=59
abbrev Yz:FuncId:=60
abbrev aeI:FuncId:=67
abbrev aaL:FuncId:=68
abbrev ab3:FuncId:=69
abbrev ab4:FuncId:=70
abbrev ab5:FuncId:=71
abbrev aeJ:FuncId:=72
abbrev XM:FuncId:=73
abbrev aaM:FuncId:=74
abbrev OR:FuncId:=75
abbrev XP:FuncId:=76
abbrev XQ:FuncId:=77
abbrev XS:FuncId:=78
abbrev XR:FuncId:=79
abbrev XO:FuncId:=80
abbrev aeK:FuncId:=81
abbrev aaN:FuncId:=82
abbrev aaO:FuncId:=83
abbrev Z0:FuncId:=84
abbrev aaP:FuncId:=85
abbrev ac8:FuncId:=86
abbrev ac9:FuncId:=87
abbrev aaQ:FuncId:=88
abbrev aaR:FuncId:=89
abbrev aaS:FuncId:=90
abbrev aaT:FuncId:=91
abbrev Z1:FuncId:=92
abbrev JF:FuncId:=93
abbrev YA:FuncId:=94
abbrev YL:FuncId:=95
abbrev Z2:FuncId:=96
abbrev aaU:FuncId:=97
abbrev aaV:FuncId:=98
abbrev ada:FuncId:=99
abbrev adb:FuncId:=100
abbrev ade:FuncId:=101
abbrev Kw:FuncId:=102
abbrev ahc:FuncId:=103
abbrev Jz:FuncId:=104
abbrev aaW:FuncId:=105
abbrev Z3:FuncId:=106
abbrev adf:FuncId:=107
abbrev Zm:FuncId:=108
abbrev Z4:FuncId:=109
abbrev Zn:FuncId:=110
abbrev aaX:FuncId:=111
abbrev aeL:FuncId:=112
abbrev aaY:FuncId:=113
abbrev adg:FuncId:=114
abbrev adh:FuncId:=115
abbrev Zo:FuncId:=116
abbrev ab6:FuncId:=117
abbrev Z5:FuncId:=118
abbrev aaZ:FuncId:=119
abbrev aeM:FuncId:=120
abbrev Zp:FuncId:=123
abbrev Zq:FuncId:=124
abbrev aa0:FuncId:=125
abbrev adi:FuncId:=126
abbrev af6:FuncId:=127
abbrev aeN:FuncId:=128
abbrev OO:FuncId:=129
abbrev adj:FuncId:=130
abbrev Q7:FuncId:=131
abbrev Z6:FuncId:=132
abbrev Z7:FuncId:=133
abbrev ab7:FuncId:=134
abbrev ab8:FuncId:=135
abbrev aa1:FuncId:=136
abbrev adk:FuncId:=137
abbrev Qa:FuncId:=138
abbrev adl:FuncId:=139
abbrev aa2:FuncId:=140
abbrev Zr:FuncId:=141
abbrev aa3:FuncId:=142
abbrev ab9:FuncId:=143
abbrev acd:FuncId:=144
abbrev aeO:FuncId:=145
abbrev ace:FuncId:=146
abbrev Zs:FuncId:=147
abbrev JB:FuncId:=148
abbrev Z8:FuncId:=150
abbrev JP:FuncId:=151
abbrev Bp:FuncId:=152
abbrev aa4:FuncId:=153
abbrev adm:FuncId:=154
abbrev Pk:FuncId:=155
abbrev Zt:FuncId:=156
abbrev acf:FuncId:=157
abbrev Gi:FuncId:=158
abbrev adn:FuncId:=159
abbrev Pm:FuncId:=160
abbrev PA:FuncId:=161
abbrev aeP:FuncId:=162
abbrev Z9:FuncId:=163
abbrev aeQ:FuncId:=164
abbrev aa5:FuncId:=165
abbrev O5:FuncId:=166
abbrev Qt:FuncId:=167
abbrev ado:FuncId:=168
abbrev XL:FuncId:=169
abbrev YM:FuncId:=170
abbrev ahd:FuncId:=171
abbrev aeR:FuncId:=172
abbrev adp:FuncId:=173
abbrev Zu:FuncId:=174
abbrev adq:FuncId:=175
abbrev ads:FuncId:=176
abbrev PB:FuncId:=177
abbrev Qb:FuncId:=178
abbrev Pn:FuncId:=179
abbrev X5:FuncId:=180
abbrev aeS:FuncId:=181
abbrev aa6:FuncId:=182
abbrev adt:FuncId:=183
abbrev Gr:FuncId:=184
abbrev adu:FuncId:=185
abbrev aa7:FuncId:=186
abbrev aeT:FuncId:=187
abbrev Zv:FuncId:=188
abbrev aeU:FuncId:=189
abbrev Zw:FuncId:=190
abbrev adv:FuncId:=191
abbrev XN:FuncId:=192
abbrev Zx:FuncId:=193
abbrev acg:FuncId:=194
abbrev adw:FuncId:=195
abbrev aa8:FuncId:=196
abbrev aeV:FuncId:=197
abbrev aa9:FuncId:=198
abbrev adx:FuncId:=199
abbrev aac:FuncId:=200
abbrev ady:FuncId:=201
abbrev aeW:FuncId:=202
abbrev adz:FuncId:=203
abbrev ahe:FuncId:=204
abbrev aeX:FuncId:=205
abbrev X0:FuncId:=206
abbrev adA:FuncId:=207
abbrev af7:FuncId:=208
abbrev Kx:FuncId:=209
abbrev RC:FuncId:=210
abbrev abb:FuncId:=211
abbrev aeY:FuncId:=212
abbrev adB:FuncId:=213
abbrev aeZ:FuncId:=214
abbrev ae0:FuncId:=215
abbrev ach:FuncId:=216
abbrev ae1:FuncId:=217
abbrev ae2:FuncId:=218
abbrev ae3:FuncId:=219
abbrev abd:FuncId:=220
abbrev aci:FuncId:=221
abbrev OX:FuncId:=222
abbrev OY:FuncId:=223
abbrev YN:FuncId:=225
abbrev acj:FuncId:=226
abbrev af8:FuncId:=227
abbrev adC:FuncId:=228
abbrev ae4:FuncId:=229
abbrev ae5:FuncId:=230
abbrev ae6:FuncId:=231
abbrev abe:FuncId:=232
abbrev ack:FuncId:=233
abbrev adD:FuncId:=234
abbrev adE:FuncId:=235
abbrev Zy:FuncId:=236
abbrev ae7:FuncId:=237
abbrev ae8:FuncId:=238
abbrev adF:FuncId:=239
abbrev Y3:FuncId:=240
abbrev ae9:FuncId:=241
abbrev acm:FuncId:=242
abbrev adG:FuncId:=243
abbrev afa:FuncId:=244
abbrev af9:FuncId:=245
abbrev OT:FuncId:=246
abbrev OS:FuncId:=247
abbrev Qc:FuncId:=248
abbrev RD:FuncId:=249
abbrev aad:FuncId:=250
abbrev adH:FuncId:=251
abbrev RE:FuncId:=252
abbrev X6:FuncId:=253
abbrev adI:FuncId:=254
abbrev acn:FuncId:=255
abbrev adJ:FuncId:=256
abbrev abf:FuncId:=257
abbrev adK:FuncId:=258
abbrev adL:FuncId:=259
abbrev adM:FuncId:=260
abbrev RF:FuncId:=261
abbrev Ya:FuncId:=263
abbrev Yb:FuncId:=264
abbrev afb:FuncId:=265
abbrev aco:FuncId:=266
abbrev adN:FuncId:=267
abbrev adO:FuncId:=268
abbrev abg:FuncId:=269
abbrev adP:FuncId:=270
abbrev adQ:FuncId:=271
abbrev abh:FuncId:=272
abbrev aga:FuncId:=273
abbrev aae:FuncId:=274
abbrev afc:FuncId:=275
abbrev agb:FuncId:=276
abbrev RG:FuncId:=277
abbrev Se:FuncId:=278
abbrev RH:FuncId:=279
abbrev Qu:FuncId:=280
abbrev F4:FuncId:=281
abbrev afd:FuncId:=282
abbrev Qv:FuncId:=283
abbrev agc:FuncId:=284
abbrev afe:FuncId:=285
abbrev acp:FuncId:=286
abbrev adR:FuncId:=287
abbrev Y4:FuncId:=288
abbrev aff:FuncId:=289
abbrev abi:FuncId:=290
abbrev Zz:FuncId:=291
abbrev adS:FuncId:=292
abbrev agd:FuncId:=293
abbrev X1:FuncId:=294
abbrev aaf:FuncId:=295
abbrev abj:FuncId:=296
abbrev acq:FuncId:=297
abbrev adT:FuncId:=298
abbrev acr:FuncId:=299
abbrev aag:FuncId:=300
abbrev adU:FuncId:=301
abbrev aU:TypeId:=3
abbrev p8:TypeId:=4
abbrev aE:TypeId:=5
abbrev BU:TypeId:=9
abbrev JC:TypeId:=22
abbrev jh:TypeId:=23
abbrev iu:TypeId:=25
abbrev pQ:TypeId:=27
abbrev PC:TypeId:=30
abbrev PD:TypeId:=31
abbrev Q8:TypeId:=32
abbrev Dr:TypeId:=33
abbrev aQ:TypeId:=35
abbrev BB:TypeId:=37
abbrev ct:TypeId:=39
abbrev aip:TypeId:=41
abbrev JK:TypeId:=51
abbrev aW:TypeId:=53
abbrev cR:TypeId:=55
abbrev dM:TypeId:=62
abbrev cc:TypeId:=65
abbrev zB:TypeId:=82
abbrev ry:TypeId:=85
abbrev ZA:TypeId:=87
abbrev Gs:TypeId:=89
abbrev cD:TypeId:=96
abbrev abk:TypeId:=114
abbrev jA:TypeId:=158
abbrev Yh:TypeId:=183
abbrev adV:TypeId:=218
abbrev age:TypeId:=238
abbrev DM:TypeId:=250
abbrev uc:TypeId:=263
abbrev ji:TypeId:=266
abbrev adW:TypeId:=276
abbrev xH:TypeId:=286
abbrev pT:TypeId:=296
abbrev dg:TypeId:=298
abbrev Po:TypeId:=312
abbrev DE:TypeId:=321
end Go.Proofs.YtgjoehgomjgckaaGreatDoor
end
section
set_option linter.unusedVariables false
set_option linter.unusedSimpArgs false
namespace Go.Proofs.YtgjoehgomjgckaaGreatDoor
open Go Go.Ev
set_option maxRecDepth 100000
set_option linter.unusedVariables false
theorem afg:(Pr.funcs.all λfn=>fn.name != "runtime.NumGoroutine")=true:=by kernel_rfl
theorem afh:Pr.follows .mixedOrders=true:=by kernel_rfl
theorem mN:Go.Ev.Good Pr where
 names:=λf fn h e=>by
  have:=Array.all_eq_true_iff_forall_mem.1 afg fn (Array.mem_of_getElem? h)
  simp[e]at this
 mixed:=afh
theorem oV{f:FuncId}{fn:Func}{args:List Value}{w:World}{R:Value->World->Prop}{V:Prop}(m:Go.Ev.Mode)(J L:Go.Ev.mj)(hf:Pr.funcs[f]? = some fn)(hl:Nat.ble args.length fn.ntmps=true)(e:CQ Pr m J L fn args w R=V)(h:V):Ok Pr f args w R:=L4 mN hf hl (e.mpr h)
abbrev S_a:ByteArray:=⟨#[97]⟩
abbrev CW:ByteArray:=⟨#[114]⟩
abbrev ahf:ByteArray:=⟨#[110,111,110,99,101,115]⟩
abbrev tY:ByteArray:=⟨#[0,1,2,2,3,3,3,3,4,4,4,4,4,4,4,4,5,5,5,5,5,5,5,5,5,5,5,5,5,5,5,5,6,6,6,6,6,6,6,6,6,6,6,6,6,6,6,6,6,6,6,6,6,6,6,6,6,6,6,6,6,6,6,6,7,7,7,7,7,7,7,7,7,7,7,7,7,7,7,7,7,7,7,7,7,7,7,7,7,7,7,7,7,7,7,7,7,7,7,7,7,7,7,7,7,7,7,7,7,7,7,7,7,7,7,7,7,7,7,7,7,7,7,7,7,7,7,7,8,8,8,8,8,8,8,8,8,8,8,8,8,8,8,8,8,8,8,8,8,8,8,8,8,8,8,8,8,8,8,8,8,8,8,8,8,8,8,8,8,8,8,8,8,8,8,8,8,8,8,8,8,8,8,8,8,8,8,8,8,8,8,8,8,8,8,8,8,8,8,8,8,8,8,8,8,8,8,8,8,8,8,8,8,8,8,8,8,8,8,8,8,8,8,8,8,8,8,8,8,8,8,8,8,8,8,8,8,8,8,8,8,8,8,8,8,8,8,8,8,8,8,8,8,8,8,8]⟩
@[reducible] def ajc(x0 x1:Int)(x2:ag):List Value:=[.int .i64 x0,.int .i64 x1,.slice x2.a x2.n x2.c]
def kM(a:Addr)(w:World)(K:Int->Int->Int->Int->Int->Int->Int->Int->Int->Int->Int->ByteArray->ag->ag->Prop):Prop:=
 au .i64 (Addr.add a 0) w λc0=>
 au .i64 (Addr.add a 1) w λc1=>
 au .i64 (Addr.add a 2) w λc2=>
 au .i64 (Addr.add a 3) w λc3=>
 au .i64 (Addr.add a 4) w λc4=>
 au .i64 (Addr.add a 5) w λc5=>
 au .i64 (Addr.add a 6) w λc6=>
 au .i64 (Addr.add a 7) w λc7=>
 au .i64 (Addr.add a 8) w λc8=>
 au .i64 (Addr.add a 9) w λc9=>
 au .i64 (Addr.add a 10) w λjY=>
 jX (Addr.add a 11) w λjZ=>
 az (Addr.add a 12) w λgX=>
 az (Addr.add a 13) w λgY=>
 K c0 c1 c2 c3 c4 c5 c6 c7 c8 c9 jY jZ gX gY
def GI(a:Addr)(c0:Int)(c1:Int)(c2:Int)(c3:Int)(c4:Int)(c5:Int)(c6:Int)(c7:Int)(c8:Int)(c9:Int)(jY:Int)(jZ:ByteArray)(gX:ag)(gY:ag)(w:World)(K:World->Prop):Prop:=
 st (Addr.add a 0) (.int .i64 c0) w λw=>
 st (Addr.add a 1) (.int .i64 c1) w λw=>
 st (Addr.add a 2) (.int .i64 c2) w λw=>
 st (Addr.add a 3) (.int .i64 c3) w λw=>
 st (Addr.add a 4) (.int .i64 c4) w λw=>
 st (Addr.add a 5) (.int .i64 c5) w λw=>
 st (Addr.add a 6) (.int .i64 c6) w λw=>
 st (Addr.add a 7) (.int .i64 c7) w λw=>
 st (Addr.add a 8) (.int .i64 c8) w λw=>
 st (Addr.add a 9) (.int .i64 c9) w λw=>
 st (Addr.add a 10) (.int .i64 jY) w λw=>
 st (Addr.add a 11) (.string jZ) w λw=>
 st (Addr.add a 12) (.slice gX.a gX.n gX.c) w λw=>
 st (Addr.add a 13) (.slice gY.a gY.n gY.c) w λw=>
 K w
def Kb(a:Addr)(w:World)(K:Int->Int->Int->Int->Int->Int->Int->Int->Int->Int->Int->ByteArray->ag->ag->ag->Bool->Prop):Prop:=
 au .i64 (Addr.add a 0) w λc0=>
 au .i64 (Addr.add a 1) w λc1=>
 au .i64 (Addr.add a 2) w λc2=>
 au .i64 (Addr.add a 3) w λc3=>
 au .i64 (Addr.add a 4) w λc4=>
 au .i64 (Addr.add a 5) w λc5=>
 au .i64 (Addr.add a 6) w λc6=>
 au .i64 (Addr.add a 7) w λc7=>
 au .i64 (Addr.add a 8) w λc8=>
 au .i64 (Addr.add a 9) w λc9=>
 au .i64 (Addr.add a 10) w λjY=>
 jX (Addr.add a 11) w λjZ=>
 az (Addr.add a 12) w λgX=>
 az (Addr.add a 13) w λgY=>
 az (Addr.add a 14) w λwS=>
 mV (Addr.add a 15) w λCX=>
 K c0 c1 c2 c3 c4 c5 c6 c7 c8 c9 jY jZ gX gY wS CX
def bC(a:Addr)(w:World)(K:Int->ag->ag->ag->ag->ag->Prop):Prop:=
 au .i64 (Addr.add a 0) w λc0=>
 az (Addr.add a 1) w λc1=>
 az (Addr.add a 2) w λc2=>
 az (Addr.add a 3) w λc3=>
 az (Addr.add a 4) w λc4=>
 az (Addr.add a 5) w λc5=>
 K c0 c1 c2 c3 c4 c5
def cF(a:Addr)(c0:Int)(c1:ag)(c2:ag)(c3:ag)(c4:ag)(c5:ag)(w:World)(K:World->Prop):Prop:=
 st (Addr.add a 0) (.int .i64 c0) w λw=>
 st (Addr.add a 1) (.slice c1.a c1.n c1.c) w λw=>
 st (Addr.add a 2) (.slice c2.a c2.n c2.c) w λw=>
 st (Addr.add a 3) (.slice c3.a c3.n c3.c) w λw=>
 st (Addr.add a 4) (.slice c4.a c4.n c4.c) w λw=>
 st (Addr.add a 5) (.slice c5.a c5.n c5.c) w λw=>
 K w
def xx(v:Value)(K:Int->ag->ag->ag->ag->ag->Prop):Prop:=
 nv v λr=>
 bM r λv0 r=>
 cY .i64 v0 λc0=>
 bM r λv1 r=>
 iU v1 λc1=>
 bM r λv2 r=>
 iU v2 λc2=>
 bM r λv3 r=>
 iU v3 λc3=>
 bM r λv4 r=>
 iU v4 λc4=>
 bM r λv5 r=>
 iU v5 λc5=>
 (r=[]/\K c0 c1 c2 c3 c4 c5)
def dO(a:Addr)(w:World)(K:Int->Int->ag->ag->Prop):Prop:=
 au .i64 (Addr.add a 0) w λc0=>
 au .i64 (Addr.add a 1) w λc1=>
 az (Addr.add a 2) w λc2=>
 az (Addr.add a 3) w λc3=>
 K c0 c1 c2 c3
def dm(a:Addr)(c0:Int)(c1:Int)(c2:ag)(c3:ag)(w:World)(K:World->Prop):Prop:=
 st (Addr.add a 0) (.int .i64 c0) w λw=>
 st (Addr.add a 1) (.int .i64 c1) w λw=>
 st (Addr.add a 2) (.slice c2.a c2.n c2.c) w λw=>
 st (Addr.add a 3) (.slice c3.a c3.n c3.c) w λw=>
 K w
def zx(v:Value)(K:Int->Int->ag->ag->Prop):Prop:=
 nv v λr=>
 bM r λv0 r=>
 cY .i64 v0 λc0=>
 bM r λv1 r=>
 cY .i64 v1 λc1=>
 bM r λv2 r=>
 iU v2 λc2=>
 bM r λv3 r=>
 iU v3 λc3=>
 (r=[]/\K c0 c1 c2 c3)
def bD(a:Addr)(w:World)(K:Int->Int->Int->ag->Prop):Prop:=
 au .i64 (Addr.add a 0) w λc0=>
 au .i64 (Addr.add a 1) w λc1=>
 au .i64 (Addr.add a 2) w λc2=>
 az (Addr.add a 3) w λc3=>
 K c0 c1 c2 c3
def cO(a:Addr)(c0:Int)(c1:Int)(c2:Int)(c3:ag)(w:World)(K:World->Prop):Prop:=
 st (Addr.add a 0) (.int .i64 c0) w λw=>
 st (Addr.add a 1) (.int .i64 c1) w λw=>
 st (Addr.add a 2) (.int .i64 c2) w λw=>
 st (Addr.add a 3) (.slice c3.a c3.n c3.c) w λw=>
 K w
def RI(v:Value)(K:Int->Int->Int->ag->Prop):Prop:=
 nv v λr=>
 bM r λv0 r=>
 cY .i64 v0 λc0=>
 bM r λv1 r=>
 cY .i64 v1 λc1=>
 bM r λv2 r=>
 cY .i64 v2 λc2=>
 bM r λv3 r=>
 iU v3 λc3=>
 (r=[]/\K c0 c1 c2 c3)
def nj(a:Addr)(w:World)(K:Int->Int->Int->ag->Prop):Prop:=
 au .i64 (Addr.add a 0) w λc0=>
 au .i64 (Addr.add a 1) w λc1=>
 au .i64 (Addr.add a 2) w λc2=>
 az (Addr.add a 3) w λc3=>
 K c0 c1 c2 c3
def gU(a:Addr)(c0:Int)(c1:Int)(c2:Int)(c3:ag)(w:World)(K:World->Prop):Prop:=
 st (Addr.add a 0) (.int .i64 c0) w λw=>
 st (Addr.add a 1) (.int .i64 c1) w λw=>
 st (Addr.add a 2) (.int .i64 c2) w λw=>
 st (Addr.add a 3) (.slice c3.a c3.n c3.c) w λw=>
 K w
def PE(v:Value)(K:Int->Int->Int->ag->Prop):Prop:=
 nv v λr=>
 bM r λv0 r=>
 cY .i64 v0 λc0=>
 bM r λv1 r=>
 cY .i64 v1 λc1=>
 bM r λv2 r=>
 cY .i64 v2 λc2=>
 bM r λv3 r=>
 iU v3 λc3=>
 (r=[]/\K c0 c1 c2 c3)
def Qd(a:Addr)(w:World)(K:Int->Int->ag->Int->Int->Prop):Prop:=
 au .i64 (Addr.add a 0) w λc0=>
 au .i64 (Addr.add a 1) w λc1=>
 az (Addr.add a 2) w λc2=>
 au .i64 (Addr.add a 3) w λc3=>
 au .u64 (Addr.add a 4) w λc4=>
 K c0 c1 c2 c3 c4
def xq(a:Addr)(c0:Int)(c1:Int)(c2:ag)(c3:Int)(c4:Int)(w:World)(K:World->Prop):Prop:=
 st (Addr.add a 0) (.int .i64 c0) w λw=>
 st (Addr.add a 1) (.int .i64 c1) w λw=>
 st (Addr.add a 2) (.slice c2.a c2.n c2.c) w λw=>
 st (Addr.add a 3) (.int .i64 c3) w λw=>
 st (Addr.add a 4) (.int .u64 c4) w λw=>
 K w
def lU(a:Addr)(w:World)(K:Int->Int->Int->Int->Int->Bool->Prop):Prop:=
 au .i64 (Addr.add a 0) w λc0=>
 au .i64 (Addr.add a 1) w λc1=>
 au .i64 (Addr.add a 2) w λc2=>
 au .i64 (Addr.add a 3) w λc3=>
 au .i64 (Addr.add a 4) w λc4=>
 mV (Addr.add a 5) w λc5=>
 K c0 c1 c2 c3 c4 c5
def pP(a:Addr)(c0:Int)(c1:Int)(c2:Int)(c3:Int)(c4:Int)(c5:Bool)(w:World)(K:World->Prop):Prop:=
 st (Addr.add a 0) (.int .i64 c0) w λw=>
 st (Addr.add a 1) (.int .i64 c1) w λw=>
 st (Addr.add a 2) (.int .i64 c2) w λw=>
 st (Addr.add a 3) (.int .i64 c3) w λw=>
 st (Addr.add a 4) (.int .i64 c4) w λw=>
 st (Addr.add a 5) (.bool c5) w λw=>
 K w
def Qw(v:Value)(K:Int->Int->Int->Int->Int->Bool->Prop):Prop:=
 nv v λr=>
 bM r λv0 r=>
 cY .i64 v0 λc0=>
 bM r λv1 r=>
 cY .i64 v1 λc1=>
 bM r λv2 r=>
 cY .i64 v2 λc2=>
 bM r λv3 r=>
 cY .i64 v3 λc3=>
 bM r λv4 r=>
 cY .i64 v4 λc4=>
 bM r λv5 r=>
 wK v5 λc5=>
 (r=[]/\K c0 c1 c2 c3 c4 c5)
def Qe(a:Addr)(w:World)(K:Int->Int->ByteArray->Prop):Prop:=
 au .i64 (Addr.add a 0) w λc0=>
 au .i64 (Addr.add a 1) w λc1=>
 jX (Addr.add a 2) w λc2=>
 K c0 c1 c2
def Br(a:Addr)(c0:Int)(c1:Int)(c2:ByteArray)(w:World)(K:World->Prop):Prop:=
 st (Addr.add a 0) (.int .i64 c0) w λw=>
 st (Addr.add a 1) (.int .i64 c1) w λw=>
 st (Addr.add a 2) (.string c2) w λw=>
 K w
def vB(a:Addr)(w:World)(K:Int->Int->Int->Int->Int->Int->Int->Int->Int->Prop):Prop:=
 au .i64 (Addr.add a 0) w λc0=>
 au .i64 (Addr.add a 1) w λc1=>
 au .i64 (Addr.add a 2) w λc2=>
 au .i64 (Addr.add a 3) w λc3=>
 au .i64 (Addr.add a 4) w λc4=>
 au .i64 (Addr.add a 5) w λc5=>
 au .i64 (Addr.add a 6) w λc6=>
 au .i64 (Addr.add a 7) w λc7=>
 au .i64 (Addr.add a 8) w λc8=>
 K c0 c1 c2 c3 c4 c5 c6 c7 c8
def xy(a:Addr)(c0:Int)(c1:Int)(c2:Int)(c3:Int)(c4:Int)(c5:Int)(c6:Int)(c7:Int)(c8:Int)(w:World)(K:World->Prop):Prop:=
 st (Addr.add a 0) (.int .i64 c0) w λw=>
 st (Addr.add a 1) (.int .i64 c1) w λw=>
 st (Addr.add a 2) (.int .i64 c2) w λw=>
 st (Addr.add a 3) (.int .i64 c3) w λw=>
 st (Addr.add a 4) (.int .i64 c4) w λw=>
 st (Addr.add a 5) (.int .i64 c5) w λw=>
 st (Addr.add a 6) (.int .i64 c6) w λw=>
 st (Addr.add a 7) (.int .i64 c7) w λw=>
 st (Addr.add a 8) (.int .i64 c8) w λw=>
 K w
def Kc(v:Value)(K:Int->Int->Int->Int->Int->Int->Int->Int->Int->Prop):Prop:=
 nv v λr=>
 bM r λv0 r=>
 cY .i64 v0 λc0=>
 bM r λv1 r=>
 cY .i64 v1 λc1=>
 bM r λv2 r=>
 cY .i64 v2 λc2=>
 bM r λv3 r=>
 cY .i64 v3 λc3=>
 bM r λv4 r=>
 cY .i64 v4 λc4=>
 bM r λv5 r=>
 cY .i64 v5 λc5=>
 bM r λv6 r=>
 cY .i64 v6 λc6=>
 bM r λv7 r=>
 cY .i64 v7 λc7=>
 bM r λv8 r=>
 cY .i64 v8 λc8=>
 (r=[]/\K c0 c1 c2 c3 c4 c5 c6 c7 c8)
def xI(a:Addr)(w:World)(K:Int->Int->Int->Int->Int->Int->Int->Int->Int->Prop):Prop:=
 au .i64 (Addr.add a 0) w λc0=>
 au .i64 (Addr.add a 1) w λc1=>
 au .i64 (Addr.add a 2) w λc2=>
 au .i64 (Addr.add a 3) w λc3=>
 au .i64 (Addr.add a 4) w λc4=>
 au .i64 (Addr.add a 5) w λc5=>
 au .i64 (Addr.add a 6) w λc6=>
 au .i64 (Addr.add a 7) w λc7=>
 au .i64 (Addr.add a 8) w λc8=>
 K c0 c1 c2 c3 c4 c5 c6 c7 c8
def sG(a:Addr)(c0:Int)(c1:Int)(c2:Int)(c3:Int)(c4:Int)(c5:Int)(c6:Int)(c7:Int)(c8:Int)(w:World)(K:World->Prop):Prop:=
 st (Addr.add a 0) (.int .i64 c0) w λw=>
 st (Addr.add a 1) (.int .i64 c1) w λw=>
 st (Addr.add a 2) (.int .i64 c2) w λw=>
 st (Addr.add a 3) (.int .i64 c3) w λw=>
 st (Addr.add a 4) (.int .i64 c4) w λw=>
 st (Addr.add a 5) (.int .i64 c5) w λw=>
 st (Addr.add a 6) (.int .i64 c6) w λw=>
 st (Addr.add a 7) (.int .i64 c7) w λw=>
 st (Addr.add a 8) (.int .i64 c8) w λw=>
 K w
def RJ(v:Value)(K:Int->Int->Int->Int->Int->Int->Int->Int->Int->Prop):Prop:=
 nv v λr=>
 bM r λv0 r=>
 cY .i64 v0 λc0=>
 bM r λv1 r=>
 cY .i64 v1 λc1=>
 bM r λv2 r=>
 cY .i64 v2 λc2=>
 bM r λv3 r=>
 cY .i64 v3 λc3=>
 bM r λv4 r=>
 cY .i64 v4 λc4=>
 bM r λv5 r=>
 cY .i64 v5 λc5=>
 bM r λv6 r=>
 cY .i64 v6 λc6=>
 bM r λv7 r=>
 cY .i64 v7 λc7=>
 bM r λv8 r=>
 cY .i64 v8 λc8=>
 (r=[]/\K c0 c1 c2 c3 c4 c5 c6 c7 c8)
def DF(a:Addr)(w:World)(K:ag->ag->ag->ag->Prop):Prop:=
 az (Addr.add a 0) w λc0=>
 az (Addr.add a 1) w λc1=>
 az (Addr.add a 2) w λc2=>
 az (Addr.add a 3) w λc3=>
 K c0 c1 c2 c3
def BH(a:Addr)(c0:ag)(c1:ag)(c2:ag)(c3:ag)(w:World)(K:World->Prop):Prop:=
 st (Addr.add a 0) (.slice c0.a c0.n c0.c) w λw=>
 st (Addr.add a 1) (.slice c1.a c1.n c1.c) w λw=>
 st (Addr.add a 2) (.slice c2.a c2.n c2.c) w λw=>
 st (Addr.add a 3) (.slice c3.a c3.n c3.c) w λw=>
 K w
def RK(v:Value)(K:ag->ag->ag->ag->Prop):Prop:=
 nv v λr=>
 bM r λv0 r=>
 iU v0 λc0=>
 bM r λv1 r=>
 iU v1 λc1=>
 bM r λv2 r=>
 iU v2 λc2=>
 bM r λv3 r=>
 iU v3 λc3=>
 (r=[]/\K c0 c1 c2 c3)
def ua(a:Addr)(w:World)(K:Int->Int->Int->Int->Int->Prop):Prop:=
 au .i64 (Addr.add a 0) w λc0=>
 au .i64 (Addr.add a 1) w λc1=>
 au .i64 (Addr.add a 2) w λc2=>
 au .i64 (Addr.add a 3) w λc3=>
 au .i64 (Addr.add a 4) w λc4=>
 K c0 c1 c2 c3 c4
def pU(a:Addr)(c0:Int)(c1:Int)(c2:Int)(c3:Int)(c4:Int)(w:World)(K:World->Prop):Prop:=
 st (Addr.add a 0) (.int .i64 c0) w λw=>
 st (Addr.add a 1) (.int .i64 c1) w λw=>
 st (Addr.add a 2) (.int .i64 c2) w λw=>
 st (Addr.add a 3) (.int .i64 c3) w λw=>
 st (Addr.add a 4) (.int .i64 c4) w λw=>
 K w
def KM(v:Value)(K:Int->Int->Int->Int->Int->Prop):Prop:=
 nv v λr=>
 bM r λv0 r=>
 cY .i64 v0 λc0=>
 bM r λv1 r=>
 cY .i64 v1 λc1=>
 bM r λv2 r=>
 cY .i64 v2 λc2=>
 bM r λv3 r=>
 cY .i64 v3 λc3=>
 bM r λv4 r=>
 cY .i64 v4 λc4=>
 (r=[]/\K c0 c1 c2 c3 c4)
def xB(a:Addr)(w:World)(K:Int->Int->Int->Int->Int->Prop):Prop:=
 au .i64 (Addr.add a 0) w λc0=>
 au .i64 (Addr.add a 1) w λc1=>
 au .i64 (Addr.add a 2) w λc2=>
 au .i64 (Addr.add a 3) w λc3=>
 au .i64 (Addr.add a 4) w λc4=>
 K c0 c1 c2 c3 c4
def sF(a:Addr)(c0:Int)(c1:Int)(c2:Int)(c3:Int)(c4:Int)(w:World)(K:World->Prop):Prop:=
 st (Addr.add a 0) (.int .i64 c0) w λw=>
 st (Addr.add a 1) (.int .i64 c1) w λw=>
 st (Addr.add a 2) (.int .i64 c2) w λw=>
 st (Addr.add a 3) (.int .i64 c3) w λw=>
 st (Addr.add a 4) (.int .i64 c4) w λw=>
 K w
def Ky(v:Value)(K:Int->Int->Int->Int->Int->Prop):Prop:=
 nv v λr=>
 bM r λv0 r=>
 cY .i64 v0 λc0=>
 bM r λv1 r=>
 cY .i64 v1 λc1=>
 bM r λv2 r=>
 cY .i64 v2 λc2=>
 bM r λv3 r=>
 cY .i64 v3 λc3=>
 bM r λv4 r=>
 cY .i64 v4 λc4=>
 (r=[]/\K c0 c1 c2 c3 c4)
variable{w:World}{R:Value->World->Prop} end Go.Proofs.YtgjoehgomjgckaaGreatDoor
end
