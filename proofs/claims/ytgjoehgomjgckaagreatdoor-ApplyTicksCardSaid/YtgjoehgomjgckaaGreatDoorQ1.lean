/- Texts of this claim, packed and shortened. -/
import Derived.Tactics
import Derived.Orders
import Derived.Below
import Derived.Laws.Entries
import Derived.Laws.Small
import Derived.Laws.Strings
import Derived.Laws.Slices
import Derived.Scope
import Derived.Control
import Derived.Laws.OwnMore
import Derived.Laws.MakeOwn
import Derived.WalkKit
import Derived.ProofKit
import Derived.OpenShut
import Derived.Carry
import Derived.ChangeOld
import Derived.Deep.DeepHandedRow
import Derived.Test.YtgjoehgomjgckaaGreatDoorProg
section
set_option linter.unusedVariables false
set_option linter.unusedSimpArgs false
namespace Go.Ev
open Go
structure Mode where
 nw:Bool
 dv:Bool
def aF (x:Int):Prop:=-9223372036854775808≤x∧x≤9223372036854775807
def lt {A:Type} (x:A) (K:A→Prop):Prop:=K x
structure ah where
 a:Option Addr
 n:Nat
 c:Nat
@[reducible] def ah.v (s:ah):Value:=.slice s.a s.n s.c
def aA (b:Bool) (A B:Prop):Prop:=Bool.rec B A b
def R7:IntKind→Bool | .i64=>true | _=>false
def ar (nw:Bool) (k:IntKind) (z:Int) (K:Int→Prop):Prop:=cond (nw && R7 k) (aF z∧K z) (K (k.wrap z))
def pos (y:Int) (A:Prop):Prop:=match y with | .ofNat (_+1)=>A | _=>0<y∧A
def gX (y:Int) (A:Prop):Prop:=match y with | .ofNat _=>A | _=>0≤y∧A
def shl (k:IntKind) (x y:Int):Int:=k.wrap (x * 2 ^ (min y.toNat k.bits))
def shr (k:IntKind) (x y:Int):Int:=x.fdiv (2 ^ (min y.toNat k.bits))
def iC (k:IntKind) (x y:Int):Int:=k.wrap (BitVec.ofInt k.bits x &&& BitVec.ofInt k.bits y).toNat
def sw (k:IntKind) (x y:Int):Int:=k.wrap (BitVec.ofInt k.bits x ||| BitVec.ofInt k.bits y).toNat
def oN (k:IntKind) (x y:Int):Int:=k.wrap (BitVec.ofInt k.bits x ^^^ BitVec.ofInt k.bits y).toNat
def vD (k:IntKind) (x y:Int):Int:=k.wrap (BitVec.ofInt k.bits x &&& ~~~ BitVec.ofInt k.bits y).toNat
def Jr (k:IntKind) (x:Int):Int:=oN k (if k.signed then -1 else k.max) x
def fm (v:Value) (K:Bool→Prop):Prop:=match v with | .nilIface=>K true | .iface _ _=>K false | _=>False
def BI (v:Value) (K:Bool→Prop):Prop:=match v with | .nilFunc=>K true | .func _ _ _=>K false | _=>False
def bB (p:Option Addr) (K:Addr→Prop):Prop:=match p with | some a=>K a | none=>False
def base (a:Option Addr):Addr:=a.getD ⟨0,0,none⟩
def idx (i:Int) (n:Nat) (A:Prop):Prop:=(0≤i∧i<(n:Int))∧A
def aQ (a:Option Addr) (i:Int) (n:Nat) (A:Prop):Prop:=(a.isSome=true∧0≤i∧i<(n:Int))∧A
def um (b:ByteArray) (i:Int):Int:=(b.data.toList.getD i.toNat 0).toNat
def atI (k:IntKind) (cs:List Value) (i:Int) (n:Nat) (K:Int→Prop):Prop:=idx i n (∃ z,cs[i.toNat]? = some (.int k z)∧K z)
def sub (a:Option Addr) (l m sz:Nat):Option Addr:=if m=l then a else a.map (·.add (l * sz))
def an (k:IntKind) (a:Addr) (w:World) (K:Int→Prop):Prop:=∃ n,w.cell? a=some (.int k n)∧K n
def mH (a:Addr) (w:World) (K:Bool→Prop):Prop:=∃ b,w.cell? a=some (.bool b)∧K b
def gp (a:Addr) (w:World) (K:ByteArray→Prop):Prop:=∃ b,w.cell? a=some (.string b)∧K b
def mo (a:Addr) (w:World) (K:Option Addr→Prop):Prop:=∃ p,w.cell? a=some (.pointer p)∧K p
def ax (a:Addr) (w:World) (K:ah→Prop):Prop:=∃ s:ah,w.cell? a=some (.slice s.a s.n s.c)∧K s
def ldV (a:Addr) (w:World) (K:Value→Prop):Prop:=∃ v,w.cell? a=some v∧K v
def rowAt (w:World) (a:Addr) (cs:List Value):Prop:=∀ i v,cs[i]? = some v→w.cell? (a.add i)=some v
def iF (n:Nat) (a:Addr) (w:World) (K:List Value→Prop):Prop:=∃ cs,cs.length=n∧rowAt w a cs∧K cs
def ey:Value→Bool | .agg _ | .tuple _=>false | _=>true
def aal (v:Value) (A:Prop):Prop:=match v with | .agg _ | .tuple _=>False | _=>A
def st (a:Addr) (v:Value) (w:World) (K:World→Prop):Prop:=(∃ u,w.cell? a=some u)∧w.frozen? a=false∧aal v (K (w.setCell a v))
def setRow:World→Addr→Nat→List Value→World
 | w,_,_,[]=>w
 | w,a,i,v :: r=>setRow (w.setCell (a.add i) v) a (i+1) r
def kT (n:Nat) (a:Addr) (cs:List Value) (w:World) (K:World→Prop):Prop:=
 cs.length=n∧(∀ i,i<n→(∃ u,w.cell? (a.add i)=some u)∧w.frozen? (a.add i)=false)∧(∀ v∈cs,ey v=true)∧K (setRow w a 0 cs)
def nw (t:TypeId) (cs:List Value) (w:World) (K:Addr→World→Prop):Prop:=K ⟨w.heap.size,0,none⟩ (w.alloc (.cells ⟨cs⟩ t))
def zc (P:Program) (t:TypeId):List Value:=match P.info? t with | some i=>(match i.zero with | some v=>v.cells.toList | none=>[]) | none=>[]
def jV (n:Nat) (zs:List Value):List Value:=(List.replicate n zs).flatten
def bytesOf (P:Program) (t:TypeId):Nat:=match P.info? t with | some i=>i.bytes | none=>0
def sizeOf (P:Program) (t:TypeId):Nat:=match P.info? t with | some i=>i.size | none=>0
def known (P:Program) (t:TypeId):Bool:=(P.info? t).isSome
def RJ (P:Program) (t:TypeId):Bool:=(P.underlying t).isSome
def tB (P:Program) (t:TypeId):Bool:=match P.info? t with | some i=>i.zero.isSome | none=>false
def IY (P:Program) (t:TypeId):Bool:=tB P t && Nat.beq (zc P t).length (sizeOf P t)
def j0 (P:Program) (t:TypeId) (l c:Int) (w:World) (K:ah→World→Prop):Prop:=
 (0≤l∧l≤c∧c≤9223372036854775807∧(bytesOf P t:Int) * c≤2 ^ 48)∧
  K ⟨some ⟨w.heap.size,0,none⟩,l.toNat,c.toNat⟩ (w.alloc (.cells ⟨jV c.toNat (zc P t)⟩ t))
def ER (P:Program) (s:Sem Value) (w:World) (K:Value→World→Prop):Prop:=∃ v w',s.run P w=.ok v w'∧K v w'
def ay (P:Program) (f:FuncId) (args:List Value) (w:World) (K:Value→World→Prop):Prop:=
 Calls P f ⟨args⟩ w fun e w'=>∃ v,e=.returned v∧K v w'
def jx (P:Program) (f:Nat):Bool:=match P.funcs[f]? with | some fn=>fn.body.isSome | none=>false
def lX (P:Program) (g:Value) (args:List Value) (w:World) (K:Value→World→Prop):Prop:=
 match g with | .func (.func f) first cap=>cond (jx P f) (ay P f (first.toList ++ args ++ cap.toList) w K) False | _=>False
inductive Sh where
 | int (k:IntKind) | bool | str | ptr | x6 | sl | val | arr
 | cells (l:List Sh) | JK (l:List Sh)
def aY (k:IntKind) (v:Value) (K:Int→Prop):Prop:=∃ n,v=.int k n∧K n
def aW (v:Value) (K:Bool→Prop):Prop:=∃ b,v=.bool b∧K b
def R8 (v:Value) (K:ByteArray→Prop):Prop:=∃ b,v=.string b∧K b
def CK (v:Value) (K:Option Addr→Prop):Prop:=∃ p,v=.pointer p∧K p
def aU (v:Value) (K:ah→Prop):Prop:=∃ s:ah,v=.slice s.a s.n s.c∧K s
def jX (v:Value) (K:List Value→Prop):Prop:=∃ cs,v=.agg ⟨cs⟩∧K cs
def aC (vs:List Value) (K:Value→List Value→Prop):Prop:=match vs with | []=>False | v :: r=>K v r
def R9:TypeDesc→Sh
 | .int k=>.int k | .bool=>.bool | .string=>.str | .pointer _=>.ptr | .slice _=>.sl | _=>.val
mutual
def SI (P:Program):Nat→TypeId→Sh
 | 0,_=>.val
 | d+1,t=>match P.underlying t with
  | some (.struct fs)=>.cells (leaves P d fs.toList)
  | some (.array _ _)=>.arr
  | some (.tuple ts)=>.JK (ZP P d ts.toList)
  | some u=>R9 u
  | none=>.val
def ZP (P:Program):Nat→List TypeId→List Sh
 | 0,_=>[]
 | _,[]=>[]
 | d+1,t :: r=>SI P d t :: ZP P d r
def leaves (P:Program):Nat→List Field→List Sh
 | 0,_=>[]
 | _,[]=>[]
 | d+1,f :: r=>(match P.underlying f.type with
  | some (.struct fs)=>leaves P d fs.toList
  | some (.array n e)=>(List.replicate n (leaves P d [⟨ "",e,0,false,"","",0⟩])).flatten
  | some u=>[R9 u]
  | none=>[.val]) ++ leaves P d r
end
def X0:Nat:=64
def IZ:Sh→Addr→World→(Value→Prop)→Prop
 | .int k,a,w,K=>an k a w fun n=>K (.int k n)
 | .bool,a,w,K=>mH a w fun b=>K (.bool b)
 | .str,a,w,K=>gp a w fun b=>K (.string b)
 | .ptr,a,w,K=>mo a w fun p=>K (.pointer p)
 | .sl,a,w,K=>ax a w fun s=>K (.slice s.a s.n s.c)
 | _,a,w,K=>ldV a w fun v=>K v
def IG:List Sh→Addr→Nat→World→(List Value→Prop)→Prop
 | [],_,_,_,K=>K []
 | s :: r,a,i,w,K=>IZ s (a.add i) w fun v=>IG r a (i+1) w fun vs=>K (v :: vs)
def xA:Sh→Value→(Value→Prop)→Prop
 | .int k,v,K=>aY k v fun n=>K (.int k n)
 | .bool,v,K=>aW v fun b=>K (.bool b)
 | .str,v,K=>R8 v fun b=>K (.string b)
 | .ptr,v,K=>CK v fun p=>K (.pointer p)
 | .sl,v,K=>aU v fun s=>K (.slice s.a s.n s.c)
 | .arr,v,K=>jX v fun cs=>K (.agg ⟨cs⟩)
 | _,v,K=>K v
def BA:List Sh→List Value→(List Value→Prop)→Prop
 | [],vs,K=>vs=[]∧K []
 | s :: r,vs,K=>aC vs fun v Aq=>xA s v fun v'=>BA r Aq fun Fo=>K (v' :: Fo)
def bw:Sh→Value→(Value→Prop)→Prop
 | .cells l,v,K=>jX v fun cs=>BA l cs fun x7=>K (.agg ⟨x7⟩)
 | .JK l,v,K=>bC v fun vs=>xu l vs fun Aq=>K (.tuple ⟨Aq⟩)
 | s,v,K=>xA s v K
where
 bC (v:Value) (K:List Value→Prop):Prop:=∃ cs,v=.tuple ⟨cs⟩∧K cs
 xu:List Sh→List Value→(List Value→Prop)→Prop
  | [],vs,K=>vs=[]∧K []
  | .cells l :: r,vs,K=>aC vs fun v Aq=>jX v fun cs=>BA l cs fun x7=>xu r Aq fun Fo=>K (.agg ⟨x7⟩ :: Fo)
  | s :: r,vs,K=>aC vs fun v Aq=>xA s v fun v'=>xu r Aq fun Fo=>K (v' :: Fo)
def II:Sh→(Value→Prop)→Prop
 | .int k,F=>∀ n:Int,F (.int k n)
 | .bool,F=>∀ b:Bool,F (.bool b)
 | .str,F=>∀ s:ByteArray,F (.string s)
 | .ptr,F=>∀ p:Option Addr,F (.pointer p)
 | .x6,F=>∀ a:Addr,F (.pointer (some a))
 | .sl,F=>∀ s:ah,F (.slice s.a s.n s.c)
 | .arr,F=>∀ cs:List Value,F (.agg ⟨cs⟩)
 | _,F=>∀ v:Value,F v
def QD:List Sh→(List Value→Prop)→Prop
 | [],F=>F []
 | s :: r,F=>II s fun v=>QD r fun vs=>F (v :: vs)
def Sj:Sh→(Value→Prop)→Prop
 | .cells l,F=>QD l fun vs=>F (.agg ⟨vs⟩)
 | s,F=>II s F
def cJ (P:Program) (ts:List TypeId) (ty:TypeId) (vs:List Value) (w:World) (K:ah→World→Prop):Prop:=ER P (Builtin.append_ ⟨ts⟩ ty ⟨vs⟩) w fun v w'=>aU v fun s=>K s w'
def an1 (P:Program) (ts:List TypeId) (ty:TypeId) (vs:List Value) (w:World) (K:Int→World→Prop):Prop:=ER P (Builtin.copy_ ⟨ts⟩ ty ⟨vs⟩) w fun v w'=>aY .i64 v fun n=>K n w'
def an2 (P:Program) (e:TypeId) (b:ByteArray) (w:World) (K:ah→World→Prop):Prop:=ER P (Conv.stringToBytes e b) w fun v w'=>aU v fun s=>K s w'
def Js (P:Program) (x:ah) (w:World) (K:ByteArray→World→Prop):Prop:=ER P (Conv.bytesToString (.slice x.a x.n x.c)) w fun v w'=>R8 v fun b=>K b w'
def X1 (P:Program) (a:Option Addr) (w:World) (K:World→Prop):Prop:=match a with | some a=>(∃ w',(markStringish a).run P w=.ok () w'∧K w') | none=>False
def FH (P:Program) (op:BinOp) (t:TypeId) (xs ys:List Value) (w:World) (K:Bool→World→Prop):Prop:=ER P (do eqGuard op t (.tmp 0) (.tmp 0) (.agg ⟨xs⟩) (.agg ⟨ys⟩); binOp op t (.agg ⟨xs⟩) (.agg ⟨ys⟩)) w fun v w'=>aW v fun b=>K b w'
abbrev Key:=List (Nat×Bool)
abbrev Fr:=List (Nat×Option Value)
structure St where
 fr:Fr
 cd:List (Nat×Key×Value)
 lt:List (Nat×Bool)
def look (t:Nat):Fr→Option Value
 | []=>none
 | (s,v) :: r=>cond (Nat.beq s t) v (look t r)
def dN (t:Nat):List (Nat×Key×Value)→Option (Key×Value)
 | []=>none
 | (s,e) :: r=>cond (Nat.beq s t) (some e) (dN t r)
def vv (t:Nat):List (Nat×Bool)→Option Bool
 | []=>none
 | (s,b) :: r=>cond (Nat.beq s t) (some b) (vv t r)
def zH (a b:Bool):Bool:=cond a b (cond b false true)
def iz (x:Nat×Bool):Key→Bool
 | []=>false
 | y :: r=>cond (Nat.beq x.1 y.1 && zH x.2 y.2) true (iz x r)
def mD (d:Nat):Key→Bool
 | []=>false
 | y :: r=>cond (Nat.beq d y.1) true (mD d r)
def within:Key→Key→Bool
 | [],_=>true
 | x :: r,K=>cond (iz x K) (within r K) false
def St.val (s:St) (K:Key):Operand→Option Value
 | .tmp t=>match dN t s.cd with
  | some (k,v)=>cond (within k K) (some v) none
  | none=>look t s.fr
 | .const v=>some v
 | .global g=>some (.pointer (some ⟨g,0,none⟩))
 | .func f=>some (.func (.func f) #[] #[])
def rL (d:Nat):List (Nat×Key×Value)→List (Nat×Key×Value)
 | []=>[]
 | (s,k,v) :: r=>cond (Nat.beq s d || mD d k) (rL d r) ((s,k,v) :: rL d r)
def B0 (d:Nat):List (Nat×Bool)→List (Nat×Bool)
 | []=>[]
 | (s,b) :: r=>cond (Nat.beq s d) (B0 d r) ((s,b) :: B0 d r)
def rU (d:Nat) (fr:Fr):List (Nat×Key×Value)→Fr
 | []=>fr
 | (s,k,_) :: r=>cond (mD d k) ((s,none) :: rU d fr r) (rU d fr r)
def St.put (s:St) (d:Option Nat) (v:Option Value):St:=match d with
 | none=>s
 | some d=>⟨(d,v) :: rU d s.fr s.cd,rL d s.cd,B0 d s.lt⟩
def St.nM (s:St) (d:Option Nat) (k:Key) (v:Value):St:=match d with
 | none=>s
 | some d=>cond (mD d k) (s.put (some d) none) ⟨(d,none) :: rU d s.fr s.cd,(d,k,v) :: rL d s.cd,B0 d s.lt⟩
def lU (g:Nat):Key→Key
 | []=>[]
 | y :: r=>cond (Nat.beq g y.1) (lU g r) (y :: lU g r)
def nh (g:Nat) (b:Bool):List (Nat×Key×Value)→List (Nat×Key×Value)
 | []=>[]
 | (s,k,v) :: r=>cond (iz (g,!b) k) (nh g b r) (cond (iz (g,b) k) (match lU g k with | []=>nh g b r | k'=>(s,k',v) :: nh g b r) ((s,k,v) :: nh g b r))
def nk (g:Nat) (b:Bool) (fr:Fr):List (Nat×Key×Value)→Fr
 | []=>fr
 | (s,k,v) :: r=>cond (iz (g,!b) k) ((s,some undef) :: nk g b fr r) (cond (iz (g,b) k) (match lU g k with | []=>(s,some v) :: nk g b fr r | _=>nk g b fr r) (nk g b fr r))
def uo (g:Nat):List (Nat×Key×Value)→List (Nat×Key×Value)
 | []=>[]
 | (s,k,v) :: r=>cond (Nat.beq s g) (uo g r) ((s,k,v) :: uo g r)
def St.settle (s:St) (g:Nat) (b:Bool):St:=⟨(g,some (.bool b)) :: nk g b s.fr s.cd,uo g (nh g b s.cd),(g,b) :: s.lt⟩
def Ez (op:BinOp) (k:IntKind) (x:Int) (k':IntKind) (y:Int):Option Value:=
 match op with
 | .add=>cond (decide (k=k')) (some (.int k (k.wrap (x+y)))) none
 | .sub=>cond (decide (k=k')) (some (.int k (k.wrap (x - y)))) none
 | .mul=>cond (decide (k=k')) (some (.int k (k.wrap (x * y)))) none
 | .rem=>cond (decide (k=k')) (match y with | .ofNat (_+1)=>some (.int k (x.tmod y)) | _=>none) none
 | .quo=>cond (decide (k=k')) (match y with | .ofNat (_+1)=>some (.int k (k.wrap (x.tdiv y))) | _=>none) none
 | .shl=>(match y with | .ofNat _=>some (.int k (shl k x y)) | _=>none)
 | .shr=>(match y with | .ofNat _=>some (.int k (shr k x y)) | _=>none)
 | .and=>cond (decide (k=k')) (some (.int k (iC k x y))) none
 | .or=>cond (decide (k=k')) (some (.int k (sw k x y))) none
 | .xor=>cond (decide (k=k')) (some (.int k (oN k x y))) none
 | .andNot=>cond (decide (k=k')) (some (.int k (vD k x y))) none
 | .eql=>cond (decide (k=k')) (some (.bool (decide (x=y)))) none
 | .neq=>cond (decide (k=k')) (some (.bool (!decide (x=y)))) none
 | .lss=>cond (decide (k=k')) (some (.bool (decide (x<y)))) none
 | .leq=>cond (decide (k=k')) (some (.bool (decide (x≤y)))) none
 | .gtr=>cond (decide (k=k')) (some (.bool (decide (y<x)))) none
 | .geq=>cond (decide (k=k')) (some (.bool (decide (y≤x)))) none
def BP (P:Program) (op:BinOp) (t:TypeId) (a b:Value):Option Value:=
 match a,b with
 | .int k x,.int k' y=>Ez op k x k' y
 | .bool x,.bool y=>(match P.underlying t,op with | some .bool,.eql=>some (.bool (x == y)) | some .bool,.neq=>some (.bool (!(x == y))) | _,_=>none)
 | .string x,.string y=>(match op with | .eql=>some (.bool (decide (x=y))) | .neq=>some (.bool (!decide (x=y))) | _=>none)
 | .slice p _ _,.slice none _ _=>(match P.underlying t,op with | some (.slice _),.eql=>some (.bool p.isNone) | some (.slice _),.neq=>some (.bool (!p.isNone)) | _,_=>none)
 | .pointer p,.pointer none=>(match P.underlying t,op with | some (.pointer _),.eql=>some (.bool p.isNone) | some (.pointer _),.neq=>some (.bool (!p.isNone)) | _,_=>none)
 | .map p,.map none=>(match P.underlying t,op with | some (.map _ _),.eql=>some (.bool p.isNone) | some (.map _ _),.neq=>some (.bool (!p.isNone)) | _,_=>none)
 | _,_=>none
def EA (off:Nat) (xs cells:List Value):List Value:=cells.take off ++ (xs ++ cells.drop (off+xs.length))
def B3 (place:Nat→Option (Nat×Nat)) (cells:List Value):List (Nat×Value)→Option (List Value)
 | []=>some cells
 | (i,v) :: rest=>match place i with
  | none=>none
  | some (off,size)=>cond (Nat.beq v.cells.toList.length size && Nat.ble (off+v.cells.toList.length) cells.length) (B3 place (EA off v.cells.toList cells) rest) none
def placesOf (P:Program):List Field→Option (List (Nat×Nat))
 | []=>some []
 | f :: r=>cond (known P f.type) (match placesOf P r with | some l=>some ((f.offset,sizeOf P f.type) :: l) | none=>none) none
def pN (ρ:Operand→Option Value):List Operand→Option (List Value)
 | []=>some []
 | x :: r=>match ρ x with | none=>none | some v=>match pN ρ r with | none=>none | some vs=>some (v :: vs)
def partsOf (ρ:Operand→Option Value):List (Nat×Operand)→Option (List (Nat×Value))
 | []=>some []
 | (i,x) :: r=>match ρ x with | none=>none | some v=>match partsOf ρ r with | none=>none | some vs=>some ((i,v) :: vs)
def tL (P:Program) (t:TypeId):Bool:=match P.underlying t with | some (.struct _) | some (.array _ _)=>true | _=>false
def RK (P:Program) (t:TypeId) (ps:List (Nat×Value)):Option Value:=
 match P.underlying t with
 | some (.struct fs)=>cond (tB P t) (match placesOf P fs.toList with | some pl=>(match B3 (fun i=>pl[i]?) (zc P t) ps with | some cs=>some (.agg ⟨cs⟩) | none=>none) | none=>none) none
 | some (.array _ e)=>cond (tB P t && known P e) (match B3 (fun i=>some (i * sizeOf P e,sizeOf P e)) (zc P t) ps with | some cs=>some (.agg ⟨cs⟩) | none=>none) none
 | _=>none
def RM (P:Program) (t:TypeId) (v:Value) (f:Nat):Option Value:=
 match v with
 | .agg cs=>(match P.underlying t with
  | some (.struct fs)=>(match fs.toList[f]? with
   | some fd=>cond (known P fd.type && RJ P fd.type) (cond (tL P fd.type) (some (.agg ⟨(cs.toList.drop fd.offset).take (sizeOf P fd.type)⟩)) (cs.toList[fd.offset]?)) none
   | none=>none)
  | _=>none)
 | _=>none
def nS (P:Program) (ρ:Operand→Option Value):Op→Option Value
 | .move x | .assign x=>ρ x
 | .binOp op t x y _=>(match ρ x,ρ y with | some a,some b=>BP P op t a b | _,_=>none)
 | .unOp op _ x=>(match op,ρ x with
  | .not,some (.bool b)=>some (.bool (!b))
  | .neg,some (.int k n)=>some (.int k (k.wrap (0 - n)))
  | .xor,some (.int k n)=>some (.int k (Jr k n))
  | _,_=>none)
 | .convert s d x=>(match P.underlying s,P.underlying d,ρ x with
  | some _,some (.int k),some (.int _ n)=>some (.int k (k.wrap n))
  | some .string,some .string,some (.string b)=>some (.string b)
  | _,_,_=>none)
 | .makeInterface t x=>(match P.underlying t with | some (.interface _)=>none | some _=>(ρ x).map (.iface t) | none=>none)
 | .makeFunc fn first cap=>(match pN ρ first.toList,pN ρ cap.toList with | some a,some b=>some (.func fn ⟨a⟩ ⟨b⟩) | _,_=>none)
 | .build t ps=>(match partsOf ρ ps.toList with | some vs=>RK P t vs | none=>none)
 | .field t x f=>(match ρ x with | some v=>RM P t v f | none=>none)
 | .extract x i=>(match ρ x with | some (.tuple vs)=>vs.toList[i]? | _=>none)
 | .fieldAddr t x f=>(match ρ x with
  | some (.pointer (some a))=>(match P.underlying t with
   | some (.struct fs)=>(match fs.toList[f]? with | some fd=>cond (Nat.beq (sizeOf P fd.type) 0 || !known P fd.type) none (some (.pointer (some (a.add fd.offset)))) | none=>none)
   | _=>none)
  | _=>none)
 | .call { callee:=.builtin .len,args,argTypes }=>(match pN ρ args.toList,argTypes.toList with
  | some [.slice _ n _],[t]=>(match P.underlying t with | some (.slice _)=>some (.int .i64 n) | _=>none)
  | some [.string s],[t]=>(match P.underlying t with | some .string=>some (.int .i64 s.size) | _=>none)
  | some [_],[t]=>(match P.underlying t with | some (.array n _)=>some (.int .i64 n) | _=>none)
  | _,_=>none)
 | .call { callee:=.builtin .cap,args,argTypes }=>(match pN ρ args.toList,argTypes.toList with
  | some [.slice _ _ c],[t]=>(match P.underlying t with | some (.slice _)=>some (.int .i64 c) | _=>none)
  | _,_=>none)
 | .call { callee:=.builtin .min,args,.. }=>(match pN ρ args.toList with
  | some (.int k x :: r)=>I0 k x r
  | _=>none)
 | .call { callee:=.builtin .max,args,.. }=>(match pN ρ args.toList with
  | some (.int k x :: r)=>I1 k x r
  | _=>none)
 | _=>none
where
 I0 (k:IntKind) (x:Int):List Value→Option Value
  | []=>some (.int k x)
  | .int _ y :: r=>I0 k (min x y) r
  | _=>none
 I1 (k:IntKind) (x:Int):List Value→Option Value
  | []=>some (.int k x)
  | .int _ y :: r=>I1 k (max x y) r
  | _=>none
def Sk (m:Mode) (op:BinOp) (k:IntKind) (x:Int) (k':IntKind) (y:Int) (K:Value→Prop):Prop:=
 match op with
 | .add=>cond (decide (k=k')) (ar m.nw k (x+y) fun z=>K (.int k z)) False
 | .sub=>cond (decide (k=k')) (ar m.nw k (x - y) fun z=>K (.int k z)) False
 | .mul=>cond (decide (k=k')) (ar m.nw k (x * y) fun z=>K (.int k z)) False
 | .quo=>cond (decide (k=k')) (pos y (cond m.dv ((0≤x∧x≤k.max)∧K (.int k (x / y))) (K (.int k (k.wrap (x.tdiv y)))))) False
 | .rem=>cond (decide (k=k')) (pos y (cond m.dv (0≤x∧K (.int k (x % y))) (K (.int k (x.tmod y))))) False
 | .shl=>gX y (K (.int k (shl k x y)))
 | .shr=>gX y (K (.int k (shr k x y)))
 | op=>match Ez op k x k' y with | some v=>K v | none=>False
def isC:Operand→Bool | .const _=>true | _=>false
def ES (P:Program) (m:Mode) (op:BinOp) (t:TypeId) (yc:Bool) (a b:Value) (w:World) (K:Value→World→Prop):Prop:=
 match b with
 | .nilIface=>(match op,P.underlying t with
  | .eql,some (.interface _)=>cond yc (fm a fun z=>K (.bool z) w) False
  | .neq,some (.interface _)=>cond yc (fm a fun z=>K (.bool (!z)) w) False
  | _,_=>False)
 | .nilFunc=>(match op,P.underlying t with
  | .eql,some (.func _ _ _)=>BI a fun z=>K (.bool z) w
  | .neq,some (.func _ _ _)=>BI a fun z=>K (.bool (!z)) w
  | _,_=>False)
 | .int k' y=>(match a with | .int k x=>Sk m op k x k' y fun v=>K v w | _=>False)
 | .agg ys=>(match a with | .agg xs=>(match P.underlying t with | some (.struct _)=>FH P op t xs.toList ys.toList w fun b w'=>K (.bool b) w' | _=>False) | _=>False)
 | .string y=>(match a,op with
  | .string x,.add=>(((x.size+y.size:Nat):Int)≤9223372036854775807)∧K (.string (x ++ y)) w
  | .string x,op=>(match BP P op t (.string x) (.string y) with | some v=>K v w | none=>False)
  | _,_=>False)
 | b=>match BP P op t a b with | some v=>K v w | none=>False
def BQ (ρ:Operand→Option Value):Option Operand→Option (Option Value)
 | none=>some none
 | some x=>match ρ x with | some v=>some (some v) | none=>none
def vQ (x:ah) (h:Int) (K:ah→Prop):Prop:=(0≤h∧h≤(x.c:Int))∧K ⟨x.a,h.toNat,x.c⟩
def jQ (sz:Nat) (x:ah) (l:Int) (K:ah→Prop):Prop:=(0≤l∧l≤(x.n:Int))∧K ⟨sub x.a l.toNat x.c sz,x.n - l.toNat,x.c - l.toNat⟩
def Jt (sz:Nat) (x:ah) (l h:Int) (K:ah→Prop):Prop:=(0≤l∧l≤h∧h≤(x.c:Int))∧K ⟨sub x.a l.toNat x.c sz,h.toNat - l.toNat,x.c - l.toNat⟩
def SJ (x:ah) (h m:Int) (K:ah→Prop):Prop:=(0≤h∧h≤m∧m≤(x.c:Int))∧K ⟨x.a,h.toNat,m.toNat⟩
def ZQ (sz:Nat) (x:ah) (l h m:Int) (K:ah→Prop):Prop:=(0≤l∧l≤h∧h≤m∧m≤(x.c:Int))∧K ⟨sub x.a l.toNat m.toNat sz,h.toNat - l.toNat,m.toNat - l.toNat⟩
def Ju (P:Program) (t:TypeId) (x:ah) (lo hi mx:Option Value) (K:ah→Prop):Prop:=
 match lo,hi,mx with
 | none,none,none=>K x
 | none,some (.int _ h),none=>vQ x h K
 | some (.int _ l),none,none=>jQ (sizeOf P t) x l K
 | some (.int _ l),some (.int _ h),none=>Jt (sizeOf P t) x l h K
 | none,some (.int _ h),some (.int _ m)=>SJ x h m K
 | some (.int _ l),some (.int _ h),some (.int _ m)=>ZQ (sizeOf P t) x l h m K
 | _,_,_=>False
def ZR (s:ByteArray) (lo hi:Option Value) (K:ByteArray→Prop):Prop:=
 match lo,hi with
 | none,none=>K s
 | none,some (.int _ h)=>(0≤h∧h≤(s.size:Int))∧K (s.extract 0 h.toNat)
 | some (.int _ l),none=>(0≤l∧l≤(s.size:Int))∧K (s.extract l.toNat s.size)
 | some (.int _ l),some (.int _ h)=>(0≤l∧l≤h∧h≤(s.size:Int))∧K (s.extract l.toNat h.toNat)
 | _,_=>False
def Cs (P:Program) (t:TypeId) (a:Addr) (w:World) (K:Value→Prop):Prop:=
 match P.underlying t with
 | some (.struct _)=>(match SI P X0 t with
  | .cells l=>cond (known P t && Nat.beq l.length (sizeOf P t)) (IG l a 0 w fun vs=>K (.agg ⟨vs⟩)) False
  | _=>False)
 | some (.array _ _)=>cond (known P t) (iF (sizeOf P t) a w fun cs=>K (.agg ⟨cs⟩)) False
 | some u=>cond (Nat.beq (sizeOf P t) 1) (IZ (R9 u) a w K) False
 | none=>False
def pL:List Value→Addr→Nat→World→(World→Prop)→Prop
 | [],_,_,w,K=>K w
 | v :: r,a,i,w,K=>st (a.add i) v w fun w'=>pL r a (i+1) w' K
def SL (P:Program) (t:TypeId) (a:Addr) (v:Value) (w:World) (K:World→Prop):Prop:=
 cond (known P t) (match P.underlying t with
 | some (.struct _)=>(match v with | .agg cs=>cond (Nat.beq cs.toList.length (sizeOf P t)) (pL cs.toList a 0 w K) False | _=>False)
 | some (.array _ _)=>(match v with | .agg cs=>kT (sizeOf P t) a cs.toList w K | _=>False)
 | some _=>cond (Nat.beq (sizeOf P t) 1) (st a v w K) False
 | none=>False) False
def ET (P:Program) (dst:Option Nat) (t:TypeId) (v:Value) (K:Value→Prop):Prop:=
 match dst with
 | none=>K v
 | some _=>match SI P X0 t with
  | .JK []=>K v
  | s=>bw s v K
def zO (P:Program) (m:Mode) (ρ:Operand→Option Value) (o:Oper) (w:World) (K:Value→World→Prop):Prop:=
 match o.op with
 | .binOp op t x y _=>(match ρ x,ρ y with | some a,some b=>ES P m op t (isC y) a b w K | _,_=>False)
 | .unOp .neg _ x=>(match ρ x with | some (.int k n)=>ar m.nw k (0 - n) fun z=>K (.int k z) w | _=>False)
 | .convert s d x=>(match P.underlying s,P.underlying d,ρ x with
  | some (.int _),some (.int k),some (.int _ n)=>ar m.nw k n fun z=>K (.int k z) w
  | some .string,some .string,some (.string b)=>K (.string b) w
  | some .string,some (.slice e),some (.string b)=>(match P.underlying e with | some (.int .u8)=>an2 P e b w fun s w'=>K (.slice s.a s.n s.c) w' | _=>False)
  | some (.slice _),some (.slice e),some (.slice a n c)=>(match P.underlying e with | some (.int .u8)=>cond (Nat.beq s d) (X1 P a w fun w'=>K (.slice a n c) w') False | _=>False)
  | some (.slice e),some .string,some (.slice a n c)=>(match P.underlying e with | some (.int .u8)=>Js P ⟨a,n,c⟩ w fun b w'=>K (.string b) w' | _=>False)
  | _,_,_=>False)
 | .index t x i=>(match ρ x,ρ i with
  | some (.string b),some (.int _ i)=>(match P.underlying t with | some .string=>idx i b.size (K (.int .u8 (um b i)) w) | _=>False)
  | some (.agg cs),some (.int _ i)=>(match P.underlying t with
   | some (.array n e)=>(match P.underlying e with
    | some (.int k)=>cond (Nat.beq (sizeOf P e) 1 && known P e) (atI k cs.toList i n fun z=>K (.int k z) w) False
    | _=>False)
   | _=>False)
  | _,_=>False)
 | .indexAddr t x i=>(match ρ x,ρ i with
  | some (.slice a n _),some (.int _ i)=>(match P.underlying t with | some (.slice e)=>cond (known P e) (aQ a i n (K (.pointer (some ((base a).add (i.toNat * sizeOf P e)))) w)) False | _=>False)
  | some (.pointer (some a)),some (.int _ i)=>(match P.underlying t with | some (.array n e)=>cond (known P e) (idx i n (K (.pointer (some (a.add (i.toNat * sizeOf P e)))) w)) False | _=>False)
  | _,_=>False)
 | .slice t x lo hi mx=>(match ρ x,BQ ρ lo,BQ ρ hi,BQ ρ mx with
  | some (.slice a n c),some lo,some hi,some mx=>(match P.underlying t with | some (.slice e)=>cond (known P e) (Ju P e ⟨a,n,c⟩ lo hi mx fun s=>K (.slice s.a s.n s.c) w) False | _=>False)
  | some (.pointer (some a)),some lo,some hi,some mx=>(match P.underlying t with | some (.array n e)=>cond (known P e) (Ju P e ⟨some a,n,n⟩ lo hi mx fun s=>K (.slice s.a s.n s.c) w) False | _=>False)
  | some (.string b),some lo,some hi,some none=>(match P.underlying t with | some .string=>ZR b lo hi fun s=>K (.string s) w | _=>False)
  | _,_,_,_=>False)
 | .nilCheck x=>(match ρ x with | some (.pointer p)=>bB p fun a=>K (.pointer (some a)) w | _=>False)
 | .load t x=>(match ρ x with | some (.pointer (some a))=>Cs P t a w fun v=>K v w | _=>False)
 | .store t x y=>(match ρ x,ρ y with | some (.pointer (some a)),some v=>SL P t a v w fun w'=>K undef w' | _,_=>False)
 | .alloc t=>cond (tB P t) (nw t (zc P t) w fun a w'=>K (.pointer (some a)) w') False
 | .box t x=>(match ρ x with | some v=>nw t v.cells.toList w fun a w'=>K (.pointer (some a)) w' | none=>False)
 | .buildSlice t n ps=>(match P.underlying t,partsOf ρ ps.toList with
  | some (.slice e),some vs=>(match B3 (fun i=>some (i * sizeOf P e,sizeOf P e)) (jV n (zc P e)) vs with
   | some cs=>cond (Nat.ble (n * sizeOf P e) 16777216 && IY P e) (nw e cs w fun a w'=>K (.slice (some a) n n) w') False
   | none=>False)
  | _,_=>False)
 | .makeSlice t l c=>(match P.underlying t,ρ l,ρ c with
  | some (.slice e),some (.int _ l),some (.int _ c)=>cond (IY P e) (j0 P e l c w fun s w'=>K (.slice s.a s.n s.c) w') False
  | _,_,_=>False)
 | .call c=>(match pN ρ c.args.toList with
  | none=>False
  | some vs=>match c.callee with
   | .builtin .append=>cJ P c.argTypes.toList o.type vs w fun s w'=>K (.slice s.a s.n s.c) w'
   | .builtin .copy=>an1 P c.argTypes.toList o.type vs w fun n w'=>K (.int .i64 n) w'
   | .value g=>(match ρ g with | some g=>lX P g vs w fun v w'=>ET P o.dst o.type v fun v'=>K v' w' | none=>False)
   | _=>match nS P ρ o.op with | some v=>K v w | none=>False)
 | op=>match nS P ρ op with | some v=>K v w | none=>False
def Y0 (c a b:Option Value) (K:Value→Prop):Prop:=
 match c with
 | some (.bool t)=>(match a,b with
  | some (.bool x),some (.bool y)=>K (.bool (cond t x y))
  | some v,none=>aA t (K v) False
  | none,some v=>aA t False (K v)
  | some u,some v=>aA t (K u) (K v)
  | none,none=>False)
 | _=>False
def Rt (c a b:Option Value):Option Value:=
 match c,a,b with
 | some (.bool t),some (.bool x),some (.bool y)=>some (.bool (cond t x y))
 | _,_,_=>none
def Sm (P:Program) (s:St) (k:Key) (o:Oper):Option Value:=
 match o.op with
 | .pick c a b=>Rt (s.val k c) (s.val ((match c with | .tmp t=>[(t,true)] | _=>[]) ++ k) a) (s.val ((match c with | .tmp t=>[(t,false)] | _=>[]) ++ k) b)
 | op=>nS P (s.val k) op
def early:Op→Bool
 | .move _ | .assign _ | .pick .. | .unOp .. | .makeInterface .. | .makeFunc .. | .build .. | .field .. | .extract .. | .fieldAddr ..=>true
 | .binOp op _ _ y _=>(match op,y with | _,.const .nilIface=>false | _,.const .nilFunc=>false | .quo,.const _=>true | .rem,.const _=>true | .shl,.const _=>true | .shr,.const _=>true | .quo,_=>false | .rem,_=>false | .shl,_=>false | .shr,_=>false | _,_=>true)
 | .call { callee:=.builtin .len,.. } | .call { callee:=.builtin .cap,.. } | .call { callee:=.builtin .min,.. } | .call { callee:=.builtin .max,.. }=>true
 | _=>false
def HX (s:St):Key→(St→Bool→Prop)→Prop
 | [],K=>K s true
 | (g,want) :: r,K=>HX s r fun s' on=>cond on
   (match s'.val [] (.tmp g) with
    | some (.bool b)=>aA b (K (s'.settle g true) want) (K (s'.settle g false) (!want))
    | some (.tuple _)=>K s' false
    | _=>False)
   (K s' false)
def tP (P:Program) (m:Mode) (o:Oper) (s:St) (w:World) (K:St→World→Prop):Prop:=
 match o.op with
 | .pick c a b=>Y0 (s.val [] c) (s.val (match c with | .tmp t=>[(t,true)] | _=>[]) a) (s.val (match c with | .tmp t=>[(t,false)] | _=>[]) b) fun v=>K (s.put o.dst (some v)) w
 | .move x | .assign x=>K (s.put o.dst (s.val [] x)) w
 | _=>zO P m (s.val []) o w fun v w'=>K (s.put o.dst (some v)) w'
def xB (P:Program) (m:Mode) (ops:Array Oper) (o:Oper) (s:St) (w:World) (K:St→World→Prop):Prop:=
 match o.guard with
 | none=>tP P m o s w K
 | some (j,want)=>match ((ops.toList[j]?).bind (·.dst)) with
  | none=>False
  | some g=>match vv g s.lt with
   | some b=>cond (zH b want) (tP P m o s w K) (K (s.put o.dst (some undef)) w)
   | none=>
    cond (early o.op)
     (match Sm P s ((g,want) :: (match dN g s.cd with | some (k,_)=>k | none=>[])) o with
      | some v=>K (s.nM o.dst ((g,want) :: (match dN g s.cd with | some (k,_)=>k | none=>[])) v) w
      | none=>HX s ((g,want) :: (match dN g s.cd with | some (k,_)=>k | none=>[])) fun s' on=>cond on (tP P m o s' w K) (K (s'.put o.dst (some undef)) w))
     (match o.op with
      | .load t x=>(match s.val ((g,want) :: (match dN g s.cd with | some (k,_)=>k | none=>[])) x with
       | some (.pointer (some a))=>Cs P t a w fun v=>K (s.nM o.dst ((g,want) :: (match dN g s.cd with | some (k,_)=>k | none=>[])) v) w
       | _=>False)
      | _=>HX s ((g,want) :: (match dN g s.cd with | some (k,_)=>k | none=>[])) fun s' on=>cond on (tP P m o s' w K) (K (s'.put o.dst (some undef)) w))
def vR (P:Program) (m:Mode) (ops:Array Oper):List Oper→St→World→(Fr→World→Prop)→Prop
 | [],s,w,K=>K s.fr w
 | o :: r,s,w,K=>xB P m ops o s w fun s' w'=>vR P m ops r s' w' K
def cls (P:Program):Op→Nat
 | .load ..=>1
 | .store .. | .alloc _ | .box .. | .buildSlice .. | .makeSlice ..=>2
 | .call { callee:=.builtin .len,.. } | .call { callee:=.builtin .cap,.. } | .call { callee:=.builtin .min,.. } | .call { callee:=.builtin .max,.. }=>0
 | .call _=>2
 | .convert s d _=>(match P.underlying s,P.underlying d with
  | some (.int _),some (.int _)=>0
  | some .string,some .string=>0
  | _,_=>2)
 | .binOp _ t _ _ _=>(match P.underlying t with | some (.struct _) | some (.array _ _)=>2 | _=>0)
 | .move _ | .assign _ | .pick .. | .unOp .. | .makeInterface .. | .makeFunc .. | .build .. | .field .. | .extract .. | .fieldAddr .. | .index .. | .indexAddr .. | .slice .. | .nilCheck _=>0
 | _=>2
def after (o:Oper):List Nat:=o.after.toList.filterMap fun e=>cond (Region.binds .any e) (some e.on) none
def kR (x:Nat):List Nat→Bool
 | []=>false
 | y :: r=>cond (Nat.beq x y) true (kR x r)
def lists:List Oper→List (List Nat)
 | []=>[]
 | o :: r=>after o :: lists r
def slotsOf (ops:List Oper) (o:Oper):List Nat:=
 (o.op.operands.toList.filterMap fun | .tmp t=>some t | _=>none) ++ (match o.guard with | some (g,_)=>((ops[g]?).bind (·.dst)).toList | none=>[])
def I2 (ops:List Oper) (x y:Oper):Bool:=
 (match x.dst with | some d=>cond (kR d (slotsOf ops y)) false (match y.dst with | some e=>!(Nat.beq d e) | none=>true) | none=>true) &&
 (match y.dst with | some d=>!(kR d (slotsOf ops x)) | none=>true)
def BB (ops:List Oper) (i:Nat) (o:Oper):Nat→List Oper→Bool
 | _,[]=>true
 | j,x :: r=>cond (Nat.beq i j || kR i (after x) || kR j (after o) || I2 ops o x) (BB ops i o (j+1) r) false
def zl (ops:List Oper):Nat→List Oper→Bool
 | _,[]=>true
 | i,o :: r=>cond (BB ops i o 0 ops) (zl ops (i+1) r) false
def zI:List Oper→Bool
 | []=>true
 | o :: r=>match o.op with | .select ..=>false | _=>zI r
def xC (acc:List Nat):List Nat→Nat
 | []=>0
 | j :: r=>Nat.lor (Nat.lor (2 ^ j) (acc.getD j 0)) (xC acc r)
def lY:List Oper→List Nat→List Nat
 | [],acc=>acc
 | o :: r,acc=>lY r (acc ++ [xC acc (after o)])
def kept (a:Addr) (n:Nat) (w w':World):Prop:=∀ j,j<n→w'.cell? (a.add j)=w.cell? (a.add j)
abbrev Rd:=List (Nat×Addr×Nat)
def BJ (mask:Nat) (w w':World) (A:Prop):Rd→Prop
 | []=>A
 | (i,a,n) :: r=>cond (Nat.testBit mask i) (BJ mask w w' A r) (kept a n w w'∧BJ mask w w' A r)
def B4 (dn:List Nat):List Nat→Bool
 | []=>true
 | j :: r=>cond (kR j dn) (B4 dn r) false
def lV (ops:List Oper) (dn:List Nat):Nat→List Oper→List (Nat×Oper)
 | _,[]=>[]
 | i,o :: r=>cond (kR i dn) (lV ops dn (i+1) r) (cond (B4 dn (after o)) ((i,o) :: lV ops dn (i+1) r) (lV ops dn (i+1) r))
def HH (P:Program):List (Nat×Oper)→Option (Nat×Oper)
 | []=>none
 | (i,o) :: r=>cond (Nat.ble (cls P o.op) 1) (some (i,o)) (HH P r)
def vl (P:Program) (ops:List Oper) (s:St) (i:Nat) (o:Oper):Rd:=
 match o.op with
 | .load t x=>(match s.val (match o.guard with
   | none=>[]
   | some (j,want)=>(match ((ops[j]?).bind (·.dst)) with
    | none=>[]
    | some g=>(match vv g s.lt with | some _=>[] | none=>(g,want) :: (match dN g s.cd with | some (k,_)=>k | none=>[])))) x with
  | some (.pointer (some a))=>[(i,a,sizeOf P t)]
  | _=>[])
 | _=>[]
def SM (A:Nat×Oper→Prop):List (Nat×Oper)→Prop
 | []=>True
 | x :: r=>match r with | []=>A x | y :: r'=>A x∧SM A (y :: r')
def Ar (P:Program) (m:Mode) (ops:Array Oper) (mk:List Nat):Nat→List Nat→Rd→St→World→(Fr→World→Prop)→Prop
 | 0,dn,_,s,w,K=>(match lV ops.toList dn 0 ops.toList with | []=>K s.fr w | _ :: _=>False)
 | n+1,dn,C,s,w,K=>
  match lV ops.toList dn 0 ops.toList with
  | []=>K s.fr w
  | x :: r=>match HH P (x :: r) with
   | some (i,o)=>xB P m ops o s w fun s' w'=>Ar P m ops mk n (i :: dn) (vl P ops.toList s i o ++ C) s' w' K
   | none=>SM (fun y=>xB P m ops y.2 s w fun s' w'=>BJ (mk.getD y.1 0) w w' (Ar P m ops mk n (y.1 :: dn) C s' w' K) C) (x :: r)
def As (P:Program) (m:Mode) (ops:Array Oper) (draw:Bool) (fr:Fr) (w:World) (K:Fr→World→Prop):Prop:=
 cond draw
  (cond (zI ops.toList && zl ops.toList 0 ops.toList) (Ar P m ops (lY ops.toList []) ops.toList.length [] [] ⟨fr,[],[]⟩ w.drew K) False)
  (vR P m ops ops.toList ⟨fr,[],[]⟩ w K)
abbrev q9:=List (Nat×List (Nat×Sh))
def xH (k:Option Nat):q9→Option (List (Nat×Sh))
 | []=>none
 | (i,l) :: r=>match k with | none=>none | some k=>cond (Nat.beq i k) (some l) (xH (some k) r)
def keyOf:Code→Option Nat
 | .region id _ _=>some id
 | .seq a b=>(match keyOf a with | some k=>some k | none=>keyOf b)
 | .cond _ a b=>(match keyOf a with | some k=>some k | none=>keyOf b)
 | .block _ a | .loop a | .scope a=>keyOf a
 | _=>none
def carry (fr:Fr):List (Nat×Sh)→Fr
 | []=>[]
 | (t,_) :: r=>(t,look t fr) :: carry fr r
def zJ:List (Nat×Sh)→(Fr→Prop)→Prop
 | [],F=>F []
 | (t,s) :: r,F=>Sj s fun v=>zJ r fun fr=>F ((t,some v) :: fr)
def pU:List Oper→List Nat
 | []=>[]
 | o :: r=>match o.dst with | some d=>d :: pU r | none=>pU r
def writes:Code→List Nat
 | .region _ ops _=>pU ops.toList
 | .seq a b | .cond _ a b=>writes a ++ writes b
 | .block _ a | .loop a | .scope a=>writes a
 | _=>[]
def xI:List (Nat×Sh)→List Nat→Bool
 | [],_=>true
 | (t,_) :: r,ws=>cond (kR t ws) (xI r ws) false
def strip (ws:List Nat):Fr→Fr
 | []=>[]
 | (t,v) :: r=>cond (kR t ws) (strip ws r) ((t,v) :: strip ws r)
def jL (mk:Fr) (rest:World→Prop) (first:(World→Prop)→Prop):Prop:=
 ∀ K:Fr→World→Prop,(∀ w,rest w→K mk w)→first (fun w=>K mk w)
def jz {A1:Type} (mk:A1→Fr) (rest:A1→World→Prop) (first:(A1→World→Prop)→Prop):Prop:=
 ∀ K:Fr→World→Prop,(∀ x1 w,rest x1 w→K (mk x1) w)→first (fun x1 w=>K (mk x1) w)
def cX {A1:Type} (mk:A1→Fr) (body:(A1→World→Prop)→A1→World→Prop) (y1:A1) (v:World):Prop:=
 ∀ X:Fr→World→Prop,(∀ x1 w,body (fun x1 w=>X (mk x1) w) x1 w→X (mk x1) w)→X (mk y1) v
def tQ {A1 A2:Type} (mk:A1→A2→Fr) (rest:A1→A2→World→Prop) (first:(A1→A2→World→Prop)→Prop):Prop:=
 ∀ K:Fr→World→Prop,(∀ x1 x2 w,rest x1 x2 w→K (mk x1 x2) w)→first (fun x1 x2 w=>K (mk x1 x2) w)
def iA {A1 A2:Type} (mk:A1→A2→Fr) (body:(A1→A2→World→Prop)→A1→A2→World→Prop) (y1:A1) (y2:A2) (v:World):Prop:=
 ∀ X:Fr→World→Prop,(∀ x1 x2 w,body (fun x1 x2 w=>X (mk x1 x2) w) x1 x2 w→X (mk x1 x2) w)→X (mk y1 y2) v
def ZS {A1 A2 A3:Type} (mk:A1→A2→A3→Fr) (rest:A1→A2→A3→World→Prop) (first:(A1→A2→A3→World→Prop)→Prop):Prop:=
 ∀ K:Fr→World→Prop,(∀ x1 x2 x3 w,rest x1 x2 x3 w→K (mk x1 x2 x3) w)→first (fun x1 x2 x3 w=>K (mk x1 x2 x3) w)
def B5 {A1 A2 A3:Type} (mk:A1→A2→A3→Fr) (body:(A1→A2→A3→World→Prop)→A1→A2→A3→World→Prop) (y1:A1) (y2:A2) (y3:A3) (v:World):Prop:=
 ∀ X:Fr→World→Prop,(∀ x1 x2 x3 w,body (fun x1 x2 x3 w=>X (mk x1 x2 x3) w) x1 x2 x3 w→X (mk x1 x2 x3) w)→X (mk y1 y2 y3) v
def Jj {A1 A2 A3 A4:Type} (mk:A1→A2→A3→A4→Fr) (body:(A1→A2→A3→A4→World→Prop)→A1→A2→A3→A4→World→Prop) (y1:A1) (y2:A2) (y3:A3) (y4:A4) (v:World):Prop:=
 ∀ X:Fr→World→Prop,(∀ x1 x2 x3 x4 w,body (fun x1 x2 x3 x4 w=>X (mk x1 x2 x3 x4) w) x1 x2 x3 x4 w→X (mk x1 x2 x3 x4) w)→X (mk y1 y2 y3 y4) v
abbrev pX:=Exit→Fr→World→Prop
def arz (id:Nat):Exit→Bool
 | .exit i=>Nat.beq i id
 | _=>false
def B6 (K:Fr→World→Prop) (Q:pX):pX:=fun e fr w=>match e with | .normal=>K fr w | e=>Q e fr w
def Ek (id:Nat) (Q:pX):pX:=fun e fr w=>match e with | .exit i=>cond (Nat.beq i id) (Q .normal fr w) (Q (.exit i) fr w) | e=>Q e fr w
def akI (Q:pX):pX:=fun e fr w=>match e with | .goto _=>False | e=>Q e fr w
def fM (P:Program) (m:Mode) (J L:q9):Code→Fr→World→pX→Prop
 | .skip,fr,w,Q=>Q .normal fr w
 | .region _ ops draw,fr,w,Q=>As P m ops draw fr w fun aO w'=>Q .normal aO w'
 | .seq a b,fr,w,Q=>(match xH (keyOf b) J with
  | none=>fM P m J L a fr w (B6 (fun aO w'=>fM P m J L b aO w' Q) Q)
  | some ls=>cond (xI ls (writes a)) (∀ K:Fr→World→Prop,(zJ ls fun aO=>∀ w',fM P m J L b (aO ++ strip (writes a) fr) w' Q→K aO w')→fM P m J L a fr w (B6 (fun aO w'=>K (carry aO ls) w') Q)) False)
 | .cond c a b,fr,w,Q=>(match (⟨fr,[],[]⟩:St).val [] c with
  | some (.bool t)=>aA t (fM P m J L a fr w Q) (fM P m J L b fr w Q)
  | _=>False)
 | .block id a,fr,w,Q=>fM P m J L a fr w (Ek id Q)
 | .loop a,fr,w,Q=>(match xH (keyOf a) L with
  | none=>False
  | some ls=>cond (xI ls (writes a)) (∀ X:Fr→World→Prop,(zJ ls fun aO=>∀ w',fM P m J L a (aO ++ strip (writes a) fr) w' (B6 (fun SN fA=>X (carry SN ls) fA) Q)→X aO w')→X (carry fr ls) w) False)
 | .exit id,fr,w,Q=>Q (.exit id) fr w
 | .ret,fr,w,Q=>Q .ret fr w
 | .label _,fr,w,Q=>Q .normal fr w
 | .scope a,fr,w,Q=>fM P m J L a fr w (akI Q)
 | _,_,_,_=>False
def vq (P:Program) (fr:Fr) (w:World):List ResultVar→(List Value→Prop)→Prop
 | [],K=>K []
 | .tmp t :: r,K=>(match look t fr with | some v=>vq P fr w r fun vs=>K (v :: vs) | none=>False)
 | .cell t ty :: r,K=>(match look t fr with | some (.pointer (some a))=>Cs P ty a w fun v=>vq P fr w r fun vs=>K (v :: vs) | _=>False)
def I3 (R:Value→World→Prop) (w:World):List Value→Prop
 | [v]=>R v w
 | vs=>R (.tuple ⟨vs⟩) w
def Sn (P:Program) (fn:Func) (R:Value→World→Prop):pX:=fun e fr w=>match e with
 | .normal | .ret=>vq P fr w fn.results.toList (I3 R w)
 | _=>False
def vF:Nat→List Value→Fr
 | _,[]=>[]
 | i,v :: r=>(i,some v) :: vF (i+1) r
def B7 (n:Nat):List Nat→Bool
 | []=>true
 | t :: r=>cond (Nat.blt t n) (B7 n r) false
@[irreducible] def aK (P:Program) (m:Mode) (J L:q9) (fn:Func) (args:List Value) (w:World) (R:Value→World→Prop):Prop:=
 match fn.body with
 | some c=>cond (B7 fn.ntmps (writes c)) (fM P m J L c (vF 0 args) w (Sn P fn R)) False
 | none=>False
def Ok (P:Program) (f:FuncId) (args:List Value) (w:World) (R:Value→World→Prop):Prop:=ay P f args w R
end Go.Ev
end
section
set_option linter.unusedVariables false
set_option linter.unusedSimpArgs false
namespace Go.Ev
open Go
theorem beq_eq {a b:Nat}:Nat.beq a b=true↔a=b:=⟨Nat.eq_of_beq_eq_true,fun h=>h ▸ Nat.beq_refl a⟩
theorem fI {a b:Nat}:Nat.beq a b=false↔a≠b:=by
 rw [← Bool.not_eq_true,Ne,not_congr beq_eq]
theorem BC {a b:Bool}:zH a b=true↔a=b:=by cases a <;> cases b <;> simp [zH]
abbrev slot (a:Act) (t:Nat):Value:=a.tmps.getD t undef
def Sat (a:Act) (K:Key):Prop:=∀ x∈K,slot a x.1=.bool x.2
theorem Sat.nil (a:Act):Sat a []:=fun _ h=>by cases h
theorem Sat.cons {a:Act} {x:Nat×Bool} {K:Key}:Sat a (x :: K)↔slot a x.1=.bool x.2∧Sat a K:=by
 simp [Sat]
theorem QE {x:Nat×Bool} {K:Key}:iz x K=true↔x∈K:=by
 induction K with
 | nil=>simp [iz]
 | cons y r ih=>
  obtain ⟨x1,x2⟩:=x; obtain ⟨y1,y2⟩:=y
  simp only [iz]
  cases h:(Nat.beq x1 y1 && zH x2 y2) with
  | true=>
   simp only [Bool.and_eq_true,beq_eq,BC] at h
   simp [h.1,h.2]
  | false=>
   have iN:(x1,x2)≠(y1,y2):=by
    intro e; cases e
    simp [BC.2] at h
   simp [ih,iN]
theorem aiw {d:Nat} {K:Key}:mD d K=true↔∃ x∈K,x.1=d:=by
 induction K with
 | nil=>simp [mD]
 | cons y r ih=>
  simp only [mD]
  cases h:Nat.beq d y.1 with
  | true=>simp [beq_eq.1 h]
  | false=>
   have:y.1≠d:=fun e=>(fI.1 h) e.symm
   simp [ih,this]
theorem ahQ {a:Act} {k K:Key} (h:within k K=true) (hs:Sat a K):Sat a k:=by
 induction k with
 | nil=>exact Sat.nil a
 | cons x r ih=>
  simp only [within] at h
  cases hx:iz x K with
  | true=>rw [hx] at h; exact Sat.cons.2 ⟨hs x (QE.1 hx),ih h⟩
  | false=>rw [hx] at h; cases h
class fN where
 ds:List Deferred
instance (priority:=low) arA:fN:=⟨[]⟩
structure Kn [fN] (n:Nat) (ws:List Nat) (f0:Fr) (s:St) (a:Act):Prop where
 size:a.tmps.size=n
 defers:a.defers=fN.ds
 fr:∀ t v,look t s.fr=some v→dN t s.cd=none→slot a t=v
 cd:∀ t k v,dN t s.cd=some (k,v)→(Sat a k→slot a t=v)∧(¬ Sat a k→slot a t=undef)
 nd:(s.cd.map (·.1)).Nodup
 lt:∀ g b,vv g s.lt=some b→slot a g=.bool b
 cn:∀ t kv,dN t s.cd=some kv→look t s.fr=none
 zP:∀ t,t∉ws→look t s.fr=look t f0
 ins:∀ x∈s.cd,x.1∈ws∧∀ y∈x.2.1,y.1∈ws
theorem Kn.val [fN] {n:Nat} {ws:List Nat} {f0:Fr} {s:St} {a:Act} (h:Kn n ws f0 s a) {K:Key} (hs:Sat a K) {x:Operand} {v:Value} (hv:s.val K x=some v):a.eval x=v:=by
 cases x with
 | tmp t=>
  simp only [St.val] at hv
  cases hc:dN t s.cd with
  | none=>rw [hc] at hv; exact h.fr t v hv hc
  | some kv=>
   obtain ⟨k,u⟩:=kv
   rw [hc] at hv
   simp only at hv
   cases hw:within k K with
   | true=>rw [hw] at hv; cases hv; exact (h.cd t k _ hc).1 (ahQ hw hs)
   | false=>rw [hw] at hv; cases hv
 | const u=>simp only [St.val] at hv; cases hv; rfl
 | global g=>simp only [St.val] at hv; cases hv; rfl
 | func f=>simp only [St.val] at hv; cases hv; rfl
theorem BD {a:Act} {d:Nat} {u:Value} (hd:d<a.tmps.size) (t:Nat):slot (a.put (some d) u) t=if t=d then u else slot a t:=by
 simp only [slot,Act.put]
 by_cases e:t=d
 ·subst e; simp [hd]
 ·simp [e,Array.getElem?_setIfInBounds_ne (Ne.symm e)]
theorem X2 {a:Act} {d:Nat} {u:Value} (hd:d<a.tmps.size) {k:Key} (hk:mD d k=false):Sat (a.put (some d) u) k↔Sat a k:=by
 have iN:∀ x∈k,x.1≠d:=fun x hx e=>by
  have:=aiw.2 ⟨x,hx,e⟩
  rw [hk] at this; cases this
 constructor
 ·intro h x hx
  have h1:=h x hx
  rwa [BD hd,if_neg (iN x hx)] at h1
 ·intro h x hx
  rw [BD hd,if_neg (iN x hx)]
  exact h x hx
theorem xk {t:Nat} {l:List (Nat×Key×Value)} {k:Key} {v:Value} (h:dN t l=some (k,v)):(t,k,v)∈l:=by
 induction l with
 | nil=>cases h
 | cons y r ih=>
  obtain ⟨s,e⟩:=y
  simp only [dN] at h
  cases hb:Nat.beq s t with
  | true=>rw [hb] at h; cases h; rw [beq_eq.1 hb]; exact List.mem_cons_self
  | false=>rw [hb] at h; exact List.mem_cons_of_mem _ (ih h)
theorem PB {t:Nat} {l:List (Nat×Key×Value)}:dN t l=none↔t∉l.map (·.1):=by
 induction l with
 | nil=>simp [dN]
 | cons y r ih=>
  obtain ⟨s,e⟩:=y
  simp only [dN]
  cases hb:Nat.beq s t with
  | true=>simp [beq_eq.1 hb]
  | false=>
   have:t≠s:=fun e=>(fI.1 hb) e.symm
   simp [ih,this]
theorem Hg {t:Nat} {l:List (Nat×Key×Value)} {k:Key} {v:Value} (nd:(l.map (·.1)).Nodup) (h:(t,k,v)∈l):dN t l=some (k,v):=by
 induction l with
 | nil=>cases h
 | cons y r ih=>
  obtain ⟨s,e⟩:=y
  simp only [List.map_cons,List.nodup_cons] at nd
  simp only [dN]
  cases h with
  | head=>simp
  | tail _ h=>
   have:s≠t:=fun e=>nd.1 (e ▸ List.mem_map.2 ⟨_,h,rfl⟩)
   rw [fI.2 this]; exact ih nd.2 h
theorem aix {d:Nat} {l:List (Nat×Key×Value)}:(rL d l).Sublist l:=by
 induction l with
 | nil=>exact List.Sublist.refl _
 | cons y r ih=>
  obtain ⟨s,k,v⟩:=y
  simp only [rL]
  cases (Nat.beq s d || mD d k) with
  | true=>exact ih.cons _
  | false=>exact ih.cons_cons _
theorem D9 {d t:Nat} {k:Key} {v:Value} {l:List (Nat×Key×Value)}:(t,k,v)∈rL d l↔(t,k,v)∈l∧t≠d∧mD d k=false:=by
 induction l with
 | nil=>simp [rL]
 | cons y r ih=>
  obtain ⟨s,k',v'⟩:=y
  simp only [rL]
  cases hb:(Nat.beq s d || mD d k') with
  | true=>
   simp only [cond_true,ih,List.mem_cons,Prod.mk.injEq]
   constructor
   ·rintro ⟨h1,h2⟩; exact ⟨.inr h1,h2⟩
   ·rintro ⟨h1 | h1,h2,h3⟩
    ·obtain ⟨rfl,rfl,rfl⟩:=h1
     simp [fI.2 h2,h3] at hb
    ·exact ⟨h1,h2,h3⟩
  | false=>
   simp only [Bool.or_eq_false_iff,fI] at hb
   simp only [cond_false,List.mem_cons,ih,Prod.mk.injEq]
   constructor
   ·rintro (⟨rfl,rfl,rfl⟩ | ⟨h1,h2⟩)
    ·exact ⟨.inl ⟨rfl,rfl,rfl⟩,hb⟩
    ·exact ⟨.inr h1,h2⟩
   ·rintro ⟨h1 | h1,h2⟩
    ·exact .inl h1
    ·exact .inr ⟨h1,h2⟩
theorem aiy {d t:Nat} {x:Value} {fr:Fr} {l:List (Nat×Key×Value)} (h:look t (rU d fr l)=some x) :
  look t fr=some x∧∀ k v,(t,k,v)∈l→mD d k=false:=by
 induction l with
 | nil=>exact ⟨h,fun _ _ h=>by cases h⟩
 | cons y r ih=>
  obtain ⟨s,k',v'⟩:=y
  simp only [rU] at h
  cases hk:mD d k' with
  | true=>
   rw [hk] at h
   simp only [cond_true,look] at h
   cases hs:Nat.beq s t with
   | true=>rw [hs] at h; cases h
   | false=>
    rw [hs] at h
    obtain ⟨h1,h2⟩:=ih h
    refine ⟨h1,fun k v hm=>?_⟩
    cases hm with
    | head=>exact absurd rfl (fI.1 hs)
    | tail _ hm=>exact h2 k v hm
  | false=>
   rw [hk] at h
   obtain ⟨h1,h2⟩:=ih h
   refine ⟨h1,fun k v hm=>?_⟩
   cases hm with
   | head=>exact hk
   | tail _ hm=>exact h2 k v hm
theorem ahg {d g:Nat} {b:Bool} {l:List (Nat×Bool)} (h:vv g (B0 d l)=some b):g≠d∧vv g l=some b:=by
 induction l with
 | nil=>cases h
 | cons y r ih=>
  obtain ⟨s,b'⟩:=y
  simp only [B0] at h
  cases hs:Nat.beq s d with
  | true=>
   rw [hs] at h
   obtain ⟨h1,h2⟩:=ih h
   refine ⟨h1,?_⟩
   have:s≠g:=fun e=>h1 (e ▸ beq_eq.1 hs)
   simp only [vv,fI.2 this,cond_false]; exact h2
  | false=>
   rw [hs] at h
   simp only [cond_false,vv] at h ⊢
   cases hg:Nat.beq s g with
   | true=>rw [hg] at h; exact ⟨fun e=>(fI.1 hs) ((beq_eq.1 hg).trans e),by simpa using h⟩
   | false=>rw [hg] at h; obtain ⟨h1,h2⟩:=ih h; exact ⟨h1,h2⟩
theorem Mp {d t:Nat} {fr:Fr} (h:look t fr=none):∀ l:List (Nat×Key×Value),look t (rU d fr l)=none
 | []=>h
 | (s,k,v) :: r=>by
  simp only [rU]
  cases mD d k with
  | true=>
   simp only [cond_true,look]
   cases Nat.beq s t with
   | true=>rfl
   | false=>exact Mp h r
  | false=>exact Mp h r
theorem Vh {d t:Nat} {fr:Fr} {ws:List Nat} (ht:t∉ws):∀ {l:List (Nat×Key×Value)},(∀ x∈l,x.1∈ws)→look t (rU d fr l)=look t fr
 | [],_=>rfl
 | (s,k,v) :: r,h=>by
  simp only [rU]
  have hr:=Vh (d:=d) (fr:=fr) ht (l:=r) (fun x hx=>h x (List.mem_cons_of_mem _ hx))
  cases mD d k with
  | true=>
   simp only [cond_true,look]
   rw [fI.2 (fun (e:s=t)=>ht (by rw [← e]; exact (h _ List.mem_cons_self)))]
   exact hr
  | false=>exact hr
theorem Kn.put [fN] {n:Nat} {ws:List Nat} {f0:Fr} {s:St} {a:Act} (h:Kn n ws f0 s a) {d:Option Nat} (hd:∀ t,d=some t→t<n∧t∈ws) {v:Option Value} {u:Value} (hv:∀ x,v=some x→u=x) :
  Kn n ws f0 (s.put d v) (a.put d u):=by
 cases d with
 | none=>exact h
 | some d=>
  have bZ:d<a.tmps.size:=h.size ▸ (hd d rfl).1
  have fB:d∈ws:=(hd d rfl).2
  refine ⟨by simp [Act.put,h.size],by simp [Act.put,h.defers],?_,?_,?_,?_,?_,?_,?_⟩
  ·intro t x hx hc
   simp only [St.put,look] at hx hc
   rw [BD bZ]
   by_cases e:t=d
   ·subst e
    rw [if_pos rfl]
    simp only [Nat.beq_refl,cond_true] at hx
    exact hv x hx
   ·rw [if_neg e]
    rw [fI.2 (Ne.symm e)] at hx
    obtain ⟨h1,h2⟩:=aiy hx
    refine h.fr t x h1 ?_
    cases hl:dN t s.cd with
    | none=>rfl
    | some kv=>
     obtain ⟨k,w⟩:=kv
     have hm:=xk hl
     have uq:(t,k,w)∈rL d s.cd:=D9.2 ⟨hm,e,h2 k w hm⟩
     have:=PB.1 hc
     exact absurd (List.mem_map.2 ⟨_,uq,rfl⟩) this
  ·intro t k w hl
   have hm:=xk hl
   obtain ⟨h1,h2,h3⟩:=D9.1 hm
   have h4:=h.cd t k w (Hg h.nd h1)
   rw [BD bZ,if_neg h2,X2 bZ h3]
   exact h4
  ·exact h.nd.sublist (aix.map _)
  ·intro g b hl
   obtain ⟨h1,h2⟩:=ahg hl
   rw [BD bZ,if_neg h1]
   exact h.lt g b h2
  ·intro t kv hl
   obtain ⟨k,w⟩:=kv
   have hm:=xk hl
   obtain ⟨h1,h2,h3⟩:=D9.1 hm
   simp only [St.put,look]
   rw [fI.2 (Ne.symm h2)]
   exact Mp (h.cn t _ (Hg h.nd h1)) _
  ·intro t ht
   simp only [St.put,look]
   rw [fI.2 (fun (e:d=t)=>ht (by rw [← e]; exact fB))]
   exact (Vh ht (fun x hx=>(h.ins x hx).1)).trans (h.zP t ht)
  ·intro x hx
   obtain ⟨t,k,v⟩:=x
   exact h.ins _ (D9.1 hx).1
theorem Kn.nM [fN] {n:Nat} {ws:List Nat} {f0:Fr} {s:St} {a:Act} (h:Kn n ws f0 s a) {d:Option Nat} (hd:∀ t,d=some t→t<n∧t∈ws) {k:Key} {v u:Value} (hkw:∀ y∈k,y.1∈ws) (h1:Sat a k→u=v) (h2:¬ Sat a k→u=undef) :
  Kn n ws f0 (s.nM d k v) (a.put d u):=by
 cases d with
 | none=>exact h
 | some d=>
  simp only [St.nM]
  cases hk:mD d k with
  | true=>exact h.put hd (fun x hx=>by cases hx)
  | false=>
   have bZ:d<a.tmps.size:=h.size ▸ (hd d rfl).1
   have fB:d∈ws:=(hd d rfl).2
   have hp:Kn n ws f0 (s.put (some d) none) (a.put (some d) u):=h.put hd (fun x hx=>by cases hx)
   have At:dN d (rL d s.cd)=none:=PB.2 fun hm=>by
    obtain ⟨⟨t,k',v'⟩,hm,rfl⟩:=List.mem_map.1 hm
    exact (D9.1 hm).2.1 rfl
   refine ⟨hp.size,hp.defers,?_,?_,?_,hp.lt,?_,?_,?_⟩
   ·intro t x hx hc
    simp only [cond_false,dN] at hc hx
    cases e:Nat.beq d t with
    | true=>rw [e] at hc; cases hc
    | false=>rw [e] at hc; exact hp.fr t x hx hc
   ·intro t k' w hl
    simp only [cond_false,dN] at hl
    cases e:Nat.beq d t with
    | true=>
     rw [e] at hl; cases hl
     rw [← beq_eq.1 e,X2 bZ hk,BD bZ,if_pos rfl]
     exact ⟨h1,h2⟩
    | false=>rw [e] at hl; exact hp.cd t k' w hl
   ·simp only [cond_false,List.map_cons,List.nodup_cons]
    exact ⟨PB.1 At,hp.nd⟩
   ·intro t kv hl
    simp only [cond_false,dN,look] at hl ⊢
    cases e:Nat.beq d t with
    | true=>rfl
    | false=>
     rw [e] at hl
     have:=hp.cn t kv hl
     simp only [St.put,look,e,cond_false] at this
     exact this
   ·intro t ht
    have:=hp.zP t ht
    simp only [St.put,look,cond_false] at this ⊢
    exact this
   ·intro x hx
    simp only [cond_false] at hx
    cases hx with
    | head=>exact ⟨fB,hkw⟩
    | tail _ hx=>exact hp.ins x hx
theorem OC {g:Nat} {x:Nat×Bool} {k:Key}:x∈lU g k↔x∈k∧x.1≠g:=by
 induction k with
 | nil=>simp [lU]
 | cons y r ih=>
  simp only [lU]
  cases h:Nat.beq g y.1 with
  | true=>
   have:=beq_eq.1 h
   simp only [cond_true,ih,List.mem_cons]
   constructor
   ·rintro ⟨h1,h2⟩; exact ⟨.inr h1,h2⟩
   ·rintro ⟨rfl | h1,h2⟩
    ·exact absurd this.symm h2
    ·exact ⟨h1,h2⟩
  | false=>
   have:=fI.1 h
   simp only [cond_false,ih,List.mem_cons]
   constructor
   ·rintro (rfl | ⟨h1,h2⟩)
    ·exact ⟨.inl rfl,Ne.symm this⟩
    ·exact ⟨.inr h1,h2⟩
   ·rintro ⟨rfl | h1,h2⟩
    ·exact .inl rfl
    ·exact .inr ⟨h1,h2⟩
theorem VH {a:Act} {g:Nat} {b:Bool} {k:Key} (hg:slot a g=.bool b) (dz:iz (g,!b) k=false):Sat a (lU g k)↔Sat a k:=by
 constructor
 ·intro h x hx
  by_cases e:x.1=g
  ·have hb:x.2=b:=by
    have hn:x.2≠!b:=fun h1=>by
     have:iz (g,!b) k=true:=QE.2 (by rw [← e,← h1]; exact hx)
     rw [dz] at this; cases this
    revert hn; cases x.2 <;> cases b <;> simp
   rw [e,hg,hb]
  ·exact h x (OC.2 ⟨hx,e⟩)
 ·intro h x hx; exact h x (OC.1 hx).1
theorem DQ {a:Act} {g:Nat} {b:Bool} (hg:slot a g=.bool b) {fr:Fr}:∀ {l:List (Nat×Key×Value)},(l.map (·.1)).Nodup→
  (∀ t k v,(t,k,v)∈l→(Sat a k→slot a t=v)∧(¬ Sat a k→slot a t=undef))→∀ {t:Nat} {x:Value},
  look t (nk g b fr l)=some x→dN t (nh g b l)=none→slot a t=x∨(look t fr=some x∧dN t l=none)
 | [],_,_,_,_,h,_=>.inr ⟨h,rfl⟩
 | (s,k,v) :: r,nd,hc,t,x,h,h0=>by
  simp only [List.map_cons,List.nodup_cons] at nd
  have hr:∀ t k v,(t,k,v)∈r→(Sat a k→slot a t=v)∧(¬ Sat a k→slot a t=undef):=fun t k v hm=>hc t k v (List.mem_cons_of_mem _ hm)
  have hs:=hc s k v List.mem_cons_self
  simp only [nk,nh] at h h0
  cases h1:iz (g,!b) k with
  | true=>
   rw [h1] at h h0
   simp only [cond_true,look] at h h0
   cases e:Nat.beq s t with
   | true=>
    rw [e] at h; cases h
    have hns:¬ Sat a k:=fun Jv=>by
     have:=Jv _ (QE.1 h1)
     rw [hg] at this; cases b <;> cases this
    exact .inl (beq_eq.1 e ▸ hs.2 hns)
   | false=>
    rw [e] at h
    rcases DQ hg nd.2 hr h h0 with h2 | ⟨h2,h3⟩
    ·exact .inl h2
    ·exact .inr ⟨h2,by simp only [dN,e,cond_false]; exact h3⟩
  | false=>
   rw [h1] at h h0
   simp only [cond_false] at h h0
   cases h2:iz (g,b) k with
   | true=>
    rw [h2] at h h0
    simp only [cond_true] at h h0
    cases h3:lU g k with
    | nil=>
     rw [h3] at h h0
     simp only [look] at h h0
     cases e:Nat.beq s t with
     | true=>
      rw [e] at h; cases h
      have:Sat a k:=(VH hg h1).1 (h3 ▸ Sat.nil a)
      exact .inl (beq_eq.1 e ▸ hs.1 this)
     | false=>
      rw [e] at h
      rcases DQ hg nd.2 hr h h0 with h4 | ⟨h4,h5⟩
      ·exact .inl h4
      ·exact .inr ⟨h4,by simp only [dN,e,cond_false]; exact h5⟩
    | cons y k'=>
     rw [h3] at h h0
     simp only [dN] at h h0
     cases e:Nat.beq s t with
     | true=>rw [e] at h0; cases h0
     | false=>
      rw [e] at h0
      rcases DQ hg nd.2 hr h h0 with h4 | ⟨h4,h5⟩
      ·exact .inl h4
      ·exact .inr ⟨h4,by simp only [dN,e,cond_false]; exact h5⟩
   | false=>
    rw [h2] at h h0
    simp only [cond_false,dN] at h h0
    cases e:Nat.beq s t with
    | true=>rw [e] at h0; cases h0
    | false=>
     rw [e] at h0
     rcases DQ hg nd.2 hr h h0 with h4 | ⟨h4,h5⟩
     ·exact .inl h4
     ·exact .inr ⟨h4,by simp only [dN,e,cond_false]; exact h5⟩
theorem wW {g:Nat} {b:Bool}:∀ {l:List (Nat×Key×Value)} {t:Nat} {k:Key} {v:Value},(t,k,v)∈nh g b l→
  ∃ k0,(t,k0,v)∈l∧iz (g,!b) k0=false∧(k=k0∨k=lU g k0)
 | [],_,_,_,h=>by cases h
 | (s,k1,v1) :: r,t,k,v,h=>by
  simp only [nh] at h
  have up:(∃ k0,(t,k0,v)∈r∧iz (g,!b) k0=false∧(k=k0∨k=lU g k0))→∃ k0,(t,k0,v)∈(s,k1,v1) :: r∧iz (g,!b) k0=false∧(k=k0∨k=lU g k0):=
   fun ⟨k0,h1,h2⟩=>⟨k0,List.mem_cons_of_mem _ h1,h2⟩
  cases h1:iz (g,!b) k1 with
  | true=>rw [h1] at h; exact up (wW h)
  | false=>
   rw [h1] at h
   simp only [cond_false] at h
   cases h2:iz (g,b) k1 with
   | true=>
    rw [h2] at h
    simp only [cond_true] at h
    cases h3:lU g k1 with
    | nil=>rw [h3] at h; exact up (wW h)
    | cons y k'=>
     rw [h3] at h
     cases h with
     | head=>exact ⟨k1,List.mem_cons_self,h1,.inr h3.symm⟩
     | tail _ h=>exact up (wW h)
   | false=>
    rw [h2] at h
    cases h with
    | head=>exact ⟨_,List.mem_cons_self,h1,.inl rfl⟩
    | tail _ h=>exact up (wW h)
theorem V3 {g:Nat} {b:Bool}:∀ {l:List (Nat×Key×Value)},((nh g b l).map (·.1)).Sublist (l.map (·.1))
 | []=>List.Sublist.refl _
 | (s,k1,v1) :: r=>by
  have ih:=V3 (g:=g) (b:=b) (l:=r)
  simp only [nh]
  cases iz (g,!b) k1 with
  | true=>exact ih.cons _
  | false=>
   simp only [cond_false]
   cases iz (g,b) k1 with
   | true=>
    simp only [cond_true]
    cases lU g k1 with
    | nil=>exact ih.cons _
    | cons y k'=>exact ih.cons_cons _
   | false=>exact ih.cons_cons _
theorem Ru {g t:Nat} {k:Key} {v:Value} {l:List (Nat×Key×Value)}:(t,k,v)∈uo g l↔(t,k,v)∈l∧t≠g:=by
 induction l with
 | nil=>simp [uo]
 | cons y r ih=>
  obtain ⟨s,k',v'⟩:=y
  simp only [uo]
  cases hb:Nat.beq s g with
  | true=>
   have:=beq_eq.1 hb
   simp only [cond_true,ih,List.mem_cons,Prod.mk.injEq]
   constructor
   ·rintro ⟨h1,h2⟩; exact ⟨.inr h1,h2⟩
   ·rintro ⟨h1 | h1,h2⟩
    ·exact absurd (h1.1.trans this) h2
    ·exact ⟨h1,h2⟩
  | false=>
   have:=fI.1 hb
   simp only [cond_false,List.mem_cons,ih,Prod.mk.injEq]
   constructor
   ·rintro (⟨rfl,rfl,rfl⟩ | ⟨h1,h2⟩)
    ·exact ⟨.inl ⟨rfl,rfl,rfl⟩,this⟩
    ·exact ⟨.inr h1,h2⟩
   ·rintro ⟨h1 | h1,h2⟩
    ·exact .inl h1
    ·exact .inr ⟨h1,h2⟩
theorem Rv {g:Nat}:∀ {l:List (Nat×Key×Value)},((uo g l).map (·.1)).Sublist (l.map (·.1))
 | []=>List.Sublist.refl _
 | (s,k,v) :: r=>by
  simp only [uo]
  cases Nat.beq s g with
  | true=>exact Rv.cons _
  | false=>exact Rv.cons_cons _
theorem HY {g t:Nat} (h:t≠g):∀ l:List (Nat×Key×Value),dN t (uo g l)=dN t l
 | []=>rfl
 | (s,k,v) :: r=>by
  simp only [uo,dN]
  cases hb:Nat.beq s g with
  | true=>
   have:s≠t:=fun e=>h (e ▸ beq_eq.1 hb)
   rw [fI.2 this]; exact HY h r
  | false=>
   simp only [cond_false,dN]
   rw [HY h r]
theorem UH {g t:Nat} {b:Bool} {fr:Fr} (h:look t fr=none):∀ {l:List (Nat×Key×Value)},(l.map (·.1)).Nodup→∀ {kv:Key×Value},dN t (nh g b l)=some kv→look t (nk g b fr l)=none
 | [],_,_,_=>h
 | (s,k,v) :: r,nd,kv,hl=>by
  simp only [List.map_cons,List.nodup_cons] at nd
  have off:dN t (nh g b r)=some kv→look t (nk g b fr r)=none:=fun hl=>UH h nd.2 hl
  have inr:dN t (nh g b r)=some kv→s≠t:=fun hl e=>by
   obtain ⟨k0,v0⟩:=kv
   obtain ⟨k1,hm,_⟩:=wW (xk hl)
   exact nd.1 (e ▸ List.mem_map.2 ⟨_,hm,rfl⟩)
  have aam:s=t→look t (nk g b fr r)=none:=fun e=>by
   subst e
   have:∀ {l:List (Nat×Key×Value)},s∉l.map (·.1)→look s (nk g b fr l)=none:=by
    intro l
    induction l with
    | nil=>intro _; exact h
    | cons y r ih=>
     obtain ⟨s',k',v'⟩:=y
     intro hn
     simp only [List.map_cons,List.mem_cons,not_or] at hn
     have hb:Nat.beq s' s=false:=fI.2 (fun e=>hn.1 e.symm)
     simp only [nk]
     cases iz (g,!b) k' with
     | true=>simp only [cond_true,look,hb,cond_false]; exact ih hn.2
     | false=>
      simp only [cond_false]
      cases iz (g,b) k' with
      | true=>
       simp only [cond_true]
       cases lU g k' with
       | nil=>simp only [look,hb,cond_false]; exact ih hn.2
       | cons _ _=>exact ih hn.2
      | false=>exact ih hn.2
   exact this nd.1
  simp only [nk,nh] at hl ⊢
  cases h1:iz (g,!b) k with
  | true=>
   rw [h1] at hl
   simp only [cond_true,look] at hl ⊢
   rw [fI.2 (inr hl)]; exact off hl
  | false=>
   rw [h1] at hl
   simp only [cond_false] at hl ⊢
   cases h2:iz (g,b) k with
   | true=>
    rw [h2] at hl
    simp only [cond_true] at hl ⊢
    cases h3:lU g k with
    | nil=>
     rw [h3] at hl
     simp only [look] at hl ⊢
     rw [fI.2 (inr hl)]; exact off hl
    | cons y k'=>
     rw [h3] at hl
     simp only [dN] at hl
     by_cases e:s=t
     ·exact aam e
     ·rw [fI.2 e] at hl; exact off hl
   | false=>
    rw [h2] at hl
    simp only [cond_false,dN] at hl ⊢
    by_cases e:s=t
    ·exact aam e
    ·rw [fI.2 e] at hl; exact off hl
theorem UN {g t:Nat} {b:Bool} {fr:Fr} {ws:List Nat} (ht:t∉ws):∀ {l:List (Nat×Key×Value)},(∀ x∈l,x.1∈ws)→look t (nk g b fr l)=look t fr
 | [],_=>rfl
 | (s,k,v) :: r,h=>by
  have hr:=UN (g:=g) (b:=b) (fr:=fr) ht (l:=r) (fun x hx=>h x (List.mem_cons_of_mem _ hx))
  have hs:Nat.beq s t=false:=fI.2 (fun (e:s=t)=>ht (by rw [← e]; exact (h _ List.mem_cons_self)))
  simp only [nk]
  cases iz (g,!b) k with
  | true=>simp only [cond_true,look,hs,cond_false]; exact hr
  | false=>
   simp only [cond_false]
   cases iz (g,b) k with
   | true=>
    simp only [cond_true]
    cases lU g k with
    | nil=>simp only [look,hs,cond_false]; exact hr
    | cons _ _=>exact hr
   | false=>exact hr
theorem Kn.settle [fN] {n:Nat} {ws:List Nat} {f0:Fr} {s:St} {a:Act} (h:Kn n ws f0 s a) {g:Nat} {b:Bool} (JL:g∈ws) (hg:slot a g=.bool b):Kn n ws f0 (s.settle g b) a:=by
 have hc:∀ t k v,(t,k,v)∈s.cd→(Sat a k→slot a t=v)∧(¬ Sat a k→slot a t=undef):=fun t k v hm=>h.cd t k v (Hg h.nd hm)
 have nd':((s.settle g b).cd.map (·.1)).Nodup:=h.nd.sublist (Rv.trans V3)
 refine ⟨h.size,h.defers,?_,?_,nd',?_,?_,?_,?_⟩
 ·intro t x hx h0
  simp only [St.settle,look] at hx h0
  cases e:Nat.beq g t with
  | true=>rw [e] at hx; cases hx; rw [← beq_eq.1 e]; exact hg
  | false=>
   rw [e] at hx
   rw [HY (Ne.symm (fI.1 e))] at h0
   rcases DQ hg h.nd hc hx h0 with h1 | ⟨h1,h2⟩
   ·exact h1
   ·exact h.fr t x h1 h2
 ·intro t k v hl
  obtain ⟨k0,hm,dz,hk⟩:=wW (Ru.1 (xk hl)).1
  have:=hc t k0 v hm
  rcases hk with rfl | rfl
  ·exact this
  ·rw [VH hg dz]; exact this
 ·intro g' b' hl
  simp only [St.settle,vv] at hl
  cases e:Nat.beq g g' with
  | true=>rw [e] at hl; cases hl; rw [← beq_eq.1 e]; exact hg
  | false=>rw [e] at hl; exact h.lt g' b' hl
 ·intro t kv hl
  obtain ⟨k,v⟩:=kv
  have iN:=(Ru.1 (xk hl)).2
  simp only [St.settle] at hl
  rw [HY iN] at hl
  simp only [St.settle,look]
  rw [fI.2 (Ne.symm iN)]
  obtain ⟨k0,hm,_⟩:=wW (xk hl)
  exact UH (h.cn t _ (Hg h.nd hm)) h.nd hl
 ·intro t ht
  simp only [St.settle,look]
  rw [fI.2 (fun (e:g=t)=>ht (by rw [← e]; exact JL))]
  exact (UN ht (fun x hx=>(h.ins x hx).1)).trans (h.zP t ht)
 ·intro x hx
  obtain ⟨t,k,v⟩:=x
  obtain ⟨k0,hm,_,hk⟩:=wW (Ru.1 hx).1
  have:=h.ins _ hm
  rcases hk with rfl | rfl
  ·exact this
  ·exact ⟨this.1,fun y hy=>this.2 y (OC.1 hy).1⟩
theorem Kn.out [fN] {n:Nat} {ws:List Nat} {f0:Fr} {s:St} {a:Act} (h:Kn n ws f0 s a):Kn n ws f0 ⟨s.fr,[],[]⟩ a:=
 ⟨h.size,h.defers,fun t v hl _=>h.fr t v hl (by
  cases hc:dN t s.cd with
  | none=>rfl
  | some kv=>have:=h.cn t kv hc; rw [hl] at this; cases this),fun t k v hl=>(by cases hl),List.nodup_nil,fun g b hl=>(by cases hl),fun t kv hl=>(by cases hl),h.zP,fun x hx=>(by cases hx)⟩
theorem DI [fN] {n:Nat} {ws:List Nat} {f0:Fr} {a:Act}:∀ (chain:Key) (s:St) (K:St→Bool→Prop),(∀ y∈chain,y.1∈ws)→Kn n ws f0 s a→HX s chain K→
  ∃ s' on,Kn n ws f0 s' a∧K s' on∧(on=true↔Sat a chain)
 | [],s,K,_,h,hk=>⟨s,true,h,hk,by simp [Sat.nil]⟩
 | (g,want) :: r,s,K,hw,h,hk=>by
  have JL:g∈ws:=hw _ List.mem_cons_self
  obtain ⟨s1,on,h1,lE,nT⟩:=DI r s _ (fun y hy=>hw y (List.mem_cons_of_mem _ hy)) h hk
  cases on with
  | false=>
   refine ⟨s1,false,h1,lE,?_⟩
   simp only [Bool.false_eq_true,false_iff] at nT ⊢
   exact fun hs=>nT (Sat.cons.1 hs).2
  | true=>
   have Jv:Sat a r:=nT.1 rfl
   simp only [cond_true] at lE
   cases hv:s1.val [] (.tmp g) with
   | none=>rw [hv] at lE; exact lE.elim
   | some v=>
    rw [hv] at lE
    cases v with
    | bool b=>
     have hg:slot a g=.bool b:=h1.val (Sat.nil a) hv
     simp only [aA] at lE
     cases b with
     | true=>
      refine ⟨_,want,h1.settle JL hg,lE,?_⟩
      rw [Sat.cons,hg]
      simp only [Value.bool.injEq]
      exact ⟨fun e=>⟨e.symm,Jv⟩,fun e=>e.1.symm⟩
     | false=>
      refine ⟨_,!want,h1.settle JL hg,lE,?_⟩
      rw [Sat.cons,hg]
      simp only [Value.bool.injEq,Bool.not_eq_true']
      exact ⟨fun e=>⟨e.symm,Jv⟩,fun e=>e.1.symm⟩
    | tuple ts=>
     have hg:slot a g=.tuple ts:=h1.val (Sat.nil a) hv
     refine ⟨s1,false,h1,lE,?_⟩
     rw [Sat.cons,hg]
     simp
    | _=>exact lE.elim
end Go.Ev
end
section
set_option linter.unusedVariables false
set_option linter.unusedSimpArgs false
namespace Go.Ev
open Go
variable {P:Program}
def rj (ρ:Operand→Option Value) (e:Operand→Value):Prop:=∀ x u,ρ x=some u→e x=u
theorem Wt {ρ:Operand→Option Value} {e:Operand→Value} (h:rj ρ e):∀ {l:List Operand} {vs:List Value},pN ρ l=some vs→l.map e=vs
 | [],_,hv=>by cases hv; rfl
 | x :: r,vs,hv=>by
  simp only [pN] at hv
  cases hx:ρ x with
  | none=>rw [hx] at hv; cases hv
  | some u=>
   rw [hx] at hv
   cases hr:pN ρ r with
   | none=>rw [hr] at hv; cases hv
   | some us=>rw [hr] at hv; cases hv; rw [List.map_cons,h x u hx,Wt h hr]
theorem V4 {ρ:Operand→Option Value} {e:Operand→Value} (h:rj ρ e):∀ {l:List (Nat×Operand)} {vs:List (Nat×Value)},partsOf ρ l=some vs→l.map (fun p=>(p.1,e p.2))=vs
 | [],_,hv=>by cases hv; rfl
 | (i,x) :: r,vs,hv=>by
  simp only [partsOf] at hv
  cases hx:ρ x with
  | none=>rw [hx] at hv; cases hv
  | some u=>
   rw [hx] at hv
   cases hr:partsOf ρ r with
   | none=>rw [hr] at hv; cases hv
   | some us=>rw [hr] at hv; cases hv; rw [List.map_cons,h x u hx,V4 h hr]
theorem tA {ρ:Operand→Option Value} {e:Operand→Value} (h:rj ρ e) {xs:Array Operand} {vs:List Value} (hv:pN ρ xs.toList=some vs):xs.map e=⟨vs⟩:=by
 apply Array.ext'
 simp [Wt h hv]
theorem Wu {ρ:Operand→Option Value} {e:Operand→Value} (h:rj ρ e) {xs:Array (Nat×Operand)} {vs:List (Nat×Value)} (hv:partsOf ρ xs.toList=some vs):xs.map (fun (i,x)=>(i,e x))=⟨vs⟩:=by
 apply Array.ext'
 simpa using V4 h hv
theorem ahR (x y:Int):(Op.intCmp .eql x y:Sem Value)=pure (.bool (decide (x=y))):=by
 simp only [Op.intCmp]; congr 2
theorem ahS (x y:Int):(Op.intCmp .neq x y:Sem Value)=pure (.bool (!decide (x=y))):=by
 simp only [Op.intCmp]; congr 2
theorem Wv {op:BinOp} {k k':IntKind} {x y:Int} {v:Value} (h:Ez op k x k' y=some v) (t:TypeId) (w:World) :
  (binOp op t (.int k x) (.int k' y)).run P w=.ok v w:=by
 cases op <;> simp only [Ez] at h
 case shl=>cases y with
  | ofNat n=>cases h; simp [binOp,Op.shift,shl,show ¬ ((n:Int)<0) by omega]
  | negSucc n=>cases h
 case shr=>cases y with
  | ofNat n=>cases h; simp [binOp,Op.shift,shr,show ¬ ((n:Int)<0) by omega]
  | negSucc n=>cases h
 case quo=>
  cases hk:decide (k=k') with
  | false=>rw [hk] at h; cases h
  | true=>
   have e:=of_decide_eq_true hk
   subst e
   rw [hk] at h
   simp only [cond_true] at h
   cases y with
   | ofNat n=>cases n with
    | zero=>cases h
    | succ n=>cases h; simp [binOp,Op.intDiv,show ¬ ((n:Int)+1=0) by omega]
   | negSucc n=>cases h
 case rem=>
  cases hk:decide (k=k') with
  | false=>rw [hk] at h; cases h
  | true=>
   have e:=of_decide_eq_true hk
   subst e
   rw [hk] at h
   simp only [cond_true] at h
   cases y with
   | ofNat n=>cases n with
    | zero=>cases h
    | succ n=>cases h; simp [binOp,Op.intDiv,show ¬ ((n:Int)+1=0) by omega]
   | negSucc n=>cases h
 all_goals
  cases hk:decide (k=k') with
  | false=>rw [hk] at h; cases h
  | true=>
   have e:=of_decide_eq_true hk
   subst e
   rw [hk] at h
   cases h
   first
    | (simp [binOp,Op.intArith,Op.intBits,iC,sw,oN,vD,ahR,ahS]; done)
    | (simp [binOp,Op.intCmp]; done)
theorem wO {op:BinOp} {t:TypeId} {x y:Operand} {a b:Value} (h1:a≠.nilIface) (h2:∀ cs,a≠.agg cs) (w:World):(eqGuard op t x y a b).run P w=.ok () w:=by
 unfold eqGuard
 cases op <;> first | rfl | (cases a <;> first | rfl | exact absurd rfl h1 | exact absurd rfl (h2 _))
theorem Y1 (a b:ByteArray):(a.toList == b.toList)=decide (a=b):=by
 rw [Bool.eq_iff_iff]
 simp only [beq_iff_eq,decide_eq_true_eq,ByteArray.toList_eq]
 exact ⟨fun h=>ByteArray.ext (Array.toList_inj.mp h),fun h=>h ▸ rfl⟩
theorem V5 {t:TypeId} (hu:P.underlying t=some .bool) (a b:Bool) (w:World):(Op.equal t (.bool a) (.bool b)).run P w=.ok (a == b) w:=by
 have h:∀ d:Nat,(Op.equalIn (d+1) t (.bool a) (.bool b)).run P w=.ok (a == b) w:=fun d=>by simp only [Op.equalIn,Sem.run_bind,run_underlying hu,Result.andThen_ok]; rfl
 exact h 9999
theorem VI {t e:TypeId} (hu:P.underlying t=some (.slice e)) (p:Option Addr) (n c n' c':Nat) (w:World):(Op.equal t (.slice p n c) (.slice none n' c')).run P w=.ok p.isNone w:=by
 have h:∀ d:Nat,(Op.equalIn (d+1) t (.slice p n c) (.slice none n' c')).run P w=.ok p.isNone w:=fun d=>by
  simp only [Op.equalIn,Sem.run_bind,run_underlying hu,Result.andThen_ok]; cases p <;> rfl
 exact h 9999
theorem Ww {t e:TypeId} (hu:P.underlying t=some (.pointer e)) (p:Option Addr) (w:World):(Op.equal t (.pointer p) (.pointer none)).run P w=.ok p.isNone w:=by
 have h:∀ d:Nat,(Op.equalIn (d+1) t (.pointer p) (.pointer none)).run P w=.ok p.isNone w:=fun d=>by
  simp only [Op.equalIn,Sem.run_bind,run_underlying hu,Result.andThen_ok]; cases p <;> rfl
 exact h 9999
theorem Wx {t k e:TypeId} (hu:P.underlying t=some (.map k e)) (p:Option Nat) (w:World):(Op.equal t (.map p) (.map none)).run P w=.ok p.isNone w:=by
 have h:∀ d:Nat,(Op.equalIn (d+1) t (.map p) (.map none)).run P w=.ok p.isNone w:=fun d=>by
  simp only [Op.equalIn,Sem.run_bind,run_underlying hu,Result.andThen_ok]; cases p <;> rfl
 exact h 9999
theorem Wy {op:BinOp} {t:TypeId} {a b v:Value} (h:BP P op t a b=some v) (x y:Operand) (w:World) :
  (do eqGuard op t x y a b; binOp op t a b:Sem Value).run P w=.ok v w:=by
 unfold BP at h
 split at h
 ·rw [Sem.run_bind,wO (by simp) (by simp)]; exact Wv h t w
 ·rename_i a b
  rw [Sem.run_bind,wO (by simp) (by simp),Result.andThen_ok]
  split at h
  ·rename_i hu; cases h; show (Op.equal _ _ _ >>= _).run P w=_; rw [Sem.run_bind,V5 hu]; rfl
  ·rename_i hu; cases h; show (Op.equal _ _ _ >>= _).run P w=_; rw [Sem.run_bind,V5 hu]; rfl
  ·cases h
 ·rename_i a b
  rw [Sem.run_bind,wO (by simp) (by simp),Result.andThen_ok]
  split at h
  ·cases h; simp only [binOp,Op.stringOp,Y1]; rfl
  ·cases h; simp only [binOp,Op.stringOp,Y1]; rfl
  ·cases h
 ·rename_i p n c n' c'
  rw [Sem.run_bind,wO (by simp) (by simp),Result.andThen_ok]
  split at h
  ·rename_i hu; cases h; show (Op.equal _ _ _ >>= _).run P w=_; rw [Sem.run_bind,VI hu]; rfl
  ·rename_i hu; cases h; show (Op.equal _ _ _ >>= _).run P w=_; rw [Sem.run_bind,VI hu]; rfl
  ·cases h
 ·rename_i p
  rw [Sem.run_bind,wO (by simp) (by simp),Result.andThen_ok]
  split at h
  ·rename_i hu; cases h; show (Op.equal _ _ _ >>= _).run P w=_; rw [Sem.run_bind,Ww hu]; rfl
  ·rename_i hu; cases h; show (Op.equal _ _ _ >>= _).run P w=_; rw [Sem.run_bind,Ww hu]; rfl
  ·cases h
 ·rename_i p
  rw [Sem.run_bind,wO (by simp) (by simp),Result.andThen_ok]
  split at h
  ·rename_i hu; cases h; show (Op.equal _ _ _ >>= _).run P w=_; rw [Sem.run_bind,Wx hu]; rfl
  ·rename_i hu; cases h; show (Op.equal _ _ _ >>= _).run P w=_; rw [Sem.run_bind,Wx hu]; rfl
  ·cases h
 ·cases h
theorem aiz:∀ (xs:List Value) (off:Nat) (cells:Array Value),off+xs.length≤cells.size→
  (xs.toArray.zipIdx.foldl (fun cs (c,j)=>cs.setIfInBounds (off+j) c) cells)=⟨EA off xs cells.toList⟩:=by
 intro xs off cells h
 have key:∀ (xs:List Value) (j:Nat) (cells:Array Value),off+j+xs.length≤cells.size→
   ((xs.zipIdx j).foldl (fun (cs:Array Value) (p:Value×Nat)=>cs.setIfInBounds (off+p.2) p.1) cells)=⟨EA (off+j) xs cells.toList⟩:=by
  intro xs
  induction xs with
  | nil=>intro j cells _; simp [EA]
  | cons x r ih=>
   intro j cells h
   simp only [List.length_cons] at h
   simp only [List.zipIdx_cons,List.foldl_cons]
   rw [ih (j+1) _ (by simp; omega)]
   have bZ:off+j<cells.toList.length:=by simp; omega
   congr 1
   simp only [EA,Array.toList_setIfInBounds,List.length_cons]
   rw [show off+(j+1)=off+j+1 by omega,List.take_succ_eq_append_getElem (by simpa using bZ)]
   simp only [List.getElem_set_self,List.take_set_of_le (Nat.le_refl _),List.append_assoc,List.cons_append,List.nil_append]
   rw [List.drop_set_of_lt (by omega)]
   congr 4
   omega
 have:=key xs 0 cells (by simpa using h)
 rw [← Array.foldl_toList,Array.toList_zipIdx]
 exact this
theorem IJ (place:Nat→Option (Nat×Nat)):∀ (ps:List (Nat×Value)) (cells:List Value) {out:List Value},B3 place cells ps=some out→Instr.fill place ⟨cells⟩ ps=some ⟨out⟩
 | [],_,_,h=>by cases h; rfl
 | (i,v) :: r,cells,out,h=>by
  simp only [B3] at h
  simp only [Instr.fill]
  cases hp:place i with
  | none=>rw [hp] at h; cases h
  | some os=>
   obtain ⟨off,size⟩:=os
   rw [hp] at h
   simp only at h ⊢
   cases hc:(Nat.beq v.cells.toList.length size && Nat.ble (off+v.cells.toList.length) cells.length) with
   | false=>rw [hc] at h; cases h
   | true=>
    rw [hc] at h
    simp only [Bool.and_eq_true,beq_eq,Nat.ble_eq,Array.length_toList] at hc
    have h1:(v.cells.size≠size || off+v.cells.size > cells.length)=false:=by
     simp only [Bool.or_eq_false_iff,decide_eq_false_iff_not]
     exact ⟨by simpa using hc.1,by omega⟩
    have h2:(decide (v.cells.size≠size) || decide (off+v.cells.size > (Array.mk cells).size))=false:=by simpa using h1
    rw [if_neg (by rw [h2]; simp)]
    have:=aiz v.cells.toList off ⟨cells⟩ (by simpa using hc.2)
    simp only [Array.toArray_toList] at this
    rw [this]
    exact IJ place r _ h
theorem Q4 {t:TypeId} {i:TypeInfo} (h:P.info? t=some i) (w:World):(typeInfo t).run P w=.ok i w:=by
 simp [typeInfo,program,Sem.run,h]
theorem ajr {t:TypeId} (h:(P.info? t).isSome) (w:World):(Go.sizeOf t).run P w=.ok (Ev.sizeOf P t) w:=by
 cases hi:P.info? t with
 | none=>rw [hi] at h; cases h
 | some i=>simp [Go.sizeOf,Q4 hi,Ev.sizeOf,hi]
theorem pJ {t:TypeId} (h:known P t=true) (w:World):(Go.sizeOf t).run P w=.ok (Ev.sizeOf P t) w:=ajr h w
theorem Q5 {t:TypeId} (h:tB P t=true) (w:World):∃ v,(zeroValue t).run P w=.ok v w∧v.cells.toList=zc P t∧(zeroValue t=zeroValue t):=by
 unfold tB at h
 split at h
 ·rename_i i hi
  cases hz:i.zero with
  | none=>rw [hz] at h; cases h
  | some v=>exact ⟨v,by simp [zeroValue,Q4 hi,hz],by simp [zc,hi,hz],rfl⟩
 ·cases h
theorem Vj {t:TypeId} (h:tB P t=true) (w:World) {β:Type} (f:Value→Sem β):∃ v,v.cells=⟨zc P t⟩∧(zeroValue t >>= f).run P w=(f v).run P w:=by
 obtain ⟨v,h1,h2,_⟩:=Q5 (P:=P) h w
 exact ⟨v,Array.ext' h2,by rw [Sem.run_bind,h1]; rfl⟩
theorem W6 {α β:Type} {f:α→Sem β} {g:α→β}:∀ {l:List α},(∀ x∈l,∀ w,(f x).run P w=.ok (g x) w)→∀ w,(l.mapM f).run P w=.ok (l.map g) w
 | [],_,w=>rfl
 | x :: r,h,w=>by
  rw [List.mapM_cons,Sem.run_bind,h x List.mem_cons_self,Result.andThen_ok,Sem.run_bind,W6 (fun y hy=>h y (List.mem_cons_of_mem _ hy))]
  rfl
theorem agM {α β:Type} {f:α→Sem β} {g:α→β} {xs:Array α} (h:∀ x∈xs.toList,∀ w,(f x).run P w=.ok (g x) w) (w:World):(xs.mapM f).run P w=.ok (xs.map g) w:=by
 rw [Array.mapM_eq_mapM_toList,Sem.run_map,W6 h]
 simp only [Result.andThen_ok]
 congr 1
 apply Array.ext'
 simp
theorem VJ:∀ {fs:List Field} {pl:List (Nat×Nat)},placesOf P fs=some pl→(∀ f∈fs,known P f.type=true)∧pl=fs.map fun f=>(f.offset,Ev.sizeOf P f.type)
 | [],_,h=>by cases h; exact ⟨fun _ h=>(by cases h),rfl⟩
 | f :: r,pl,h=>by
  simp only [placesOf] at h
  cases hk:known P f.type with
  | false=>rw [hk] at h; cases h
  | true=>
   rw [hk] at h
   simp only [cond_true] at h
   split at h
   ·rename_i l hl
    cases h
    obtain ⟨h1,h2⟩:=VJ hl
    refine ⟨fun x hx=>?_,by rw [h2]; rfl⟩
    cases hx with
    | head=>exact hk
    | tail _ hx=>exact h1 x hx
   ·cases h
theorem ajs {t:TypeId} {ps:List (Nat×Value)} {v:Value} (h:RK P t ps=some v) (w:World):(Instr.build t ⟨ps⟩).run P w=.ok v w:=by
 unfold RK at h
 unfold Instr.build
 split at h
 ·rename_i fs hu
  cases hz:tB P t with
  | false=>rw [hz] at h; cases h
  | true=>
   rw [hz] at h
   simp only [cond_true] at h
   split at h
   ·rename_i pl Au
    split at h
    ·rename_i cs jo
     cases h
     obtain ⟨hk,an3⟩:=VJ Au
     obtain ⟨z,vS,Av⟩:=Vj hz w (P:=P) (β:=Value) (fun z0=>do
      match ← underlying t with
      | .struct fields=>
       let places ← fields.mapM fun f=>do pure (f.offset,← Go.sizeOf f.type)
       let some cells:=Instr.fill (places[·]?) z0.cells ps | stuck "build: no such field, or a part of the wrong size"
       pure (.agg cells)
      | .array _ elem=>
       let size ← Go.sizeOf elem
       let some cells:=Instr.fill (fun i=>some (i * size,size)) z0.cells ps | stuck "build: a part of the wrong size"
       pure (.agg cells)
      | _=>stuck "build: struct or array type expected")
     refine Eq.trans ?_ (Av.trans ?_)
     ·rfl
     ·rw [Sem.run_bind,run_underlying hu,Result.andThen_ok]
      simp only []
      rw [Sem.run_bind,agM (g:=fun f=>(f.offset,Ev.sizeOf P f.type)) (fun f hf w=>by simp [pJ (hk f hf)]),Result.andThen_ok]
      have hf:Instr.fill (fun x=>(fs.map fun f=>(f.offset,Ev.sizeOf P f.type))[x]?) z.cells ps=some ⟨cs⟩:=by
       rw [vS]
       refine IJ _ ps _ ?_
       rw [← jo,an3]
       congr 1
       funext i
       simp
      rw [hf]
      rfl
    ·cases h
   ·cases h
 ·rename_i n e hu
  cases hz:(tB P t && known P e) with
  | false=>rw [hz] at h; cases h
  | true=>
   rw [hz] at h
   simp only [Bool.and_eq_true] at hz
   simp only [cond_true] at h
   split at h
   ·rename_i cs jo
    cases h
    obtain ⟨z,vS,Av⟩:=Vj hz.1 w (P:=P) (β:=Value) (fun z0=>do
      match ← underlying t with
      | .struct fields=>
       let places ← fields.mapM fun f=>do pure (f.offset,← Go.sizeOf f.type)
       let some cells:=Instr.fill (places[·]?) z0.cells ps | stuck "build: no such field, or a part of the wrong size"
       pure (.agg cells)
      | .array _ elem=>
       let size ← Go.sizeOf elem
       let some cells:=Instr.fill (fun i=>some (i * size,size)) z0.cells ps | stuck "build: a part of the wrong size"
       pure (.agg cells)
      | _=>stuck "build: struct or array type expected")
    refine Eq.trans ?_ (Av.trans ?_)
    ·rfl
    ·rw [Sem.run_bind,run_underlying hu,Result.andThen_ok]
     simp only []
     rw [Sem.run_bind,pJ hz.2,Result.andThen_ok]
     have hf:Instr.fill (fun i=>some (i * Ev.sizeOf P e,Ev.sizeOf P e)) z.cells ps=some ⟨cs⟩:=by
      rw [vS]
      exact IJ _ ps _ jo
     rw [hf]
     rfl
   ·cases h
 ·cases h
end Go.Ev
end
section
set_option linter.unusedVariables false
set_option linter.unusedSimpArgs false
namespace Go.Ev
open Go
variable {P:Program}
theorem HZ {t:TypeId} {u:TypeDesc} (h:P.underlying t=some u) (w:World):(isAgg t).run P w=.ok (tL P t) w:=by
 unfold tL
 rw [h]
 cases u <;> simp [isAgg,run_underlying h]
theorem ajt {t:TypeId} {x v:Value} {f:Nat} (h:RM P t x f=some v) (w:World):(Instr.field t x f).run P w=.ok v w:=by
 unfold RM at h
 split at h
 ·rename_i cs
  split at h
  ·rename_i fs hu
   split at h
   ·rename_i fd hf
    cases hk:(known P fd.type && RJ P fd.type) with
    | false=>rw [hk] at h; cases h
    | true=>
     rw [hk] at h
     simp only [Bool.and_eq_true] at hk
     simp only [cond_true] at h
     unfold Instr.field
     rw [Sem.run_bind,run_underlying hu,Result.andThen_ok]
     simp only []
     have FI:fs[f]? = some fd:=by simpa using hf
     rw [FI]
     simp only []
     rw [Sem.run_bind]
     simp only [asAgg,Sem.run_pure,Result.andThen_ok]
     unfold part
     rw [Sem.run_bind]
     cases hu2:P.underlying fd.type with
     | none=>
      have:=hk.2
      simp [RJ,hu2] at this
     | some u=>
      rw [HZ hu2,Result.andThen_ok]
      cases ha:tL P fd.type with
      | true=>
       rw [ha] at h
       cases h
       simp only [if_true]
       rw [Sem.run_bind,pJ hk.1]
       simp only [Result.andThen_ok,Sem.run_pure]
       congr 2
       apply Array.ext'
       simp [Array.toList_extract,List.extract_eq_take_drop]
      | false=>
       rw [ha] at h
       simp only [cond_false] at h
       have h':cs[fd.offset]? = some v:=by simpa using h
       simp [h']
   ·cases h
  ·cases h
 ·cases h
theorem aeY {a:Addr} {f:Field} (hk:known P f.type=true) (hs:Nat.beq (Ev.sizeOf P f.type) 0=false) (w:World):(fieldPlace a f).run P w=.ok (a.add f.offset) w:=by
 unfold fieldPlace
 rw [Sem.run_bind,pJ hk,Result.andThen_ok,if_neg (fI.1 hs)]
 rfl
theorem Y2 (k:IntKind):∀ (r:List Value) (x:Int) {v:Value},nS.I0 k x r=some v→∀ w,((r.foldlM Builtin.min2 (.int k x):Sem Value)).run P w=.ok v w
 | [],x,v,h,w=>by cases h; rfl
 | y :: r,x,v,h,w=>by
  cases y with
  | int k' y=>
   simp only [nS.I0] at h
   rw [List.foldlM_cons,Sem.run_bind]
   simp only [Builtin.min2,Sem.run_pure,Result.andThen_ok]
   have:(if y<x then y else x)=min x y:=by omega
   rw [this]
   exact Y2 k r _ h w
  | _=>cases h
theorem Y3 (k:IntKind):∀ (r:List Value) (x:Int) {v:Value},nS.I1 k x r=some v→∀ w,((r.foldlM Builtin.max2 (.int k x):Sem Value)).run P w=.ok v w
 | [],x,v,h,w=>by cases h; rfl
 | y :: r,x,v,h,w=>by
  cases y with
  | int k' y=>
   simp only [nS.I1] at h
   rw [List.foldlM_cons,Sem.run_bind]
   simp only [Builtin.max2,Sem.run_pure,Result.andThen_ok]
   have:(if y > x then y else x)=max x y:=by omega
   rw [this]
   exact Y3 k r _ h w
  | _=>cases h
theorem Y4 {ρ:Operand→Option Value} {e:Operand→Value} (hr:rj ρ e) (o:Oper) {v:Value} (h:nS P ρ o.op=some v) (w:World) :
  (execOp e o).run P w=.ok (.value v) w:=by
 obtain ⟨dst,op,ty,ps,af,gd⟩:=o
 simp only at h
 unfold nS at h
 split at h
 ·rw [← hr _ _ h]; rfl
 ·rw [← hr _ _ h]; rfl
 ·rename_i op t x y yt
  split at h
  ·rename_i a b ha hb
   have:=Wy h x y w
   rw [← hr _ _ ha,← hr _ _ hb] at this
   simp only [execOp]
   rw [Sem.run_bind,this]
   rfl
  ·cases h
 ·rename_i op t x
  split at h
  ·rename_i b hb; cases h; simp only [execOp,hr _ _ hb]; rfl
  ·rename_i k n hb; cases h; simp only [execOp,hr _ _ hb]; rfl
  ·rename_i k n hb; cases h; simp only [execOp,hr _ _ hb]; rfl
  ·cases h
 ·rename_i s d x
  split at h
  ·rename_i u k k0 n hs hd hx
   cases h
   simp only [execOp,hr _ _ hx,convert]
   rw [Sem.run_bind,Sem.run_bind,run_underlying hs,Result.andThen_ok,Sem.run_bind,run_underlying hd,Result.andThen_ok]
   rfl
  ·rename_i b hs hd hx
   cases h
   simp only [execOp,hr _ _ hx,convert]
   rw [Sem.run_bind,Sem.run_bind,run_underlying hs,Result.andThen_ok,Sem.run_bind,run_underlying hd,Result.andThen_ok]
   rfl
  ·cases h
 ·rename_i t x
  split at h
  ·cases h
  ·rename_i u hni hu
   cases hx:ρ x with
   | none=>rw [hx] at h; cases h
   | some v0=>
    rw [hx] at h; cases h
    simp only [execOp,hr _ _ hx,Instr.makeInterface]
    rw [Sem.run_bind,Sem.run_bind,run_underlying hu,Result.andThen_ok]
    cases u <;> first | rfl | exact (hni _ rfl).elim
  ·cases h
 ·rename_i fn first cap
  split at h
  ·rename_i va vb ha hb
   cases h
   simp only [execOp,tA hr ha,tA hr hb]; rfl
  ·cases h
 ·rename_i t pts
  split at h
  ·rename_i vs hv
   simp only [execOp]
   rw [Wu hr hv,Sem.run_bind,ajs h]; rfl
  ·cases h
 ·rename_i t x f
  split at h
  ·rename_i v0 hx
   simp only [execOp,hr _ _ hx]
   rw [Sem.run_bind,ajt h]; rfl
  ·cases h
 ·rename_i x i
  split at h
  ·rename_i vs hx
   simp only [execOp,hr _ _ hx,Instr.extract]
   have h':vs[i]? = some v:=by simpa using h
   rw [h']; rfl
  ·cases h
 ·rename_i t x f
  split at h
  ·rename_i a hx
   split at h
   ·rename_i fs hu
    split at h
    ·rename_i fd hf
     cases hc:(Nat.beq (Ev.sizeOf P fd.type) 0 || !known P fd.type) with
     | true=>rw [hc] at h; cases h
     | false=>
      rw [hc] at h; cases h
      simp only [Bool.or_eq_false_iff,Bool.not_eq_false'] at hc
      have FI:fs[f]? = some fd:=by simpa using hf
      simp only [execOp,hr _ _ hx,Instr.fieldAt]
      rw [Sem.run_bind,Sem.run_bind,run_underlying hu,Result.andThen_ok]
      simp only [FI]
      rw [Sem.run_bind]
      simp only [Instr.sureAddr,Sem.run_pure,Result.andThen_ok]
      rw [Sem.run_bind,aeY hc.2 hc.1]; rfl
    ·cases h
   ·cases h
  ·cases h
 ·rename_i xs x8
  split at h
  ·rename_i a n c t hv ht
   split at h
   ·rename_i e0 hu
    cases h
    have j4:=tA hr hv
    have Aw:x8=#[t]:=Array.ext' ht
    simp only [execOp,resolve,j4,invoke,Sem.run_bind,Sem.run_pure,Result.andThen_ok,builtin,Builtin.len_,Aw]
    simp [run_underlying hu,goInt]
   ·cases h
  ·rename_i b t hv ht
   split at h
   ·rename_i hu
    cases h
    have j4:=tA hr hv
    have Aw:x8=#[t]:=Array.ext' ht
    simp only [execOp,resolve,j4,invoke,Sem.run_bind,Sem.run_pure,Result.andThen_ok,builtin,Builtin.len_,Aw]
    simp [run_underlying hu,goInt]
   ·cases h
  ·rename_i x0 t _ _ hv ht
   split at h
   ·rename_i n e0 hu
    cases h
    have j4:=tA hr hv
    have Aw:x8=#[t]:=Array.ext' ht
    simp only [execOp,resolve,j4,invoke,Sem.run_bind,Sem.run_pure,Result.andThen_ok,builtin,Builtin.len_,Aw]
    simp [run_underlying hu,goInt]
   ·cases h
  ·cases h
 ·rename_i xs x8
  split at h
  ·rename_i a n c t hv ht
   split at h
   ·rename_i e0 hu
    cases h
    have j4:=tA hr hv
    have Aw:x8=#[t]:=Array.ext' ht
    simp only [execOp,resolve,j4,invoke,Sem.run_bind,Sem.run_pure,Result.andThen_ok,builtin,Builtin.cap_,Aw]
    simp [run_underlying hu,goInt]
   ·cases h
  ·cases h
 ·rename_i xs x8
  split at h
  ·rename_i k x r hv
   have j4:=tA hr hv
   simp only [execOp,resolve,j4,invoke,Sem.run_bind,Sem.run_pure,Result.andThen_ok,builtin,Builtin.min_]
   rw [Y2 k r x h]; rfl
  ·cases h
 ·rename_i xs x8
  split at h
  ·rename_i k x r hv
   have j4:=tA hr hv
   simp only [execOp,resolve,j4,invoke,Sem.run_bind,Sem.run_pure,Result.andThen_ok,builtin,Builtin.max_]
   rw [Y3 k r x h]; rfl
  ·cases h
 ·cases h
end Go.Ev
end
section
set_option linter.unusedVariables false
set_option linter.unusedSimpArgs false
namespace Go.Ev
open Go
variable {P:Program}
def rV (P:Program) (e:Operand→Value) (o:Oper) (w:World) (K:Value→World→Prop):Prop:=
 ∃ v,(∀ w',(execOp e o).run P w'=.ok (.value v) w')∧K v w
theorem rV.nS {ρ:Operand→Option Value} {e:Operand→Value} (hr:rj ρ e) {o:Oper} {w:World} {K:Value→World→Prop}
  (h:match Ev.nS P ρ o.op with | some v=>K v w | none=>False):rV P e o w K:=by
 split at h
 ·rename_i v hv; exact ⟨v,fun w'=>Y4 hr o hv w',h⟩
 ·exact h.elim
theorem EU {nw:Bool} {k:IntKind} {z:Int} {K:Int→Prop} (h:ar nw k z K):K (k.wrap z):=by
 unfold ar at h
 cases hc:(nw && R7 k) with
 | false=>rw [hc] at h; exact h
 | true=>
  rw [hc] at h
  simp only [Bool.and_eq_true] at hc
  have hk:k=.i64:=by have:=hc.2; cases k <;> simp_all [R7]
  subst hk
  have:IntKind.i64.wrap z=z:=by
   have h1:=h.1
   unfold aF at h1
   simp [IntKind.wrap,IntKind.bits,IntKind.signed]
   split <;> omega
  rw [this]; exact h.2
theorem Y5 {y:Int} {A:Prop} (h:pos y A):0<y∧A:=by
 unfold pos at h
 split at h
 ·exact ⟨by simp only [Int.ofNat_eq_natCast]; omega,h⟩
 ·exact h
theorem Y6 {y:Int} {A:Prop} (h:gX y A):0≤y∧A:=by
 unfold gX at h
 split at h
 ·exact ⟨by simp only [Int.ofNat_eq_natCast]; omega,h⟩
 ·exact h
theorem OD {k:IntKind} {z:Int} (h0:0≤z) (h1:z≤k.max):k.wrap z=z:=by
 cases k <;> simp only [IntKind.max,IntKind.signed,IntKind.bits] at h1 <;> simp only [IntKind.wrap,IntKind.bits,IntKind.signed] <;> simp at h1 ⊢ <;> omega
theorem alI {m:Mode} {op:BinOp} {k k':IntKind} {x y:Int} {K:Value→Prop} (h:Sk m op k x k' y K) (t:TypeId) :
  ∃ v,(∀ w:World,(binOp op t (.int k x) (.int k' y)).run P w=.ok v w)∧K v:=by
 have kk:∀ {A:Prop},cond (decide (k=k')) A False→k=k'∧A:=fun {A} hA=>by
  cases hk:decide (k=k') with
  | true=>rw [hk] at hA; exact ⟨of_decide_eq_true hk,hA⟩
  | false=>rw [hk] at hA; exact hA.elim
 have rest:(match Ez op k x k' y with | some v=>K v | none=>False)→∃ v,(∀ w:World,(binOp op t (.int k x) (.int k' y)).run P w=.ok v w)∧K v:=fun h=>by
  split at h
  ·rename_i v hv; exact ⟨v,fun w=>Wv hv t w,h⟩
  ·exact h.elim
 cases op <;> simp only [Sk] at h
 case add=>
  obtain ⟨e,h2⟩:=kk h
  subst e
  exact ⟨_,fun w=>by simp [binOp,Op.intArith],EU h2⟩
 case sub=>
  obtain ⟨e,h2⟩:=kk h
  subst e
  exact ⟨_,fun w=>by simp [binOp,Op.intArith],EU h2⟩
 case mul=>
  obtain ⟨e,h2⟩:=kk h
  subst e
  exact ⟨_,fun w=>by simp [binOp,Op.intArith],EU h2⟩
 case quo=>
  obtain ⟨e,h2⟩:=kk h
  subst e
  clear h
  obtain ⟨hy,h⟩:=Y5 h2
  have iN:¬ y=0:=by omega
  cases hd:m.dv with
  | true=>
   rw [hd] at h
   obtain ⟨⟨h0,h1⟩,hK⟩:=h
   refine ⟨_,fun w=>?_,hK⟩
   have e1:x.tdiv y=x / y:=Int.tdiv_eq_ediv_of_nonneg h0
   have e2:k.wrap (x / y)=x / y:=OD (Int.ediv_nonneg h0 (by omega)) (Int.le_trans (Int.ediv_le_self y h0) h1)
   simp [binOp,Op.intDiv,iN,e1,e2]
  | false=>
   rw [hd] at h
   exact ⟨_,fun w=>by simp [binOp,Op.intDiv,iN],h⟩
 case rem=>
  obtain ⟨e,h2⟩:=kk h
  subst e
  clear h
  obtain ⟨hy,h⟩:=Y5 h2
  have iN:¬ y=0:=by omega
  cases hd:m.dv with
  | true=>
   rw [hd] at h
   obtain ⟨h0,hK⟩:=h
   refine ⟨_,fun w=>?_,hK⟩
   have e1:x.tmod y=x % y:=Int.tmod_eq_emod_of_nonneg h0
   simp [binOp,Op.intDiv,iN,e1]
  | false=>
   rw [hd] at h
   exact ⟨_,fun w=>by simp [binOp,Op.intDiv,iN],h⟩
 case shl=>obtain ⟨hy,h⟩:=Y6 h; exact ⟨_,fun w=>by simp [binOp,Op.shift,show ¬ y<0 by omega,shl],h⟩
 case shr=>obtain ⟨hy,h⟩:=Y6 h; exact ⟨_,fun w=>by simp [binOp,Op.shift,show ¬ y<0 by omega,shr],h⟩
 all_goals exact rest h
theorem aiA {op:BinOp} {t:TypeId} {x y:Operand} {k:IntKind} {n:Int} {b:Value} (w:World):(eqGuard op t x y (.int k n) b).run P w=.ok () w:=wO (by simp) (by simp) w
theorem Wz {t:TypeId} {ms:Array (String×TypeId)} (hu:P.underlying t=some (.interface ms)) (a:Value) (K:Bool→Prop) (h:fm a K) :
  ∃ z,(∀ w:World,(Op.equal t a .nilIface).run P w=.ok z w)∧K z:=by
 cases a <;> simp only [fm] at h <;> first | exact h.elim | skip
 ·rename_i t' v
  refine ⟨false,fun w=>?_,h⟩
  have hh:∀ d:Nat,(Op.equalIn (d+1) t (.iface t' v) .nilIface).run P w=.ok false w:=fun d=>by simp only [Op.equalIn,Sem.run_bind,run_underlying hu,Result.andThen_ok]; rfl
  exact hh 9999
 ·refine ⟨true,fun w=>?_,h⟩
  have hh:∀ d:Nat,(Op.equalIn (d+1) t .nilIface .nilIface).run P w=.ok true w:=fun d=>by simp only [Op.equalIn,Sem.run_bind,run_underlying hu,Result.andThen_ok]; rfl
  exact hh 9999
theorem V6 {t:TypeId} {ps rs:Array TypeId} {va:Bool} (hu:P.underlying t=some (.func ps rs va)) (a:Value) (K:Bool→Prop) (h:BI a K) :
  ∃ z,(∀ w:World,(Op.equal t a .nilFunc).run P w=.ok z w)∧K z:=by
 cases a <;> simp only [BI] at h <;> first | exact h.elim | skip
 ·rename_i fn f c
  refine ⟨false,fun w=>?_,h⟩
  have hh:∀ d:Nat,(Op.equalIn (d+1) t (.func fn f c) .nilFunc).run P w=.ok false w:=fun d=>by simp only [Op.equalIn,Sem.run_bind,run_underlying hu,Result.andThen_ok]; rfl
  exact hh 9999
 ·refine ⟨true,fun w=>?_,h⟩
  have hh:∀ d:Nat,(Op.equalIn (d+1) t .nilFunc .nilFunc).run P w=.ok true w:=fun d=>by simp only [Op.equalIn,Sem.run_bind,run_underlying hu,Result.andThen_ok]; rfl
  exact hh 9999
theorem zy {e:Operand→Value} {dst:Option Nat} {op:BinOp} {t yt:TypeId} {x y:Operand} {ty:TypeId} {ps:String} {af:Array Edge} {gd:Option (Nat×Bool)} {v:Value} {w w':World}
  (h:(do eqGuard op t x y (e x) (e y); binOp op t (e x) (e y):Sem Value).run P w=.ok v w'):(execOp e ⟨dst,.binOp op t x y yt,ty,ps,af,gd⟩).run P w=.ok (.value v) w':=by
 simp only [execOp]
 rw [Sem.run_bind,h]
 rfl
theorem BR {m:Mode} {op:BinOp} {t:TypeId} {a b:Value} {w:World} {K:Value→World→Prop} {yc:Bool} (h:ES P m op t yc a b w K) (hb:∀ ys,b≠.agg ys) (x y:Operand) (hy:yc=isC y) :
  ∃ v,(∀ w':World,(do eqGuard op t x y a b; binOp op t a b:Sem Value).run P w'=.ok v w')∧K v w:=by
 have rest:(match BP P op t a b with | some v=>K v w | none=>False)→∃ v,(∀ w':World,(do eqGuard op t x y a b; binOp op t a b:Sem Value).run P w'=.ok v w')∧K v w:=fun h=>by
  split at h
  ·rename_i v hv; exact ⟨v,fun w'=>Wy hv x y w',h⟩
  ·exact h.elim
 unfold ES at h
 split at h
 ·
  have EB:yc=true→∀ w':World,(eqGuard op t x y a .nilIface).run P w'=.ok () w':=fun Ax w'=>by
   have hc:∃ c,y=.const c:=by
    rw [Ax] at hy
    cases y <;> first | exact ⟨_,rfl⟩ | cases hy
   obtain ⟨c,rfl⟩:=hc
   unfold eqGuard
   cases op <;> first | rfl | (cases a <;> first | rfl | (simp; done))
  split at h
  ·rename_i hu
   have Ax:yc=true:=by cases yc <;> first | exact h.elim | rfl
   simp only [Ax,cond_true] at h
   obtain ⟨z,h1,h2⟩:=Wz hu a _ h
   refine ⟨_,fun w'=>?_,h2⟩
   rw [Sem.run_bind,EB Ax,Result.andThen_ok]
   cases a <;> simp only [fm] at h <;> first | exact h.elim | (show (Op.equal _ _ _ >>= _).run P w'=_; rw [Sem.run_bind,h1]; rfl)
  ·rename_i hu
   have Ax:yc=true:=by cases yc <;> first | exact h.elim | rfl
   simp only [Ax,cond_true] at h
   obtain ⟨z,h1,h2⟩:=Wz hu a _ h
   refine ⟨_,fun w'=>?_,h2⟩
   rw [Sem.run_bind,EB Ax,Result.andThen_ok]
   cases a <;> simp only [fm] at h <;> first | exact h.elim | (show (Op.equal _ _ _ >>= _).run P w'=_; rw [Sem.run_bind,h1]; rfl)
  ·exact h.elim
 ·have EB:∀ w':World,(eqGuard op t x y a .nilFunc).run P w'=.ok () w':=fun w'=>by
   unfold eqGuard
   cases op <;> first | rfl | (cases a <;> rfl)
  split at h
  ·rename_i hu
   obtain ⟨z,h1,h2⟩:=V6 hu a _ h
   refine ⟨_,fun w'=>?_,h2⟩
   rw [Sem.run_bind,EB,Result.andThen_ok]
   cases a <;> simp only [BI] at h <;> first | exact h.elim | (show (Op.equal _ _ _ >>= _).run P w'=_; rw [Sem.run_bind,h1]; rfl)
  ·rename_i hu
   obtain ⟨z,h1,h2⟩:=V6 hu a _ h
   refine ⟨_,fun w'=>?_,h2⟩
   rw [Sem.run_bind,EB,Result.andThen_ok]
   cases a <;> simp only [BI] at h <;> first | exact h.elim | (show (Op.equal _ _ _ >>= _).run P w'=_; rw [Sem.run_bind,h1]; rfl)
  ·exact h.elim
 ·split at h
  ·obtain ⟨v,h1,h2⟩:=alI h t (P:=P)
   refine ⟨v,fun w'=>?_,h2⟩
   rw [Sem.run_bind,aiA,Result.andThen_ok,h1]
  ·exact h.elim
 ·rename_i ys; exact absurd rfl (hb ys)
 ·split at h
  ·rename_i s1 _
   refine ⟨_,fun w'=>?_,h.2⟩
   rw [Sem.run_bind,wO (by simp) (by simp),Result.andThen_ok]
   simp only [binOp,Op.stringOp]
   rw [if_neg (by simp only [IntKind.max,IntKind.signed,IntKind.bits]; have:=h.1; simp; omega)]
   rfl
  ·exact rest h
  ·exact h.elim
 ·exact rest h
theorem Y7 {i:Int} {n:Nat} {A:Prop} (h:idx i n A):0≤i∧i<(n:Int)∧A:=⟨h.1.1,h.1.2,h.2⟩
theorem alJ {b:ByteArray} {i:Int} (h0:0≤i) (h1:i<(b.size:Int)):∃ u,b[i.toNat]? = some u∧(u.toNat:Int)=um b i:=by
 have bZ:i.toNat<b.size:=by omega
 refine ⟨b[i.toNat],?_,?_⟩
 ·simp [bZ]
 ·unfold um
  have h2:i.toNat<b.data.toList.length:=by simpa using bZ
  rw [List.getD,List.getElem?_eq_getElem h2]
  rfl
theorem pn {k:IntKind} {i:Int} {y:Nat} {c:BoundsCode} (h0:0≤i) (h1:i≤(y:Int)) (w:World):(Instr.sliceBound (.int k i) y c).run P w=.ok i.toNat w:=by
 simp [Instr.sliceBound,asIntOf,h0,h1]
theorem X3 {e:TypeId} {x:ah} {lo hi mx:Option Value} {K:ah→Prop} (h:Ju P e x lo hi mx K) (b:Bool) :
  ∃ s:ah,K s∧∃ l hh m,(∀ w:World,(Instr.sliceBounds b x.n x.c lo hi mx).run P w=.ok (l,hh,m) w)∧s.n=hh - l∧s.c=m - l∧s.a=(if m=l then x.a else x.a.map (·.add (l * Ev.sizeOf P e))):=by
 have zQ:∀ a:Option Addr,a.map (·.add (0 * Ev.sizeOf P e))=a:=fun a=>by cases a <;> simp [Addr.add]
 unfold Ju at h
 split at h
 ·refine ⟨x,h,0,x.n,x.c,fun w=>by simp [Instr.sliceBounds],rfl,rfl,?_⟩
  rw [zQ]; split <;> rfl
 ·rename_i k hh
  obtain ⟨⟨h0,h1⟩,h⟩:=h
  refine ⟨_,h,0,hh.toNat,x.c,fun w=>?_,rfl,rfl,?_⟩
  ·cases b <;> simp [Instr.sliceBounds,pn h0 h1]
  ·rw [zQ]; split <;> rfl
 ·rename_i k l
  obtain ⟨⟨h0,h1⟩,h⟩:=h
  refine ⟨_,h,l.toNat,x.n,x.c,fun w=>?_,rfl,rfl,rfl⟩
  cases b <;> simp [Instr.sliceBounds,pn h0 h1]
 ·rename_i k l k' hh
  obtain ⟨⟨h0,h1,h2⟩,h⟩:=h
  refine ⟨_,h,l.toNat,hh.toNat,x.c,fun w=>?_,rfl,rfl,rfl⟩
  have h3:l≤((hh.toNat:Nat):Int):=by omega
  cases b <;> simp [Instr.sliceBounds,pn (show 0≤hh by omega) h2,pn h0 h3]
 ·rename_i k hh k' mm
  obtain ⟨⟨h0,h1,h2⟩,h⟩:=h
  refine ⟨_,h,0,hh.toNat,mm.toNat,fun w=>?_,rfl,rfl,?_⟩
  ·have h3:hh≤((mm.toNat:Nat):Int):=by omega
   cases b <;> simp [Instr.sliceBounds,pn (show 0≤mm by omega) h2,pn h0 h3]
  ·rw [zQ]; split <;> rfl
 ·rename_i k l k' hh k2 mm
  obtain ⟨⟨h0,h1,h2,h4⟩,h⟩:=h
  refine ⟨_,h,l.toNat,hh.toNat,mm.toNat,fun w=>?_,rfl,rfl,rfl⟩
  have h3:hh≤((mm.toNat:Nat):Int):=by omega
  have h5:l≤((hh.toNat:Nat):Int):=by omega
  cases b <;> simp [Instr.sliceBounds,pn (show 0≤mm by omega) h4,pn (show 0≤hh by omega) h3,pn h0 h5]
 ·exact h.elim
theorem uU {ρ:Operand→Option Value} {e:Operand→Value} (hr:rj ρ e) {x:Option Operand} {v:Option Value} (h:BQ ρ x=some v):x.map e=v:=by
 cases x with
 | none=>simp only [BQ] at h; cases h; rfl
 | some y=>
  simp only [BQ] at h
  split at h
  ·rename_i u hu; cases h; rw [Option.map_some,hr _ _ hu]
  ·cases h
end Go.Ev
end
section
set_option linter.unusedVariables false
set_option linter.unusedSimpArgs false
namespace Go.Ev
open Go
variable {P:Program}
theorem WA {s:Sh} {a:Addr} {w:World} {K:Value→Prop} (h:IZ s a w K):∃ v,w.cell? a=some v∧K v:=by
 cases s <;> simp only [IZ,an,mH,gp,mo,ax,ldV] at h
 all_goals first
  | (obtain ⟨n,h1,h2⟩:=h; exact ⟨_,h1,h2⟩)
theorem V7:∀ {l:List Sh} {a:Addr} {i:Nat} {w:World} {K:List Value→Prop},IG l a i w K→
  ∃ vs,vs.length=l.length∧(∀ j v,vs[j]? = some v→w.cell? (a.add (i+j))=some v)∧K vs
 | [],a,i,w,K,h=>⟨[],rfl,fun j v hj=>by simp at hj,h⟩
 | s :: r,a,i,w,K,h=>by
  simp only [IG] at h
  obtain ⟨v,h1,h2⟩:=WA h
  obtain ⟨vs,h3,h4,h5⟩:=V7 h2
  refine ⟨v :: vs,by simp [h3],fun j u hj=>?_,h5⟩
  cases j with
  | zero=>simp at hj; subst hj; exact h1
  | succ j=>rw [show i+(j+1)=i+1+j by omega]; exact h4 j u (by simpa using hj)
theorem run_loadCells (a:Addr) (w:World):∀ (cs:List Value) (i:Nat) (acc:Array Value),(∀ j v,cs[j]? = some v→w.cell? (a.add (i+j))=some v)→
  (loadCellsFrom a i cs.length acc).run P w=.ok (acc ++ cs.toArray) w
 | [],i,acc,_=>by simp [loadCellsFrom]
 | v :: r,i,acc,h=>by
  simp only [List.length_cons,loadCellsFrom]
  rw [Sem.run_bind]
  have h0:w.cell? (a.add i)=some v:=by simpa using h 0 v (by simp)
  rw [show (load (a.add i)).run P w=.ok v w by simp [h0],Result.andThen_ok]
  rw [run_loadCells a w r (i+1) (acc.push v) (fun j u hj=>by rw [show i+1+j=i+(j+1) by omega]; exact h (j+1) u (by simpa using hj))]
  simp
theorem WB {a:Addr} {n:Nat} {w w':World} (h:kept a n w w') {j:Nat} {v:Value} (hj:j<n) (hv:w.cell? (a.add j)=some v):w'.cell? (a.add j)=some v:=(h j hj).trans hv
theorem zQ (a:Addr):a.add 0=a:=by simp [Addr.add]
theorem gF {b:Bool} {A:Prop} (h:cond b A False):b=true∧A:=by cases b <;> first | exact h.elim | exact ⟨rfl,h⟩
theorem Rw {t:TypeId} {a:Addr} {w:World} {K:Value→Prop} (h:Cs P t a w K) :
  ∃ v,K v∧∀ w',kept a (Ev.sizeOf P t) w w'→(loadVar t a).run P w'=.ok v w':=by
 have row:∀ {u:TypeDesc} {vs:List Value},P.underlying t=some u→tL P t=true→known P t=true→vs.length=Ev.sizeOf P t→(∀ j v,vs[j]? = some v→w.cell? (a.add j)=some v)→
   ∀ w',kept a (Ev.sizeOf P t) w w'→(loadVar t a).run P w'=.ok (.agg ⟨vs⟩) w':=by
  intro u vs hu ha hk hl hc w' hw
  unfold loadVar
  rw [Sem.run_bind,HZ hu,Result.andThen_ok,if_pos ha,Sem.run_bind,pJ hk,Result.andThen_ok,Sem.run_bind]
  unfold loadCells
  have:=run_loadCells (P:=P) a w' vs 0 #[] (fun j v hj=>by
   rw [Nat.zero_add]
   have bZ:j<vs.length:=(List.getElem?_eq_some_iff.1 hj).1
   exact WB hw (by omega) (hc j v hj))
  rw [hl] at this
  rw [this]
  simp
 unfold Cs at h
 split at h
 ·rename_i fs hu
  split at h
  ·rename_i l hl
   obtain ⟨hc,h⟩:=gF h
   simp only [Bool.and_eq_true,beq_eq] at hc
   obtain ⟨vs,h1,h2,h3⟩:=V7 h
   refine ⟨_,h3,row hu (by simp [tL,hu]) hc.1 (h1.trans hc.2) (fun j v hj=>?_)⟩
   have:=h2 j v hj
   rwa [Nat.zero_add] at this
  ·exact h.elim
 ·rename_i n e hu
  obtain ⟨hc,h⟩:=gF h
  obtain ⟨cs,h1,h2,h3⟩:=h
  exact ⟨_,h3,row hu (by simp [tL,hu]) hc h1 h2⟩
 ·rename_i u vT qk hu
  obtain ⟨hc,h⟩:=gF h
  obtain ⟨v,h1,h2⟩:=WA h
  refine ⟨v,h2,fun w' hw=>?_⟩
  have ha:tL P t=false:=by
   unfold tL; rw [hu]
   cases u <;> first | rfl | exact (vT _ rfl).elim | exact (vT _ _ rfl).elim | exact (qk _ rfl).elim | exact (qk _ _ rfl).elim
  have h0:w'.cell? a=some v:=by
   have:=WB hw (j:=0) (by rw [beq_eq.1 hc]; omega) (by rw [zQ]; exact h1)
   rwa [zQ] at this
  unfold loadVar
  rw [Sem.run_bind,HZ hu,Result.andThen_ok,if_neg (by simp [ha])]
  simp [h0]
 ·exact h.elim
theorem run_store {a:Addr} {v u:Value} {w:World} (h1:w.cell? a=some u) (h2:w.frozen? a=false) (h3:ey v=true):(store a v).run P w=.ok () (w.setCell a v):=by
 unfold store
 cases v <;> first | (cases h3; done) | (simp [Sem.run,h1,h2])
theorem akJ {v:Value} {A:Prop} (h:aal v A):ey v=true∧A:=by
 cases v <;> first | exact ⟨rfl,h⟩ | exact h.elim
theorem ZT {a:Addr} {v:Value} {w:World} {K:World→Prop} (h:st a v w K):(store a v).run P w=.ok () (w.setCell a v)∧ey v=true∧K (w.setCell a v):=by
 obtain ⟨⟨u,h1⟩,h2,h3⟩:=h
 obtain ⟨h4,h5⟩:=akJ h3
 exact ⟨run_store h1 h2 h4,h4,h5⟩
theorem V8:∀ {l:List Value} {a:Addr} {i:Nat} {w:World} {K:World→Prop},pL l a i w K→∃ w',(storeCells a l i).run P w=.ok () w'∧K w'
 | [],a,i,w,K,h=>⟨w,rfl,h⟩
 | v :: r,a,i,w,K,h=>by
  simp only [pL] at h
  obtain ⟨h1,_,h2⟩:=ZT (P:=P) h
  obtain ⟨w',h3,h4⟩:=V8 h2
  refine ⟨w',?_,h4⟩
  unfold storeCells
  rw [Sem.run_bind,h1]
  exact h3
theorem W7:∀ {l:List Value} {a:Addr} {i:Nat} {w:World},(∀ j,j<l.length→(∃ u,w.cell? (a.add (i+j))=some u)∧w.frozen? (a.add (i+j))=false)→(∀ v∈l,ey v=true)→
  (storeCells a l i).run P w=.ok () (setRow w a i l)
 | [],a,i,w,_,_=>rfl
 | v :: r,a,i,w,h,h1=>by
  obtain ⟨⟨u,h2⟩,h3⟩:=h 0 (by simp)
  rw [Nat.add_zero] at h2 h3
  unfold storeCells setRow
  rw [Sem.run_bind,run_store h2 h3 (h1 v List.mem_cons_self),Result.andThen_ok]
  refine W7 (fun j hj=>?_) (fun v hv=>h1 v (List.mem_cons_of_mem _ hv))
  obtain ⟨⟨u',h4⟩,h5⟩:=h (j+1) (by simp only [List.length_cons]; omega)
  rw [show i+(j+1)=i+1+j by omega] at h4 h5
  refine ⟨?_,by rw [World.frozen?_setCell]; exact h5⟩
  by_cases e:a.add i=a.add (i+1+j)
  ·rw [← e]; exact ⟨_,World.cell?_setCell_same _ _ _ h2⟩
  ·exact ⟨u',by rw [World.cell?_setCell_other _ _ _ _ e]; exact h4⟩
theorem aiB {v:Value} (h:ey v=true):v.cells=#[v]:=by cases v <;> first | rfl | cases h
theorem akK {t:TypeId} {a:Addr} {v:Value} {w:World} {K:World→Prop} (h:SL P t a v w K):∃ w',(storeVar t a v).run P w=.ok () w'∧K w':=by
 unfold SL at h
 obtain ⟨hk,h0⟩:=gF h
 clear h
 have h:=h0
 clear h0
 have go:∀ {l:List Value} {w':World},v.cells=⟨l⟩→l.length=Ev.sizeOf P t→(storeCells a l).run P w=.ok () w'→(storeVar t a v).run P w=.ok () w':=by
  intro l w' hv hl hs
  unfold storeVar
  rw [Sem.run_bind,pJ hk,Result.andThen_ok,if_neg (by rw [hv]; simpa using hl)]
  rw [hv]; exact hs
 split at h
 ·split at h
  ·rename_i cs
   obtain ⟨hc,h⟩:=gF h
   obtain ⟨w',h1,h2⟩:=V8 (P:=P) h
   exact ⟨w',go (l:=cs.toList) rfl (beq_eq.1 hc) h1,h2⟩
  ·exact h.elim
 ·split at h
  ·rename_i cs
   obtain ⟨h1,h2,h3,h4⟩:=h
   refine ⟨_,go (l:=cs.toList) rfl h1 (W7 (fun j hj=>?_) h3),h4⟩
   rw [Nat.zero_add]
   exact h2 j (by omega)
  ·exact h.elim
 ·obtain ⟨hc,h⟩:=gF h
  obtain ⟨h1,h2,h3⟩:=ZT (P:=P) h
  refine ⟨_,go (l:=[v]) (by rw [aiB h2]) (beq_eq.1 hc).symm ?_,h3⟩
  unfold storeCells
  rw [Sem.run_bind,zQ,h1]; rfl
 ·exact h.elim
def Out (P:Program) (e:Operand→Value) (o:Oper) (w:World) (K:Value→World→Prop):Prop:=
 (∃ v w',(execOp e o).run P w=.ok (.value v) w'∧K v w')∨(∃ w',(execOp e o).run P w=.ok .skip w'∧K undef w')∨
 (∃ f args,(execOp e o).run P w=.ok (.enter f args) w∧Calls P f args w fun x w'=>∃ v,x=.returned v∧K v w')
def Jw (P:Program) (e:Operand→Value) (o:Oper) (w:World) (a:Addr) (n:Nat) (K:Value→World→Prop):Prop:=
 ∃ v,(∀ w',kept a n w w'→(execOp e o).run P w'=.ok (.value v) w')∧K v w
theorem kept_refl (a:Addr) (n:Nat) (w:World):kept a n w w:=fun _ _=>rfl
theorem Jw.out {e:Operand→Value} {o:Oper} {w:World} {a:Addr} {n:Nat} {K:Value→World→Prop} (h:Jw P e o w a n K):Out P e o w K:=
 let ⟨v,h1,h2⟩:=h; .inl ⟨v,w,h1 w (kept_refl a n w),h2⟩
theorem rV.reads {e:Operand→Value} {o:Oper} {w:World} {K:Value→World→Prop} (h:rV P e o w K) (a:Addr):Jw P e o w a 0 K:=
 let ⟨v,h1,h2⟩:=h; ⟨v,fun w' _=>h1 w',h2⟩
theorem rV.out {e:Operand→Value} {o:Oper} {w:World} {K:Value→World→Prop} (h:rV P e o w K):Out P e o w K:=(h.reads default).out
structure Good (P:Program):Prop where
 names:∀ (f:Nat) (fn:Func),P.funcs[f]? = some fn→fn.name≠ "runtime.NumGoroutine"
 mixed:P.follows .mixedOrders=true
theorem VK (hP:Good P) {f:Nat} (hb:jx P f=true) (args:Array Value) (w:World):(callFunc f args).run P w=.ok (.enter f args) w:=by
 unfold jx at hb
 unfold callFunc
 rw [Sem.run_bind]
 simp only [program,Sem.run,Result.andThen_ok]
 split at hb
 ·rename_i fn hf
  rw [hf]
  simp only []
  have hn:(fn.name == "runtime.NumGoroutine")=false:=by simpa using hP.names f fn hf
  rw [if_neg (by simp [hn])]
  cases hbd:fn.body with
  | none=>rw [hbd] at hb; cases hb
  | some c=>rfl
 ·cases hb
theorem V9 (t:TypeId) (v:Value) (w:World):(newVar t v).run P w=.ok ⟨w.heap.size,0,none⟩ (w.alloc (.cells v.cells t)):=by
 rfl
theorem Wa (t:TypeId) (cs:Array Value) (w:World):(newRow t cs).run P w=.ok ⟨w.heap.size,0,none⟩ (w.alloc (.cells cs t)):=by
 rfl
theorem zz {s:Sem Value} {w w':World} {v:Value} (h:s.run P w=.ok v w'):((do pure (.value (← s))):Sem Next).run P w=.ok (.value v) w':=by
 rw [Sem.run_bind,h]; rfl
theorem aju {s:Sem Unit} {w w':World} (h:s.run P w=.ok () w'):((do s; pure .skip):Sem Next).run P w=.ok .skip w':=by
 rw [Sem.run_bind,h]; rfl
theorem ahT (n:Nat) (zs:List Value):((Array.range (n * zs.length)).map (fun i=>(Array.mk zs)[i % zs.length]!))=⟨jV n zs⟩:=by
 apply Array.ext'
 simp only [Array.toList_map,Array.toList_range]
 unfold jV
 induction n with
 | zero=>simp
 | succ n ih=>
  rw [Nat.succ_mul,List.range_add,List.map_append,ih,List.replicate_succ',List.flatten_append]
  congr 1
  simp only [List.map_map,List.flatten_cons,List.flatten_nil,List.append_nil]
  apply List.ext_getElem
  ·simp
  ·intro i h1 h2
   simp only [List.length_map,List.length_range] at h1
   simp only [List.getElem_map,List.getElem_range,Function.comp]
   rw [Nat.mul_comm n,Nat.mul_add_mod,Nat.mod_eq_of_lt h1]
   simp [h1]
theorem WC {t:TypeId} (h:IY P t=true) (n:Nat) (w:World):known P t=true∧∃ z0:Array Value,
  (∀ f:Array Value→Sem Value,(if n * Ev.sizeOf P t=0 then pure #[] >>= f else zeroValue t >>= fun z=>pure z.cells >>= f).run P w=(f z0).run P w)∧
  ((Array.range (n * Ev.sizeOf P t)).map (fun i=>z0[i % z0.size]!))=⟨jV n (zc P t)⟩:=by
 unfold IY at h
 simp only [Bool.and_eq_true,beq_eq] at h
 have Ay:known P t=true:=by
  have:=h.1; unfold tB at this; unfold known; split at this <;> simp_all
 obtain ⟨zv,vS,Av,_⟩:=Q5 (P:=P) h.1 w
 refine ⟨Ay,if n * Ev.sizeOf P t=0 then #[] else ⟨zc P t⟩,fun f=>?_,?_⟩
 ·split
  ·rfl
  ·rw [Sem.run_bind,vS]
   simp only [Result.andThen_ok]
   have:zv.cells=⟨zc P t⟩:=Array.ext' Av
   rw [this]; rfl
 ·by_cases h0:n * Ev.sizeOf P t=0
  ·rw [if_pos h0,h0]
   apply Array.ext'
   unfold jV
   rcases Nat.mul_eq_zero.1 h0 with h1 | h1
   ·subst h1; simp
   ·rw [h1] at h
    have:zc P t=[]:=List.length_eq_zero_iff.1 h.2
    rw [this]; simp
  ·rw [if_neg h0]
   have e:=ahT n (zc P t)
   rw [h.2] at e
   have e2:(Array.mk (zc P t)).size=Ev.sizeOf P t:=h.2
   rw [e2]; exact e
theorem QF {s:Sh} {v:Value} {K:Value→Prop} (h:xA s v K):K v:=by
 cases s <;> simp only [xA,aY,aW,R8,CK,aU,jX] at h <;> first | exact h | (obtain ⟨_,rfl,h⟩:=h; exact h)
theorem QG {vs:List Value} {K:Value→List Value→Prop} (h:aC vs K):∃ v r,vs=v :: r∧K v r:=by
 cases vs with
 | nil=>exact h.elim
 | cons v r=>exact ⟨v,r,rfl,h⟩
theorem OE:∀ {l:List Sh} {vs:List Value} {K:List Value→Prop},BA l vs K→K vs
 | [],vs,K,h=>by obtain ⟨rfl,h⟩:=h; exact h
 | s :: r,vs,K,h=>by
  simp only [BA] at h
  obtain ⟨v,r',e,h2⟩:=QG h
  subst e
  exact OE (K:=fun vs=>K (v :: vs)) (QF (K:=fun v=>BA r r' fun vs=>K (v :: vs)) h2)
theorem PC:∀ {l:List Sh} {vs:List Value} {K:List Value→Prop},bw.xu l vs K→K vs
 | [],vs,K,h=>by obtain ⟨rfl,h⟩:=h; exact h
 | s :: r,vs,K,h=>by
  cases s
  case cells l=>
   simp only [bw.xu] at h
   obtain ⟨v,r',e,cs,e2,h2⟩:=QG h
   subst e; subst e2
   exact PC (K:=fun vs=>K (.agg ⟨cs⟩ :: vs)) (OE (K:=fun cs=>bw.xu r r' fun vs=>K (.agg ⟨cs⟩ :: vs)) h2)
  all_goals
   simp only [bw.xu] at h
   obtain ⟨v,r',e,h2⟩:=QG h
   subst e
   exact PC (K:=fun vs=>K (v :: vs)) (QF (K:=fun v=>bw.xu r r' fun vs=>K (v :: vs)) h2)
theorem ajv {s:Sh} {v:Value} {K:Value→Prop} (h:bw s v K):K v:=by
 cases s
 case cells l=>obtain ⟨cs,rfl,h⟩:=h; exact OE h
 case JK l=>obtain ⟨cs,rfl,h⟩:=h; exact PC h
 all_goals (simp only [bw] at h; exact QF h)
theorem W8 {dst:Option Nat} {t:TypeId} {v:Value} {K:Value→Prop} (h:ET P dst t v K):K v:=by
 unfold ET at h
 split at h
 ·exact h
 ·split at h
  ·exact h
  ·exact ajv h
section
variable {m:Mode} {ρ:Operand→Option Value} {e:Operand→Value} (hr:rj ρ e)
include hr
theorem ZU {o:Oper} {w:World} {K:Value→World→Prop} (hc:cls P o.op=0) (h:zO P m ρ o w K):rV P e o w K:=by
 obtain ⟨dst,op,ty,ps,af,gd⟩:=o
 simp only at hc
 unfold zO at h
 simp only at h
 split at h
 ·
  rename_i op t x y yt
  split at h
  ·rename_i a b ha hb
   have iO:∀ ys,b≠.agg ys:=fun ys e1=>by
    subst e1
    simp only [cls] at hc
    unfold ES at h
    simp only at h
    split at h
    ·split at h
     ·rename_i hu; rw [hu] at hc; cases hc
     ·exact h
    ·exact h
   obtain ⟨v,h1,h2⟩:=BR h iO x y rfl
   rw [← hr _ _ ha,← hr _ _ hb] at h1
   exact ⟨v,fun w'=>zy (h1 w'),h2⟩
  ·exact h.elim
 ·
  rename_i t x
  split at h
  ·rename_i k n hx
   exact ⟨_,fun w'=>by simp only [execOp,hr _ _ hx]; rfl,EU h⟩
  ·exact h.elim
 ·
  rename_i s d x
  split at h
  ·rename_i k0 k k1 n hs hd hx
   refine ⟨_,fun w'=>?_,EU h⟩
   simp only [execOp,hr _ _ hx,convert]
   rw [Sem.run_bind,Sem.run_bind,run_underlying hs,Result.andThen_ok,Sem.run_bind,run_underlying hd,Result.andThen_ok]
   rfl
  ·rename_i b hs hd hx
   refine ⟨_,fun w'=>?_,h⟩
   simp only [execOp,hr _ _ hx,convert]
   rw [Sem.run_bind,Sem.run_bind,run_underlying hs,Result.andThen_ok,Sem.run_bind,run_underlying hd,Result.andThen_ok]
   rfl
  ·rename_i hs hd hx; simp only [cls,hs,hd] at hc; cases hc
  ·rename_i hs hd hx; simp only [cls,hs,hd] at hc; cases hc
  ·rename_i hs hd hx; simp only [cls,hs,hd] at hc; cases hc
  ·exact h.elim
 ·
  rename_i t x i
  split at h
  ·rename_i b k i hx hi
   split at h
   ·rename_i hu
    obtain ⟨h0,h1,h2⟩:=Y7 h
    obtain ⟨u,h3,h4⟩:=alJ h0 h1
    refine ⟨_,fun w'=>?_,h2⟩
    simp only [execOp,hr _ _ hx,hr _ _ hi,Instr.index,asIntOf]
    rw [Sem.run_bind,Sem.run_bind]
    simp only [Sem.run_pure,Result.andThen_ok]
    rw [Sem.run_bind,run_underlying hu]
    simp only [Result.andThen_ok]
    rw [if_pos h0,h3]
    simp [h4]
   ·exact h.elim
  ·rename_i cs k i hx hi
   split at h
   ·rename_i n el hu
    split at h
    ·rename_i k' cD
     obtain ⟨hk,h⟩:=gF h
     simp only [Bool.and_eq_true,beq_eq] at hk
     obtain ⟨h0,h1,z,h2,h3⟩:=Y7 h
     refine ⟨_,fun w'=>?_,h3⟩
     have h4:cs[i.toNat]? = some (.int k' z):=by simpa using h2
     simp only [execOp,hr _ _ hx,hr _ _ hi,Instr.index,asIntOf]
     rw [Sem.run_bind,Sem.run_bind]
     simp only [Sem.run_pure,Result.andThen_ok]
     rw [Sem.run_bind,run_underlying hu]
     simp only [Result.andThen_ok]
     rw [if_pos ⟨h0,h1⟩,Sem.run_bind,pJ hk.2,Result.andThen_ok,hk.1,Nat.mul_one]
     unfold part
     rw [Sem.run_bind,HZ cD,Result.andThen_ok,if_neg (by simp [tL,cD]),h4]
     rfl
    ·exact h.elim
   ·exact h.elim
  ·exact h.elim
 ·
  rename_i t x i
  split at h
  ·rename_i a n c k i hx hi
   split at h
   ·rename_i el hu
    obtain ⟨hk,h⟩:=gF h
    obtain ⟨⟨hs,h0,h1⟩,h2⟩:=h
    obtain ⟨a,rfl⟩:=Option.isSome_iff_exists.1 hs
    refine ⟨_,fun w'=>?_,h2⟩
    simp only [execOp,hr _ _ hx,hr _ _ hi,Instr.indexAt,asIntOf]
    rw [Sem.run_bind,Sem.run_bind]
    simp only [Sem.run_pure,Result.andThen_ok]
    rw [Sem.run_bind,run_underlying hu]
    simp only [Result.andThen_ok]
    simp [run_underlying hu,h0,h1,pJ hk,Ev.base]
   ·exact h.elim
  ·rename_i a k i hx hi
   split at h
   ·rename_i n el hu
    obtain ⟨hk,h⟩:=gF h
    obtain ⟨⟨h0,h1⟩,h2⟩:=h
    refine ⟨_,fun w'=>?_,h2⟩
    simp only [execOp,hr _ _ hx,hr _ _ hi,Instr.indexAt,asIntOf]
    rw [Sem.run_bind,Sem.run_bind]
    simp only [Sem.run_pure,Result.andThen_ok]
    rw [Sem.run_bind,run_underlying hu]
    simp only [Result.andThen_ok]
    simp [run_underlying hu,h0,h1,pJ hk,Instr.sureAddr]
   ·exact h.elim
  ·exact h.elim
 ·
  rename_i t x lo hi mx
  split at h
  ·rename_i a n c Tq sx mx' hx mq ur FJ
   split at h
   ·rename_i el hu
    obtain ⟨hk,h⟩:=gF h
    obtain ⟨s,h1,l,hh,mm,h2,h3,h4,h5⟩:=X3 h true
    refine ⟨_,fun w'=>?_,h1⟩
    simp only [execOp,hr _ _ hx,uU hr mq,uU hr ur,uU hr FJ,Instr.sliceAt]
    rw [Sem.run_bind,Sem.run_bind,run_underlying hu]
    simp only [Result.andThen_ok,Instr.slice]
    rw [Sem.run_bind,run_underlying hu]
    simp only [Result.andThen_ok]
    rw [Sem.run_bind,h2,Result.andThen_ok]
    simp only []
    rw [Sem.run_bind,pJ hk,Result.andThen_ok,h3,h4,h5]
    rfl
   ·exact h.elim
  ·rename_i a Tq sx mx' hx mq ur FJ
   split at h
   ·rename_i n el hu
    obtain ⟨hk,h⟩:=gF h
    obtain ⟨s,h1,l,hh,mm,h2,h3,h4,h5⟩:=X3 h false
    refine ⟨_,fun w'=>?_,h1⟩
    simp only [execOp,hr _ _ hx,uU hr mq,uU hr ur,uU hr FJ,Instr.sliceAt]
    rw [Sem.run_bind,Sem.run_bind,run_underlying hu]
    simp only [Result.andThen_ok]
    rw [Sem.run_bind]
    simp only [Instr.sureAddr,Sem.run_pure,Result.andThen_ok]
    rw [Sem.run_bind,h2,Result.andThen_ok]
    simp only []
    rw [Sem.run_bind,pJ hk,Result.andThen_ok,h3,h4,h5]
    simp only [Sem.run_pure,Result.andThen_ok,Option.map_some]
    congr 3
    split <;> rfl
   ·exact h.elim
  ·rename_i b Tq sx hx mq ur FJ
   split at h
   ·rename_i hu
    have ql:∃ l hh,(∀ w':World,(Instr.sliceBounds false b.size b.size Tq sx none).run P w'=.ok (l,hh,b.size) w')∧K (.string (b.extract l hh)) w:=by
     unfold ZR at h
     split at h
     ·refine ⟨0,b.size,fun w'=>by simp [Instr.sliceBounds],?_⟩
      have:b.extract 0 b.size=b:=by simp
      rw [this]; exact h
     ·rename_i k hh
      obtain ⟨⟨h0,h1⟩,h⟩:=h
      exact ⟨0,hh.toNat,fun w'=>by simp [Instr.sliceBounds,pn h0 h1],h⟩
     ·rename_i k l
      obtain ⟨⟨h0,h1⟩,h⟩:=h
      exact ⟨l.toNat,b.size,fun w'=>by simp [Instr.sliceBounds,pn h0 h1],h⟩
     ·rename_i k l k' hh
      obtain ⟨⟨h0,h1,h2⟩,h⟩:=h
      have h3:l≤((hh.toNat:Nat):Int):=by omega
      exact ⟨l.toNat,hh.toNat,fun w'=>by simp [Instr.sliceBounds,pn (show 0≤hh by omega) h2,pn h0 h3],h⟩
     ·exact h.elim
    obtain ⟨l,hh,h1,h2⟩:=ql
    refine ⟨_,fun w'=>?_,h2⟩
    simp only [execOp,hr _ _ hx,uU hr mq,uU hr ur,uU hr FJ,Instr.sliceAt]
    rw [Sem.run_bind,Sem.run_bind,run_underlying hu]
    simp only [Result.andThen_ok,Instr.slice]
    rw [Sem.run_bind,run_underlying hu]
    simp only [Result.andThen_ok,Option.isSome_none]
    rw [if_neg (by simp),Sem.run_bind,h1]
    rfl
   ·exact h.elim
  ·exact h.elim
 ·
  rename_i x
  split at h
  ·rename_i p hx
   cases p with
   | none=>exact h.elim
   | some a=>exact ⟨_,fun w'=>by simp only [execOp,hr _ _ hx]; rfl,h⟩
  ·exact h.elim
 ·simp only [cls] at hc; cases hc
 ·simp only [cls] at hc; cases hc
 ·simp only [cls] at hc; cases hc
 ·simp only [cls] at hc; cases hc
 ·simp only [cls] at hc; cases hc
 ·simp only [cls] at hc; cases hc
 ·
  rename_i c
  split at h
  ·exact h.elim
  ·rename_i vs hv
   split at h
   all_goals first
    | exact rV.nS hr h
    | (exfalso; rename_i Ct; simp only [cls] at hc; split at hc <;> simp_all; done)
 ·exact rV.nS hr h
theorem So {o:Oper} {t:TypeId} {x:Operand} {a:Addr} {w:World} {K:Value→World→Prop} (ho:o.op=.load t x) (hx:ρ x=some (.pointer (some a))) (h:Cs P t a w fun v=>K v w) :
  Jw P e o w a (Ev.sizeOf P t) K:=by
 obtain ⟨dst,op,ty,ps,af,gd⟩:=o
 simp only at ho
 subst ho
 obtain ⟨v,h1,h2⟩:=Rw h
 refine ⟨v,fun w' hw=>?_,h1⟩
 simp only [execOp,hr _ _ hx,Instr.loadAt]
 rw [Sem.run_bind,Sem.run_bind]
 simp only [Instr.sureAddr,Sem.run_pure,Result.andThen_ok]
 rw [h2 w' hw]
 rfl
theorem ajw (hP:Good P) {o:Oper} {w:World} {K:Value→World→Prop} (h:zO P m ρ o w K):Out P e o w K:=by
 by_cases hc:cls P o.op=0
 ·exact (ZU hr hc h).out
 obtain ⟨dst,op,ty,ps,af,gd⟩:=o
 simp only at hc
 unfold zO at h
 simp only at h
 split at h
 ·
  rename_i op t x y yt
  split at h
  ·rename_i a b ha hb
   have h':=h
   unfold ES at h
   split at h
   ·obtain ⟨v,h1,h2⟩:=BR h' (by simp) x y rfl
    rw [← hr _ _ ha,← hr _ _ hb] at h1
    exact .inl ⟨v,w,zy (h1 w),h2⟩
   ·obtain ⟨v,h1,h2⟩:=BR h' (by simp) x y rfl
    rw [← hr _ _ ha,← hr _ _ hb] at h1
    exact .inl ⟨v,w,zy (h1 w),h2⟩
   ·obtain ⟨v,h1,h2⟩:=BR h' (by simp) x y rfl
    rw [← hr _ _ ha,← hr _ _ hb] at h1
    exact .inl ⟨v,w,zy (h1 w),h2⟩
   ·rename_i ys
    split at h
    ·rename_i xs
     split at h
     ·obtain ⟨v,w',h1,b,h2,h3⟩:=h
      subst h2
      have hg:∀ (x y:Operand) (w:World),(eqGuard op t x y (.agg xs) (.agg ys)).run P w=(eqGuard op t (.tmp 0) (.tmp 0) (.agg xs) (.agg ys)).run P w:=fun x y w=>by
       unfold eqGuard; cases op <;> rfl
      refine .inl ⟨_,w',zy ?_,h3⟩
      rw [hr _ _ ha,hr _ _ hb,Sem.run_bind,hg,← Sem.run_bind]
      exact h1
     ·exact h.elim
    ·exact h.elim
   ·obtain ⟨v,h1,h2⟩:=BR h' (by simp) x y rfl
    rw [← hr _ _ ha,← hr _ _ hb] at h1
    exact .inl ⟨v,w,zy (h1 w),h2⟩
   ·rename_i arE arF arG an4 arH
    obtain ⟨v,h1,h2⟩:=BR h' (fun ys e1=>an4 ys e1) x y rfl
    rw [← hr _ _ ha,← hr _ _ hb] at h1
    exact .inl ⟨v,w,zy (h1 w),h2⟩
  ·exact h.elim
 ·simp only [cls] at hc; exact absurd trivial hc
 ·
  rename_i s d x
  split at h
  ·rename_i hs hd hx; simp only [cls,hs,hd] at hc; exact absurd trivial hc
  ·rename_i hs hd hx; simp only [cls,hs,hd] at hc; exact absurd trivial hc
  ·rename_i el b hs hd hx
   split at h
   ·rename_i hu
    obtain ⟨v,w',h1,s',h2,h3⟩:=h
    subst h2
    refine .inl ⟨_,w',?_,h3⟩
    simp only [execOp,hr _ _ hx]
    refine zz ?_
    unfold convert
    rw [Sem.run_bind,run_underlying hs,Result.andThen_ok,Sem.run_bind,run_underlying hd,Result.andThen_ok]
    simp only []
    rw [Sem.run_bind,run_underlying hu,Result.andThen_ok]
    exact h1
   ·exact h.elim
  ·rename_i e0 el a n c hs hd hx
   split at h
   ·rename_i hu
    obtain ⟨gY,h⟩:=gF h
    unfold X1 at h
    split at h
    ·rename_i a
     obtain ⟨w',h1,h2⟩:=h
     refine .inl ⟨_,w',?_,h2⟩
     simp only [execOp,hr _ _ hx]
     refine zz ?_
     unfold convert
     rw [Sem.run_bind,run_underlying hs,Result.andThen_ok,Sem.run_bind,run_underlying hd,Result.andThen_ok]
     simp only []
     rw [Sem.run_bind,run_underlying hu,Result.andThen_ok]
     have:(s == d)=true:=by simpa using beq_eq.1 gY
     rw [this]
     simp only []
     rw [Sem.run_bind,h1]
     rfl
    ·exact h.elim
   ·exact h.elim
  ·rename_i el a n c hs hd hx
   split at h
   ·rename_i hu
    obtain ⟨v,w',h1,s',h2,h3⟩:=h
    subst h2
    refine .inl ⟨_,w',?_,h3⟩
    simp only [execOp,hr _ _ hx]
    refine zz ?_
    unfold convert
    rw [Sem.run_bind,run_underlying hs,Result.andThen_ok,Sem.run_bind,run_underlying hd,Result.andThen_ok]
    simp only []
    rw [Sem.run_bind,run_underlying hu,Result.andThen_ok]
    exact h1
   ·exact h.elim
  ·exact h.elim
 ·simp only [cls] at hc; exact absurd trivial hc
 ·simp only [cls] at hc; exact absurd trivial hc
 ·simp only [cls] at hc; exact absurd trivial hc
 ·simp only [cls] at hc; exact absurd trivial hc
 ·
  split at h
  ·rename_i t x _ a hx
   exact (So hr (o:=⟨dst,_,ty,ps,af,gd⟩) rfl hx h).out
  ·exact h.elim
 ·
  rename_i t x y
  split at h
  ·rename_i a v hx hy
   obtain ⟨w',h1,h2⟩:=akK h
   refine .inr (.inl ⟨w',?_,h2⟩)
   simp only [execOp,hr _ _ hx,hr _ _ hy]
   refine aju ?_
   simp only [Instr.storeAt,Instr.sureAddr]
   exact h1
  ·exact h.elim
 ·
  rename_i t
  obtain ⟨hz,h⟩:=gF h
  refine .inl ⟨_,_,?_,h⟩
  simp only [execOp]
  refine zz ?_
  unfold Instr.alloc
  obtain ⟨zv,vS,Av,_⟩:=Q5 (P:=P) hz w
  rw [Sem.run_bind,vS]
  simp only [Result.andThen_ok]
  have:zv.cells=⟨zc P t⟩:=Array.ext' Av
  rw [Sem.run_bind,V9,this]; rfl
 ·
  rename_i t x
  split at h
  ·rename_i v hx
   refine .inl ⟨_,_,?_,h⟩
   simp only [execOp,hr _ _ hx]
   refine zz ?_
   simp only [Instr.box]
   rw [Sem.run_bind,V9]; rfl
  ·exact h.elim
 ·
  rename_i t n pts
  split at h
  ·rename_i el vs hu hv
   split at h
   ·rename_i cs jo
    obtain ⟨hk,h⟩:=gF h
    simp only [Bool.and_eq_true,Nat.ble_eq] at hk
    refine .inl ⟨_,_,?_,h⟩
    simp only [execOp,Wu hr hv]
    refine zz ?_
    unfold Instr.buildSlice
    obtain ⟨Ay,z0,hz,iT⟩:=WC hk.2 n w
    rw [Sem.run_bind,run_underlying hu,Result.andThen_ok]
    simp only []
    rw [Sem.run_bind,pJ Ay,Result.andThen_ok,if_neg (by omega),hz]
    simp only [iT]
    rw [IJ _ _ _ jo]
    simp only []
    rw [Sem.run_bind,Wa]; rfl
   ·exact h.elim
  ·exact h.elim
 ·
  rename_i t l c
  split at h
  ·rename_i el k l' k' c' hu hl vU
   obtain ⟨hz,h⟩:=gF h
   obtain ⟨⟨h0,h1,h2,h3⟩,h4⟩:=h
   refine .inl ⟨_,_,?_,h4⟩
   simp only [execOp,hr _ _ hl,hr _ _ vU]
   refine zz ?_
   unfold Instr.makeSlice
   obtain ⟨Ay,z0,hz,iT⟩:=WC hz c'.toNat w
   cases hi:P.info? el with
   | none=>simp [known,hi] at Ay
   | some i=>
    have hb:Ev.bytesOf P el=i.bytes:=by simp [Ev.bytesOf,hi]
    have wl:IntKind.i64.wrap l'=l':=OD h0 (by simp only [IntKind.max,IntKind.signed,IntKind.bits]; simp; omega)
    have wc:IntKind.i64.wrap c'=c':=OD (by omega) (by simp only [IntKind.max,IntKind.signed,IntKind.bits]; simp; omega)
    rw [Sem.run_bind,run_underlying hu,Result.andThen_ok]
    simp only []
    rw [Sem.run_bind]
    simp only [asInt,asIntOf,pure_bind,Sem.run_pure,Result.andThen_ok]
    rw [Sem.run_bind,Q4 hi,Result.andThen_ok]
    simp only [wl,wc]
    rw [hb] at h3
    have Sq:((decide (c'<0) || decide ((i.bytes:Int) * c' > 2 ^ 48)) || decide (l'<0) || decide (l' > c'))=false:=by
     simp only [Bool.or_eq_false_iff,decide_eq_false_iff_not]
     omega
    rw [if_neg (by rw [Sq]; simp)]
    rw [Sem.run_bind]
    have oK:(askRoom (c'.toNat * i.bytes)).run P w=.ok () w:=by unfold askRoom; split <;> rfl
    rw [oK,Result.andThen_ok,Sem.run_bind,pJ Ay,Result.andThen_ok]
    refine Eq.trans (hz fun zero=>newRow el ((Array.range (c'.toNat * Ev.sizeOf P el)).map (fun x=>zero[x % zero.size]!)) >>= fun a=>pure (.slice (some a) l'.toNat c'.toNat)) ?_
    simp only [iT]
    rw [Sem.run_bind,Wa]; rfl
  ·exact h.elim
 ·
  rename_i c
  split at h
  ·exact h.elim
  ·rename_i vs hv
   have j4:=tA hr hv
   have enter:∀ {f:Nat} {args:List Value},jx P f=true→(ay P f args w fun v w'=>ET P dst ty v fun v'=>K v' w')→(execOp e ⟨dst,.call c,ty,ps,af,gd⟩).run P w=(callFunc f ⟨args⟩).run P w→
     Out P e ⟨dst,.call c,ty,ps,af,gd⟩ w K:=by
    intro f args hb hk Fp
    exact .inr (.inr ⟨f,⟨args⟩,by rw [Fp,VK hP hb],hk.mono fun x w' ⟨v,h1,h2⟩=>⟨v,h1,W8 h2⟩⟩)
   split at h
   ·rename_i Ct
    obtain ⟨v,w',h1,s',h2,h3⟩:=h
    subst h2
    refine .inl ⟨_,w',?_,h3⟩
    simp only [execOp,resolve,j4,Ct,invoke,Sem.run_bind,Sem.run_pure,Result.andThen_ok,builtin]
    simp only [Array.toArray_toList] at h1
    rw [h1]; rfl
   ·rename_i Ct
    obtain ⟨v,w',h1,s',h2,h3⟩:=h
    subst h2
    refine .inl ⟨_,w',?_,h3⟩
    simp only [execOp,resolve,j4,Ct,invoke,Sem.run_bind,Sem.run_pure,Result.andThen_ok,builtin]
    simp only [Array.toArray_toList] at h1
    rw [h1]; rfl
   ·rename_i g Ct
    split at h
    ·rename_i gv hg
     unfold lX at h
     split at h
     ·rename_i f first cap
      obtain ⟨hb,h⟩:=gF h
      refine enter hb h ?_
      simp only [execOp,resolve,j4,Ct,hr _ _ hg,Deferred.ofValue,invoke,Sem.run_bind,Sem.run_pure,Result.andThen_ok]
      congr 2
      apply Array.ext'
      simp
     ·exact h.elim
    ·exact h.elim
   ·exact (rV.nS hr h).out
 ·exact (rV.nS hr h).out
end
end Go.Ev
end
section
set_option linter.unusedVariables false
set_option linter.unusedSimpArgs false
namespace Go.Ev
open Go
variable {P:Program} {n:Nat} {ws:List Nat} {f0:Fr} {ops:Array Oper}
theorem Kn.snd [fN] {s:St} {a:Act} (h:Kn n ws f0 s a) {k:Key} (hs:Sat a k):rj (s.val k) a.eval:=fun _ _ hv=>h.val hs hv
theorem OF {o:Oper} {a:Act} (h:o.guard=none):Region.wanted o (yielded ops a.tmps)=true:=by simp [Region.wanted,h]
theorem OG {o:Oper} {a:Act} {j g:Nat} {b:Bool} (h:o.guard=some (j,b)) (hg:(ops.toList[j]?).bind (·.dst)=some g) :
  Region.wanted o (yielded ops a.tmps)=true↔slot a g=.bool b:=by
 simp only [Region.wanted,h,yielded]
 have rm:(ops[j]?).bind (·.dst)=some g:=by simpa using hg
 rw [rm]
 simp only [Option.bind_some,slot,Array.getD_eq_getD_getElem?]
 cases ht:a.tmps[g]? with
 | none=>simp [undef]
 | some v=>cases v <;> simp
def YR (P:Program) (ops:Array Oper) (o:Oper) (v:Value) (a:Act) (w:World) (rd:Rd):Prop:=
 (Region.wanted o (yielded ops a.tmps)=true∧∀ w',(∀ c∈rd,kept c.2.1 c.2.2 w w')→(execOp a.eval o).run P w'=.ok (.value v) w')∨
 (Region.wanted o (yielded ops a.tmps)=false∧v=undef)
theorem W9 {a:Act} {c x y:Operand} {t:Bool} (hc:a.eval c=.bool t) (dst:Option Nat) (ty:TypeId) (ps:String) (af:Array Edge) (gd:Option (Nat×Bool)) (w:World) :
  (execOp a.eval ⟨dst,.pick c x y,ty,ps,af,gd⟩).run P w=.ok (.value (if t then a.eval x else a.eval y)) w:=by
 simp only [execOp,hc]; rfl
def kB (c:Operand) (b:Bool):Key:=match c with | .tmp t=>[(t,b)] | _=>[]
theorem Iv {a:Act} {c:Operand} {t:Bool} (hc:a.eval c=.bool t):Sat a (kB c t):=by
 cases c <;> simp only [kB] <;> first | exact Sat.nil a | (refine Sat.cons.2 ⟨?_,Sat.nil a⟩; exact hc)
theorem Wc {a:Act} {k l:Key} (h1:Sat a k) (h2:Sat a l):Sat a (k ++ l):=fun x hx=>by
 rcases List.mem_append.1 hx with h | h
 ·exact h1 x h
 ·exact h2 x h
theorem VL [fN] {m:Mode} {o:Oper} {s:St} {a:Act} {w:World} {K:St→World→Prop} (hk:Kn n ws f0 s a) (hd:∀ d,o.dst=some d→d<n∧d∈ws) (hc:cls P o.op≤1) (h:tP P m o s w K) :
  ∃ v s',(∀ w',(∀ t x A,o.op=.load t x→s.val [] x=some (.pointer (some A))→kept A (Ev.sizeOf P t) w w')→(execOp a.eval o).run P w'=.ok (.value v) w')∧Kn n ws f0 s' (a.put o.dst v)∧K s' w:=by
 have hr:rj (s.val []) a.eval:=hk.snd (Sat.nil a)
 obtain ⟨dst,op,ty,ps,af,gd⟩:=o
 unfold tP at h
 simp only at h hc hd
 split at h
 ·rename_i c x y
  unfold Y0 at h
  split at h
  ·rename_i t FK
   have SO:=hr _ _ FK
   have ht:∀ {u:Value},s.val (kB c true) x=some u→t=true→a.eval x=u:=fun hu e=>hk.val (e ▸ Iv SO) hu
   have hf:∀ {u:Value},s.val (kB c false) y=some u→t=false→a.eval y=u:=fun hu e=>hk.val (e ▸ Iv SO) hu
   have fin:∀ {u:Value},(if t then a.eval x else a.eval y)=u→K (s.put dst (some u)) w→
     ∃ v s',(∀ w',(∀ t' x' A,Op.pick c x y=.load t' x'→s.val [] x'=some (.pointer (some A))→kept A (Ev.sizeOf P t') w w')→(execOp a.eval ⟨dst,.pick c x y,ty,ps,af,gd⟩).run P w'=.ok (.value v) w')∧Kn n ws f0 s' (a.put dst v)∧K s' w:=by
    intro u hu hK
    exact ⟨u,_,fun w' _=>by rw [W9 SO,hu],hk.put hd (fun x hx=>by cases hx; rfl),hK⟩
   split at h
   ·rename_i bx by' h1 h2
    refine fin ?_ h
    cases t with
    | true=>simp only [if_true,cond_true]; exact ht h1 rfl
    | false=>simp only [Bool.false_eq_true,if_false,cond_false]; exact hf h2 rfl
   ·rename_i v h1 h2
    cases t with
    | true=>exact fin (by simp only [if_true]; exact ht h1 rfl) h
    | false=>exact h.elim
   ·rename_i v h1 h2
    cases t with
    | true=>exact h.elim
    | false=>exact fin (by simp only [Bool.false_eq_true,if_false]; exact hf h2 rfl) h
   ·rename_i u v _ h1 h2
    cases t with
    | true=>exact fin (by simp only [if_true]; exact ht h1 rfl) h
    | false=>exact fin (by simp only [Bool.false_eq_true,if_false]; exact hf h2 rfl) h
   ·exact h.elim
  ·exact h.elim
 ·rename_i x
  exact ⟨a.eval x,_,fun w' _=>rfl,hk.put hd (fun u hu=>hr _ _ hu),h⟩
 ·rename_i x
  exact ⟨a.eval x,_,fun w' _=>rfl,hk.put hd (fun u hu=>hr _ _ hu),h⟩
 ·rename_i vT qk Az
  by_cases h0:cls P op=0
  ·obtain ⟨v,h1,h2⟩:=ZU hr (o:=⟨dst,op,ty,ps,af,gd⟩) h0 h
   exact ⟨v,_,fun w' _=>h1 w',hk.put hd (fun x hx=>by cases hx; rfl),h2⟩
  ·have h1:cls P op=1:=by omega
   have hl:∃ t x,op=.load t x:=by
    unfold cls at h1
    split at h1 <;> first | exact ⟨_,_,rfl⟩ | cases h1 | (split at h1 <;> cases h1)
   obtain ⟨t,x,rfl⟩:=hl
   unfold zO at h
   simp only at h
   split at h
   ·rename_i A hx
    obtain ⟨v,h2,h3⟩:=So hr (o:=⟨dst,.load t x,ty,ps,af,gd⟩) rfl hx h
    exact ⟨v,_,fun w' hw=>h2 w' (hw t x A rfl hx),hk.put hd (fun x hx=>by cases hx; rfl),h3⟩
   ·exact h.elim
theorem Iw [fN] (hP:Good P) {m:Mode} {o:Oper} {s:St} {a:Act} {w:World} {K:St→World→Prop} {Q:Exit→Act→World→Prop} (hk:Kn n ws f0 s a) (hd:∀ d,o.dst=some d→d<n∧d∈ws)
  (h:tP P m o s w K):o.wp P a w (fun a' w'=>∃ s',Kn n ws f0 s' a'∧K s' w') Q:=by
 by_cases hc:cls P o.op≤1
 ·obtain ⟨v,s',h1,h2,h3⟩:=VL hk hd hc h
  unfold Oper.wp
  rw [h1 w (fun t x A _ _=>kept_refl _ _ _)]
  exact ⟨s',h2,h3⟩
 ·have hr:rj (s.val []) a.eval:=hk.snd (Sat.nil a)
  have h':zO P m (s.val []) o w fun v w'=>K (s.put o.dst (some v)) w':=by
   unfold tP at h
   split at h
   ·rename_i ho; rw [ho] at hc; simp [cls] at hc
   ·rename_i ho; rw [ho] at hc; simp [cls] at hc
   ·rename_i ho; rw [ho] at hc; simp [cls] at hc
   ·exact h
  unfold Oper.wp
  rcases ajw hr hP h' with ⟨v,w',h1,h2⟩ | ⟨w',h1,h2⟩ | ⟨f,args,h1,h2⟩
  ·rw [h1]; exact ⟨_,hk.put hd (fun x hx=>by cases hx; rfl),h2⟩
  ·rw [h1]; exact ⟨_,hk.put hd (fun x hx=>by cases hx; rfl),h2⟩
  ·rw [h1]
   refine Calls.mono h2 fun e w' ⟨v,h3,h4⟩=>?_
   subst h3
   exact ⟨_,hk.put hd (fun x hx=>by cases hx; rfl),h4⟩
theorem Vw [fN] {s:St} {a:Act} (hk:Kn n ws f0 s a) {o:Oper} {j g:Nat} {want:Bool} (hg:o.guard=some (j,want)) (hd:(ops.toList[j]?).bind (·.dst)=some g) :
  Region.wanted o (yielded ops a.tmps)=true↔Sat a ((g,want) :: (match dN g s.cd with | some (k,_)=>k | none=>[])):=by
 rw [OG hg hd,Sat.cons]
 refine ⟨fun h=>⟨h,?_⟩,fun h=>h.1⟩
 cases hl:dN g s.cd with
 | none=>exact Sat.nil a
 | some kv=>
  obtain ⟨k,v⟩:=kv
  simp only
  have:=hk.cd g k v hl
  by_cases hs:Sat a k
  ·exact hs
  ·have h2:=this.2 hs
   rw [h] at h2; cases h2
theorem ahU [fN] {s:St} {a:Act} (hk:Kn n ws f0 s a) {k:Key} (hs:Sat a k) {c x y:Operand} {v:Value} (h:Rt (s.val k c) (s.val (kB c true ++ k) x) (s.val (kB c false ++ k) y)=some v)
  (dst:Option Nat) (ty:TypeId) (ps:String) (af:Array Edge) (gd:Option (Nat×Bool)) (w:World):(execOp a.eval ⟨dst,.pick c x y,ty,ps,af,gd⟩).run P w=.ok (.value v) w:=by
 unfold Rt at h
 split at h
 ·rename_i t bx by' h1 h2 h3
  have FK:a.eval c=.bool t:=hk.val hs h1
  cases h
  rw [W9 FK]
  cases t with
  | true=>rw [if_pos rfl,hk.val (Wc (Iv FK) hs) h2]; rfl
  | false=>rw [if_neg (by simp),hk.val (Wc (Iv FK) hs) h3]; rfl
 ·cases h
theorem Xh [fN] {s:St} {a:Act} (hk:Kn n ws f0 s a) {k:Key} (hs:Sat a k) {o:Oper} {v:Value} (h:Sm P s k o=some v) (w:World):(execOp a.eval o).run P w=.ok (.value v) w:=by
 obtain ⟨dst,op,ty,ps,af,gd⟩:=o
 unfold Sm at h
 simp only at h
 split at h
 ·exact ahU hk hs h dst ty ps af gd w
 ·exact Y4 (hk.snd hs) ⟨dst,_,ty,ps,af,gd⟩ h w
theorem Xj [fN] {s:St} {a:Act} (hk:Kn n ws f0 s a) (vG:∀ o∈ops.toList,∀ d,o.dst=some d→d<n∧d∈ws) {j g:Nat} {want:Bool} (jq:(ops.toList[j]?).bind (·.dst)=some g) :
  ∀ y∈((g,want) :: (match dN g s.cd with | some (k,_)=>k | none=>[]):Key),y.1∈ws:=by
 intro y hy
 cases hy with
 | head=>
  cases hj:ops.toList[j]? with
  | none=>rw [hj] at jq; cases jq
  | some oj=>rw [hj] at jq; exact (vG oj (List.mem_of_getElem? hj) g jq).2
 | tail _ hy=>
  cases hl:dN g s.cd with
  | none=>rw [hl] at hy; cases hy
  | some kv=>
   obtain ⟨k,v⟩:=kv
   rw [hl] at hy
   exact (hk.ins _ (xk hl)).2 y hy
theorem Wd [fN] (vG:∀ o∈ops.toList,∀ d,o.dst=some d→d<n∧d∈ws) {m:Mode} {i:Nat} {o:Oper} {s:St} {a:Act} {w:World} {K:St→World→Prop} (hk:Kn n ws f0 s a) (hd:∀ d,o.dst=some d→d<n∧d∈ws) (hc:cls P o.op≤1) (h:xB P m ops o s w K) :
  ∃ v s',YR P ops o v a w (vl P ops.toList s i o)∧Kn n ws f0 s' (a.put o.dst v)∧K s' w:=by
 have quiet:∀ {s':St},Kn n ws f0 s' a→tP P m o s' w K→Region.wanted o (yielded ops a.tmps)=true→
   (∀ t x A,o.op=.load t x→s'.val [] x=some (.pointer (some A))→(i,A,Ev.sizeOf P t)∈vl P ops.toList s i o)→
   ∃ v s',YR P ops o v a w (vl P ops.toList s i o)∧Kn n ws f0 s' (a.put o.dst v)∧K s' w:=by
  intro s' fH Fp hw SP
  obtain ⟨v,s2,h1,h2,h3⟩:=VL fH hd hc Fp
  exact ⟨v,s2,.inl ⟨hw,fun w' B9=>h1 w' fun t x A ho hv=>B9 _ (SP t x A ho hv)⟩,h2,h3⟩
 unfold xB at h
 split at h
 ·rename_i hg
  refine quiet hk h (OF hg) fun t x A ho hv=>?_
  unfold vl
  rw [ho,hg]
  simp only [hv]
  exact List.mem_singleton.2 rfl
 ·rename_i j want hg
  split at h
  ·exact h.elim
  ·rename_i g jq
   split at h
   ·rename_i b hl
    have hb:=hk.lt g b hl
    have hw:=OG (ops:=ops) (a:=a) hg jq
    cases hs:zH b want with
    | true=>
     rw [hs] at h
     have e:=BC.1 hs
     subst e
     refine quiet hk h (hw.2 hb) fun t x A ho hv=>?_
     unfold vl
     rw [ho,hg]
     simp only [jq,hl,hv]
     exact List.mem_singleton.2 rfl
    | false=>
     rw [hs] at h
     have iN:¬ Region.wanted o (yielded ops a.tmps)=true:=fun hh=>by
      have:=hw.1 hh
      rw [hb] at this
      cases this
      simp [BC.2] at hs
     exact ⟨undef,_,.inr ⟨by simpa using iN,rfl⟩,hk.put hd (fun x hx=>by cases hx; rfl),h⟩
   ·rename_i hl
    have lF:=Vw (ops:=ops) hk hg jq
    have nU:=Xj (want:=want) hk vG jq
    cases he:early o.op with
    | true=>
     rw [he] at h
     simp only [cond_true] at h
     split at h
     ·rename_i v hv
      by_cases hs:Region.wanted o (yielded ops a.tmps)=true
      ·exact ⟨v,_,.inl ⟨hs,fun w' _=>Xh hk (lF.1 hs) hv w'⟩,hk.nM hd nU (fun _=>rfl) (fun hn=>absurd (lF.1 hs) hn),h⟩
      ·exact ⟨undef,_,.inr ⟨by simpa using hs,rfl⟩,hk.nM hd nU (fun hh=>absurd (lF.2 hh) hs) (fun _=>rfl),h⟩
     ·obtain ⟨s',on,fH,h1,h2⟩:=DI _ s _ nU hk h
      cases on with
      | true=>
       exact quiet fH h1 (lF.2 (h2.1 rfl)) fun t x A ho hv=>by rw [ho] at he; cases he
      | false=>
       have hs:¬ Region.wanted o (yielded ops a.tmps)=true:=fun hh=>by have:=h2.2 (lF.1 hh); cases this
       exact ⟨undef,_,.inr ⟨by simpa using hs,rfl⟩,fH.put hd (fun x hx=>by cases hx; rfl),h1⟩
    | false=>
     rw [he] at h
     simp only [cond_false] at h
     split at h
     ·rename_i t x ho
      split at h
      ·rename_i A hx
       by_cases hs:Region.wanted o (yielded ops a.tmps)=true
       ·obtain ⟨v,h1,h2⟩:=So (hk.snd (lF.1 hs)) (o:=o) (K:=fun v w=>K (s.nM o.dst _ v) w) ho hx h
        refine ⟨v,_,.inl ⟨hs,fun w' B9=>h1 w' (B9 (i,A,Ev.sizeOf P t) ?_)⟩,hk.nM hd nU (fun _=>rfl) (fun hn=>absurd (lF.1 hs) hn),h2⟩
        unfold vl
        rw [ho,hg]
        simp only [jq,hl,hx]
        exact List.mem_singleton.2 rfl
       ·obtain ⟨v,h1,h2⟩:=Rw h
        exact ⟨undef,_,.inr ⟨by simpa using hs,rfl⟩,hk.nM hd nU (fun hh=>absurd (lF.2 hh) hs) (fun _=>rfl),h1⟩
      ·exact h.elim
     ·rename_i Tr
      obtain ⟨s',on,fH,h1,h2⟩:=DI _ s _ nU hk h
      cases on with
      | true=>
       exact quiet fH h1 (lF.2 (h2.1 rfl)) fun t x A ho hv=>absurd ho (Tr t x)
      | false=>
       have hs:¬ Region.wanted o (yielded ops a.tmps)=true:=fun hh=>by have:=h2.2 (lF.1 hh); cases this
       exact ⟨undef,_,.inr ⟨by simpa using hs,rfl⟩,fH.put hd (fun x hx=>by cases hx; rfl),h1⟩
theorem X4 [fN] (hP:Good P) (vG:∀ o∈ops.toList,∀ d,o.dst=some d→d<n∧d∈ws) {m:Mode} {o:Oper} {s:St} {a:Act} {w:World} {K:St→World→Prop} {Q:Exit→Act→World→Prop} (hk:Kn n ws f0 s a) (hd:∀ d,o.dst=some d→d<n∧d∈ws)
  (h:xB P m ops o s w K):if Region.wanted o (yielded ops a.tmps) then o.wp P a w (fun a' w'=>∃ s',Kn n ws f0 s' a'∧K s' w') Q else ∃ s',Kn n ws f0 s' (a.put o.dst undef)∧K s' w:=by
 by_cases hc:cls P o.op≤1
 ·obtain ⟨v,s',h1,h2,h3⟩:=Wd (i:=0) vG hk hd hc h
  rcases h1 with ⟨hw,h4⟩ | ⟨hw,rfl⟩
  ·rw [if_pos hw]
   unfold Oper.wp
   rw [h4 w (fun c _=>kept_refl _ _ _)]
   exact ⟨s',h2,h3⟩
  ·rw [if_neg (by simp [hw])]
   exact ⟨s',h2,h3⟩
 ·unfold xB at h
  split at h
  ·rename_i hg
   rw [if_pos (OF hg)]
   exact Iw hP hk hd h
  ·rename_i j want hg
   split at h
   ·exact h.elim
   ·rename_i g jq
    split at h
    ·rename_i b hl
     have hb:=hk.lt g b hl
     have hw:=OG (ops:=ops) (a:=a) hg jq
     cases hs:zH b want with
     | true=>
      rw [hs] at h
      have e:=BC.1 hs
      subst e
      rw [if_pos (hw.2 hb)]
      exact Iw hP hk hd h
     | false=>
      rw [hs] at h
      rw [if_neg (fun hh=>by
       have:=hw.1 hh
       rw [hb] at this
       cases this
       simp [BC.2] at hs)]
      exact ⟨_,hk.put hd (fun x hx=>by cases hx; rfl),h⟩
    ·rename_i hl
     have lF:=Vw (ops:=ops) hk hg jq
     have nU:=Xj (want:=want) hk vG jq
     cases he:early o.op with
     | true=>
      rw [he] at h
      simp only [cond_true] at h
      split at h
      ·rename_i v hv
       by_cases hs:Region.wanted o (yielded ops a.tmps)=true
       ·rw [if_pos hs]
        unfold Oper.wp
        rw [Xh hk (lF.1 hs) hv w]
        exact ⟨_,hk.nM hd nU (fun _=>rfl) (fun hn=>absurd (lF.1 hs) hn),h⟩
       ·rw [if_neg hs]
        exact ⟨_,hk.nM hd nU (fun hh=>absurd (lF.2 hh) hs) (fun _=>rfl),h⟩
      ·obtain ⟨s',on,fH,h1,h2⟩:=DI _ s _ nU hk h
       cases on with
       | true=>
        rw [if_pos (lF.2 (h2.1 rfl))]
        exact Iw hP fH hd h1
       | false=>
        rw [if_neg (fun hh=>by have:=h2.2 (lF.1 hh); cases this)]
        exact ⟨_,fH.put hd (fun x hx=>by cases hx; rfl),h1⟩
     | false=>
      rw [he] at h
      simp only [cond_false] at h
      split at h
      ·rename_i t x ho; rw [ho] at hc; simp [cls] at hc
      ·obtain ⟨s',on,fH,h1,h2⟩:=DI _ s _ nU hk h
       cases on with
       | true=>
        rw [if_pos (lF.2 (h2.1 rfl))]
        exact Iw hP fH hd h1
       | false=>
        rw [if_neg (fun hh=>by have:=h2.2 (lF.1 hh); cases this)]
        exact ⟨_,fH.put hd (fun x hx=>by cases hx; rfl),h1⟩
theorem EC [fN] (hP:Good P) (vG:∀ o∈ops.toList,∀ d,o.dst=some d→d<n∧d∈ws) {m:Mode} {K:Fr→World→Prop} {Q:Exit→Act→World→Prop} (hQ:∀ fr a w,Kn n ws f0 ⟨fr,[],[]⟩ a→K fr w→Q .normal a w) :
  ∀ (l:List Oper) (s:St) (a:Act) (w:World),(∀ o∈l,∀ d,o.dst=some d→d<n∧d∈ws)→Kn n ws f0 s a→vR P m ops l s w K→wpList P ops Q l a w
 | [],s,a,w,_,hk,h=>wpList_nil (hQ s.fr a w hk.out h)
 | o :: r,s,a,w,hd,hk,h=>by
  simp only [vR] at h
  have:=X4 (ops:=ops) (Q:=Q) hP vG hk (hd o List.mem_cons_self) h
  refine wpList_step fun K' hK'=>?_
  have go:∀ a' w',(∃ s',Kn n ws f0 s' a'∧vR P m ops r s' w' K)→K' a' w':=fun a' w' ⟨s',h1,h2⟩=>
   hK' a' w' (EC hP vG hQ r s' a' w' (fun o ho=>hd o (List.mem_cons_of_mem _ ho)) h1 h2)
  split
  ·rename_i hw
   rw [if_pos hw] at this
   exact Oper.wp_mono go this
  ·rename_i hw
   rw [if_neg hw] at this
   exact go _ _ this
end Go.Ev
end
section
set_option linter.unusedVariables false
set_option linter.unusedSimpArgs false
namespace Go.Ev
open Go
variable {P:Program} {n:Nat} {ws:List Nat} {f0:Fr} {ops:Array Oper}
theorem uX {x:Nat} {l:List Nat}:kR x l=true↔x∈l:=by
 induction l with
 | nil=>simp [kR]
 | cons y r ih=>
  simp only [kR]
  cases h:Nat.beq x y with
  | true=>simp [beq_eq.1 h]
  | false=>have:=fI.1 h; simp [ih,this]
theorem WD {o:Oper} {j:Nat}:j∈after o↔∃ e∈o.after,Region.binds .any e=true∧e.on=j:=by
 unfold after
 simp only [List.mem_filterMap,Array.mem_toList_iff]
 constructor
 ·rintro ⟨e,he,h⟩
  cases hb:Region.binds .any e with
  | true=>rw [hb] at h; cases h; exact ⟨e,he,hb,rfl⟩
  | false=>rw [hb] at h; cases h
 ·rintro ⟨e,he,hb,rfl⟩
  exact ⟨e,he,by rw [hb]; rfl⟩
theorem WE {dn l:List Nat}:B4 dn l=true↔∀ j∈l,j∈dn:=by
 induction l with
 | nil=>simp [B4]
 | cons y r ih=>
  simp only [B4]
  cases h:kR y dn with
  | true=>have:=uX.1 h; simp [ih,this]
  | false=>have:y∉dn:=fun hm=>by rw [uX.2 hm] at h; cases h
           simp [this]
structure rq (ops:Array Oper) (dn:List Nat) (listed:Array Bool):Prop where
 size:listed.size=ops.size
 iff:∀ j,j<ops.size→(listed.getD j false=true↔j∈dn)
 lt:∀ j∈dn,j<ops.size
 closed:∀ (j:Nat) (o:Oper),ops[j]? = some o→j∈dn→∀ i∈after o,i∈dn
theorem rq.WG {dn:List Nat} {listed:Array Bool} (h:rq ops dn listed) {j:Nat} (hj:j<ops.size):listed.getD j true=listed.getD j false:=by
 have:j<listed.size:=by rw [h.size]; exact hj
 simp [this]
theorem Xk {dn:List Nat}:∀ {l:List Oper} {k i:Nat} {o:Oper},(i,o)∈lV ops.toList dn k l↔(∃ j,i=k+j∧l[j]? = some o)∧i∉dn∧∀ x∈after o,x∈dn
 | [],k,i,o=>by simp [lV]
 | o' :: r,k,i,o=>by
  have ih:=Xk (dn:=dn) (l:=r) (k:=k+1) (i:=i) (o:=o)
  have split:(∃ j,i=k+j∧(o' :: r)[j]? = some o)↔(i=k∧o'=o)∨(∃ j,i=k+1+j∧r[j]? = some o):=by
   constructor
   ·rintro ⟨j,h1,h2⟩
    cases j with
    | zero=>simp at h2; exact .inl ⟨by omega,h2⟩
    | succ j=>exact .inr ⟨j,by omega,by simpa using h2⟩
   ·rintro (⟨h1,h2⟩ | ⟨j,h1,h2⟩)
    ·exact ⟨0,by omega,by simp [h2]⟩
    ·exact ⟨j+1,by omega,by simpa using h2⟩
  simp only [lV]
  cases h1:kR k dn with
  | true=>
   have hk:=uX.1 h1
   simp only [cond_true,ih,split]
   constructor
   ·rintro ⟨h,h2⟩; exact ⟨.inr h,h2⟩
   ·rintro ⟨h | h,h2,h3⟩
    ·exact absurd (h.1 ▸ hk) h2
    ·exact ⟨h,h2,h3⟩
  | false=>
   have hk:k∉dn:=fun hm=>by rw [uX.2 hm] at h1; cases h1
   simp only [cond_false]
   cases h2:B4 dn (after o') with
   | true=>
    have hf:=WE.1 h2
    simp only [cond_true,List.mem_cons,Prod.mk.injEq,ih,split]
    constructor
    ·rintro (⟨rfl,rfl⟩ | ⟨h,h3⟩)
     ·exact ⟨.inl ⟨rfl,rfl⟩,hk,hf⟩
     ·exact ⟨.inr h,h3⟩
    ·rintro ⟨⟨h3,h4⟩ | h,h5⟩
     ·exact .inl ⟨h3,h4.symm⟩
     ·exact .inr ⟨h,h5⟩
   | false=>
    simp only [cond_false,ih,split]
    constructor
    ·rintro ⟨h,h3⟩; exact ⟨.inr h,h3⟩
    ·rintro ⟨⟨h3,h4⟩ | h,h5,h6⟩
     ·subst h4
      rw [WE.2 h6] at h2; cases h2
     ·exact ⟨h,h5,h6⟩
theorem qJ {dn:List Nat} {i:Nat} {o:Oper}:(i,o)∈lV ops.toList dn 0 ops.toList↔ops[i]? = some o∧i∉dn∧∀ x∈after o,x∈dn:=by
 rw [Xk]
 constructor
 ·rintro ⟨⟨j,h1,h2⟩,h3⟩
  rw [Nat.zero_add] at h1
  subst h1
  exact ⟨by simpa using h2,h3⟩
 ·rintro ⟨h1,h2⟩
  exact ⟨⟨i,(Nat.zero_add i).symm,by simpa using h1⟩,h2⟩
theorem ajx {dn:List Nat} {listed:Array Bool} (h:rq ops dn listed) {j:Nat} (hj:listed.getD j false=true):j<ops.size∧j∈dn:=by
 have bZ:j<ops.size:=by
  rcases Nat.lt_or_ge j listed.size with h' | h'
  ·rw [← h.size]; exact h'
  ·simp [Array.getElem?_eq_none h'] at hj
 exact ⟨bZ,(h.iff j bZ).1 hj⟩
theorem y6 {dn:List Nat} {listed:Array Bool} (h:rq ops dn listed) {i:Nat}:i∈Region.ready .any ops listed↔∃ o,(i,o)∈lV ops.toList dn 0 ops.toList:=by
 rw [mem_ready]
 constructor
 ·rintro ⟨h0,o,ho,l6⟩
  have bZ:i<ops.size:=(Array.getElem?_eq_some_iff.1 ho).1
  refine ⟨o,qJ.2 ⟨ho,fun hm=>?_,fun x hx=>?_⟩⟩
  ·rw [h.WG bZ,(h.iff i bZ).2 hm] at h0; cases h0
  ·obtain ⟨e,he,hb,rfl⟩:=WD.1 hx
   exact (ajx h (l6 e he hb)).2
 ·rintro ⟨o,ho⟩
  obtain ⟨h1,h2,h3⟩:=qJ.1 ho
  have bZ:i<ops.size:=(Array.getElem?_eq_some_iff.1 h1).1
  refine ⟨?_,o,h1,fun e he hb=>?_⟩
  ·rw [h.WG bZ]
   cases hh:listed.getD i false with
   | false=>rfl
   | true=>exact absurd ((h.iff i bZ).1 hh) h2
  ·have hx:=h3 e.on (WD.2 ⟨e,he,hb,rfl⟩)
   exact (h.iff _ (h.lt _ hx)).2 hx
theorem rq.set {dn:List Nat} {listed:Array Bool} (h:rq ops dn listed) {i:Nat} {o:Oper} (ho:(i,o)∈lV ops.toList dn 0 ops.toList):rq ops (i :: dn) (listed.setIfInBounds i true):=by
 obtain ⟨h1,h2,h3⟩:=qJ.1 ho
 have bZ:i<ops.size:=(Array.getElem?_eq_some_iff.1 h1).1
 refine ⟨by simp [h.size],fun j hj=>?_,fun j hj=>?_,fun j oj x9 hm x hx=>?_⟩
 ·by_cases e:i=j
  ·subst e
   have:i<listed.size:=by rw [h.size]; exact bZ
   simp [this]
  ·rw [getD_set_ne false e,h.iff j hj]
   simp [Ne.symm e]
 ·cases hj with
  | head=>exact bZ
  | tail _ hm=>exact h.lt j hm
 ·cases hm with
  | head=>
   rw [h1] at x9; cases x9
   exact List.mem_cons_of_mem _ (h3 x hx)
  | tail _ hm=>exact List.mem_cons_of_mem _ (h.closed j oj x9 hm x hx)
theorem We {acc:List Nat} {i:Nat}:∀ {l:List Nat},Nat.testBit (xC acc l) i=true→∃ x∈l,i=x∨Nat.testBit (acc.getD x 0) i=true
 | [],h=>by simp [xC] at h
 | y :: r,h=>by
  simp only [xC] at h
  have h':Nat.testBit (2 ^ y ||| acc.getD y 0 ||| xC acc r) i=true:=h
  rw [Nat.testBit_or,Nat.testBit_or] at h'
  simp only [Bool.or_eq_true] at h'
  rcases h' with (h1 | h1) | h1
  ·rw [Nat.testBit_two_pow] at h1
   exact ⟨y,List.mem_cons_self,.inl (of_decide_eq_true h1).symm⟩
  ·exact ⟨y,List.mem_cons_self,.inr h1⟩
  ·obtain ⟨x,hx,h2⟩:=We h1
   exact ⟨x,List.mem_cons_of_mem _ hx,h2⟩
theorem WH:∀ (l:List Oper) (acc:List Nat) (j:Nat),(j<acc.length→(lY l acc).getD j 0=acc.getD j 0)∧
  (∀ k o,j=acc.length+k→l[k]? = some o→∃ zR,(∀ x,x<zR.length→zR.getD x 0=(lY l acc).getD x 0)∧zR.length=j∧(lY l acc).getD j 0=xC zR (after o))
 | [],acc,j=>⟨fun _=>rfl,fun k o _ h=>by simp at h⟩
 | o' :: r,acc,j=>by
  have ih:=WH r (acc ++ [xC acc (after o')])
  simp only [lY]
  refine ⟨fun hj=>?_,fun k o hj hk=>?_⟩
  ·rw [(ih j).1 (by simp; omega)]
   simp [List.getD_eq_getElem?_getD,List.getElem?_append_left hj]
  ·cases k with
   | zero=>
    simp at hk; subst hk
    refine ⟨acc,fun x hx=>?_,by omega,?_⟩
    ·rw [(ih x).1 (by simp; omega)]
     simp [List.getD_eq_getElem?_getD,List.getElem?_append_left hx]
    ·rw [(ih j).1 (by simp; omega)]
     subst hj
     simp [List.getD_eq_getElem?_getD]
   | succ k=>exact (ih j).2 k o (by simp; omega) (by simpa using hk)
theorem aiC {dn:List Nat} {listed:Array Bool} (h:rq ops dn listed) {i:Nat}:∀ (j:Nat) (o:Oper),ops[j]? = some o→(∀ x∈after o,x∈dn)→Nat.testBit ((lY ops.toList []).getD j 0) i=true→i∈dn:=by
 intro j
 induction j using Nat.strongRecOn with
 | _ j ih=>
  intro o ho l6 hb
  obtain ⟨zR,h1,h2,h3⟩:=(WH ops.toList [] j).2 j o (by simp) (by simpa using ho)
  rw [h3] at hb
  obtain ⟨x,hx,FL⟩:=We hb
  have Ts:=l6 x hx
  rcases FL with rfl | FL
  ·exact Ts
  ·have bZ:x<zR.length:=by
    rcases Nat.lt_or_ge x zR.length with h' | h'
    ·exact h'
    ·simp [List.getD_eq_getElem?_getD,List.getElem?_eq_none h'] at FL
   rw [h1 x bZ] at FL
   have jR:=h.lt x Ts
   exact ih x (by omega) ops[x] (Array.getElem?_eq_getElem jR) (h.closed x ops[x] (Array.getElem?_eq_getElem jR) Ts) FL
def Q0 (K:Act→World→Prop):Exit→Act→World→Prop:=fun e a w=>match e with | .normal=>K a w | _=>False
def xL (P:Program) (ops:Array Oper) (Q:Act→World→Prop) (mk:List Nat):Nat→Array Bool→Rd→Act→World→Prop
 | 0,listed,_,a,w=>Region.ready .any ops listed=[]∧Q a w
 | f+1,listed,C,a,w=>(Region.ready .any ops listed=[]→Q a w)∧∀ i∈Region.ready .any ops listed,
   wpOp P ops (Q0 Q) i (fun a' w'=>(∀ c∈C,Nat.testBit (mk.getD i 0) c.1=false→kept c.2.1 c.2.2 w w')∧xL P ops Q mk f (listed.setIfInBounds i true) C a' w') a w
theorem Q6 {Q:Act→World→Prop} {mk:List Nat}:∀ {f:Nat} {listed:Array Bool} {C:Rd} {a:Act} {w:World},xL P ops Q mk f listed C a w→wpAny P .any ops (Q0 Q) f listed a w
 | 0,_,_,_,_,h=>h
 | _+1,_,_,_,_,h=>⟨h.1,fun i hi=>wpOp_mono (fun _ _ h=>Q6 h.2) (h.2 i hi)⟩
theorem QH {Q:Act→World→Prop} {mk:List Nat}:∀ {f:Nat} {listed:Array Bool} {C C':Rd} {a:Act} {w:World},(∀ c∈C',c∈C)→xL P ops Q mk f listed C a w→xL P ops Q mk f listed C' a w
 | 0,_,_,_,_,_,_,h=>h
 | _+1,_,_,_,_,_,hs,h=>⟨h.1,fun i hi=>wpOp_mono (fun _ _ h=>⟨fun c hc hb=>h.1 c (hs c hc) hb,QH hs h.2⟩) (h.2 i hi)⟩
theorem YR.wpOp {i:Nat} {o:Oper} {v:Value} {a:Act} {w:World} {rd:Rd} {Q:Exit→Act→World→Prop} (hi:ops[i]? = some o) (hy:YR P ops o v a w rd) {K:Act→World→Prop} (h:K (a.put o.dst v) w):wpOp P ops Q i K a w:=by
 unfold Go.wpOp
 simp only [hi]
 rcases hy with ⟨hw,hv⟩ | ⟨hw,rfl⟩
 ·simp only [hw,if_true,Oper.wp,hv w (fun c _=>kept_refl _ _ _),Oper.upon]; exact .inl h
 ·simp only [hw,Bool.false_eq_true,if_false]; exact h
theorem ahV {a:Addr} {n:Nat} {w w1 w2:World} (h:kept a n w w1) (h':kept a n w1 w2):kept a n w w2:=fun j hj=>(h' j hj).trans (h j hj)
theorem YR.of_same {o:Oper} {v:Value} {a a':Act} {w w':World} {rd:Rd} (hy:YR P ops o v a w rd) (he:execOp a'.eval o=execOp a.eval o)
  (hw:Region.wanted o (yielded ops a'.tmps)=Region.wanted o (yielded ops a.tmps)) (hk:∀ c∈rd,kept c.2.1 c.2.2 w w'):YR P ops o v a' w' rd:=by
 unfold YR at *
 rw [he,hw]
 rcases hy with ⟨h1,h2⟩ | h
 ·exact .inl ⟨h1,fun w2 h3=>h2 w2 fun c hc=>ahV (hk c hc) (h3 c hc)⟩
 ·exact .inr h
theorem aiD {j:Nat} {oi oj:Oper} {v:Value} {rd:Rd} {Q:Act→World→Prop} (hj:ops[j]? = some oj) (vV:oi.apart ops oj=true)
  (hsi:∀ cs b,oi.op≠.select cs b) (hsj:∀ cs b,oj.op≠.select cs b) {K:Act→World→Prop} {a:Act} {w:World}
  (hy:YR P ops oi v a w rd) (B9:∀ a' w',K a' w'→∀ c∈rd,kept c.2.1 c.2.2 w w') (h:wpOp P ops (Q0 Q) j K (a.put oi.dst v) w) :
  wpOp P ops (Q0 Q) j (fun a' w'=>YR P ops oi v a' w' rd∧K (a'.put oi.dst v) w') a w:=by
 obtain ⟨h1,h2,h3⟩:=Oper.apart_spec vV
 have keep:∀ (u:Value) (w':World),(∀ c∈rd,kept c.2.1 c.2.2 w w')→YR P ops oi v (a.put oj.dst u) w' rd:=fun u w' hk=>
  hy.of_same (execOp_put oi hsi a oj.dst u h3) (wanted_put oi a oj.dst u h3) hk
 have fin:∀ u w',K ((a.put oi.dst v).put oj.dst u) w'→YR P ops oi v (a.put oj.dst u) w' rd∧K ((a.put oj.dst u).put oi.dst v) w':=fun u w' hK=>
  ⟨keep u w' (B9 _ _ hK),by rw [← Act.put_comm a v u h2]; exact hK⟩
 unfold wpOp at *
 simp only [hj] at *
 rw [wanted_put oj a oi.dst v h1] at h
 split
 ·rename_i hw
  simp only [hw,if_true] at h
  rcases h with h | ⟨ZV,anh⟩
  case inr=>exact .inr ⟨by unfold Oper.asks at *; rw [execOp_put oj hsj a oi.dst v h1] at ZV; exact ZV,anh⟩
  refine .inl ?_
  unfold Oper.wp at *
  rw [execOp_put oj hsj a oi.dst v h1] at h
  generalize (execOp a.eval oj).run P w=r at *
  cases r with
  | ok n w'=>
   cases n <;> simp only [Oper.upon] at h ⊢
   case value u=>exact fin u w' h
   case skip=>exact fin _ w' h
   case defer d=>
    have hk:=B9 _ _ h
    refine ⟨(keep undef w' hk).of_same (by cases oj.dst <;> rfl) (by cases oj.dst <;> rfl) (fun c _=>kept_refl _ _ _),?_⟩
    rw [← Act.put_comm _ v undef h2,← Act.put_defers]
    exact h
   case enter f args=>
    refine Calls.mono h fun e fA he=>?_
    cases e with
    | returned u=>exact fin u fA he
    | panicked c=>exact he
    | outgrown=>exact he
   case row row args=>exact Rows.mono h fun u fA he=>fin u fA he
  | halt x w'=>
   cases x <;> simp only [Oper.upon] at h ⊢
   case panic u=>exact h
 ·rename_i hw
  simp only [hw] at h
  exact fin _ w h
theorem Xl:∀ {l:List Oper},zI l=true→∀ o∈l,∀ cs b,o.op≠.select cs b
 | [],_,_,h=>by cases h
 | x :: r,h,o,ho=>by
  simp only [zI] at h
  intro cs b e
  cases ho with
  | head=>rw [e] at h; cases h
  | tail _ ho=>
   have hr:zI r=true:=by split at h <;> first | cases h | exact h
   exact Xl hr o ho cs b e
theorem Xm (o:Oper):slotsOf ops.toList o=o.looksAt ops:=by
 unfold slotsOf Oper.looksAt
 congr 1
 cases o.guard with
 | none=>rfl
 | some g=>simp
theorem afK (d:Nat) (l:List Nat):kR d l=l.contains d:=by
 rw [Bool.eq_iff_iff,uX]; simp
theorem aiE {x y:Oper} (h:I2 ops.toList x y=true):x.apart ops y=true:=by
 unfold I2 at h
 unfold Oper.apart
 rw [Xm,Xm] at h
 cases hx:x.dst <;> cases hy:y.dst <;> simp only [hx,hy,afK] at h ⊢
 ·exact h
 ·exact h
 ·rename_i d
  cases hc:(Oper.looksAt ops y).contains d with
  | true=>rw [hc] at h; cases h
  | false=>rfl
 ·rename_i d e
  cases hc:(Oper.looksAt ops y).contains d with
  | true=>rw [hc] at h; cases h
  | false=>
   rw [hc] at h
   simp only [cond_false,Bool.and_eq_true,Bool.not_eq_true',fI] at h
   simp only [Bool.not_false,Bool.true_and,Bool.and_eq_true,Bool.not_eq_true']
   exact ⟨by simp; exact fun e'=>h.1 e'.symm,h.2⟩
theorem VM {i:Nat} {o:Oper}:∀ {l:List Oper} {k:Nat},BB ops.toList i o k l=true→∀ j x,l[j]? = some x→i=k+j∨i∈after x∨(k+j)∈after o∨o.apart ops x=true
 | [],_,_,j,x,hx=>by simp at hx
 | y :: r,k,h,j,x,hx=>by
  simp only [BB] at h
  cases hc:(Nat.beq i k || kR i (after y) || kR k (after o) || I2 ops.toList o y) with
  | false=>rw [hc] at h; cases h
  | true=>
   rw [hc] at h
   cases j with
   | zero=>
    simp at hx; subst hx
    simp only [Bool.or_eq_true,beq_eq,uX] at hc
    rcases hc with ((h1 | h1) | h1) | h1
    ·exact .inl (by omega)
    ·exact .inr (.inl h1)
    ·exact .inr (.inr (.inl (by simpa using h1)))
    ·exact .inr (.inr (.inr (aiE h1)))
   | succ j=>
    have:=VM h j x (by simpa using hx)
    rwa [show k+1+j=k+(j+1) by omega] at this
theorem VN:∀ {l:List Oper} {k:Nat},zl ops.toList k l=true→∀ i o,l[i]? = some o→BB ops.toList (k+i) o 0 ops.toList=true
 | [],_,_,i,o,ho=>by simp at ho
 | y :: r,k,h,i,o,ho=>by
  simp only [zl] at h
  cases hc:BB ops.toList k y 0 ops.toList with
  | false=>rw [hc] at h; cases h
  | true=>
   rw [hc] at h
   cases i with
   | zero=>simp at ho; subst ho; exact hc
   | succ i=>
    have:=VN h i o (by simpa using ho)
    rwa [show k+1+i=k+(i+1) by omega] at this
theorem ajy {dn:List Nat} (vV:zl ops.toList 0 ops.toList=true) {i j:Nat} {oi oj:Oper} (hi:(i,oi)∈lV ops.toList dn 0 ops.toList) (hj:ops[j]? = some oj) (iN:j≠i)
  (Tt:j∉dn) (dz:i∉after oj):oi.apart ops oj=true:=by
 obtain ⟨h1,h2,h3⟩:=qJ.1 hi
 have iT:=VN vV i oi (by simpa using h1)
 rw [Nat.zero_add] at iT
 have:=VM iT j oj (by simpa using hj)
 rw [Nat.zero_add] at this
 rcases this with h | h | h | h
 ·exact absurd h.symm iN
 ·exact absurd h dz
 ·exact absurd (h3 j h) Tt
 ·exact h
theorem aiF {dn:List Nat} {i j:Nat} {o:Oper} (h:(i,o)∈lV ops.toList dn 0 ops.toList) (iN:i≠j):(i,o)∈lV ops.toList (j :: dn) 0 ops.toList:=by
 obtain ⟨h1,h2,h3⟩:=qJ.1 h
 exact qJ.2 ⟨h1,by simp [iN,h2],fun x hx=>List.mem_cons_of_mem _ (h3 x hx)⟩
theorem ahW {Q:Act→World→Prop} (Fq:zI ops.toList=true) (vV:zl ops.toList 0 ops.toList=true) {i:Nat} {oi:Oper} {v:Value} {rd:Rd} (hrd:∀ c∈rd,c.1=i) :
  ∀ (f:Nat) (listed:Array Bool) (dn:List Nat) (C:Rd) (a:Act) (w:World),rq ops dn listed→(i,oi)∈lV ops.toList dn 0 ops.toList→YR P ops oi v a w rd→
   xL P ops Q (lY ops.toList []) f (listed.setIfInBounds i true) (rd ++ C) (a.put oi.dst v) w→xL P ops Q (lY ops.toList []) (f+1) listed C a w:=by
 have cR:∀ (j:Nat) (o:Oper),ops[j]? = some o→∀ cs b,o.op≠.select cs b:=fun j o ho=>Xl Fq o (by
  have:=List.mem_of_getElem? (l:=ops.toList) (i:=j) (a:=o) (by simpa using ho)
  exact this)
 intro f
 induction f with
 | zero=>
  intro listed dn C a w hl hi hy H
  have FM:=(y6 hl).2 ⟨oi,hi⟩
  refine ⟨fun h=>(by rw [h] at FM; cases FM),fun j hj=>?_⟩
  by_cases yh:j=i
  ·subst yh
   exact hy.wpOp (qJ.1 hi).1 ⟨fun c _ _=>kept_refl _ _ _,QH (fun c hc=>List.mem_append_right _ hc) H⟩
  ·have:=ready_mono hj yh
   rw [H.1] at this
   cases this
 | succ f ih=>
  intro listed dn C a w hl hi hy H
  have FM:=(y6 hl).2 ⟨oi,hi⟩
  refine ⟨fun h=>(by rw [h] at FM; cases FM),fun j hj=>?_⟩
  by_cases yh:j=i
  ·subst yh
   exact hy.wpOp (qJ.1 hi).1 ⟨fun c _ _=>kept_refl _ _ _,QH (fun c hc=>List.mem_append_right _ hc) H⟩
  ·have h1:=H.2 j (ready_mono hj yh)
   obtain ⟨oj,hjt⟩:=(y6 hl).1 hj
   obtain ⟨x9,Tt,hja⟩:=qJ.1 hjt
   obtain ⟨hoi,eH,hia⟩:=qJ.1 hi
   have dz:i∉after oj:=fun hm=>eH (hja i hm)
   have an5:Nat.testBit ((lY ops.toList []).getD j 0) i=false:=by
    cases hb:Nat.testBit ((lY ops.toList []).getD j 0) i with
    | false=>rfl
    | true=>exact absurd (aiC hl j oj x9 hja hb) eH
   have h2:=aiD x9 (ajy vV hi x9 yh Tt dz) (cR i oi hoi) (cR j oj x9) hy (fun a' w' hK c hc=>hK.1 c (List.mem_append_left _ hc) (by rw [hrd c hc]; exact an5)) h1
   refine wpOp_mono (fun a' w' h3=>⟨fun c hc hb=>h3.2.1 c (List.mem_append_right _ hc) hb,?_⟩) h2
   refine ih (listed.setIfInBounds j true) (j :: dn) C a' w' (hl.set hjt) (aiF hi (Ne.symm yh)) h3.1 ?_
   rw [Array.setIfInBounds_comm _ _ yh]
   exact h3.2.2
theorem PD {mask:Nat} {w w':World} {A:Prop}:∀ {C:Rd},BJ mask w w' A C→(∀ c∈C,Nat.testBit mask c.1=false→kept c.2.1 c.2.2 w w')∧A
 | [],h=>⟨fun _ h=>(by cases h),h⟩
 | (i,a,n) :: r,h=>by
  simp only [BJ] at h
  cases hb:Nat.testBit mask i with
  | true=>
   rw [hb] at h
   obtain ⟨h1,h2⟩:=PD h
   refine ⟨fun c hc FN=>?_,h2⟩
   cases hc with
   | head=>rw [hb] at FN; cases FN
   | tail _ hc=>exact h1 c hc FN
  | false=>
   rw [hb] at h
   obtain ⟨h0,h⟩:=h
   obtain ⟨h1,h2⟩:=PD h
   refine ⟨fun c hc FN=>?_,h2⟩
   cases hc with
   | head=>exact h0
   | tail _ hc=>exact h1 c hc FN
theorem ahX {s:St} {i:Nat} {o:Oper}:∀ c∈vl P ops.toList s i o,c.1=i:=by
 intro c hc
 unfold vl at hc
 split at hc
 ·split at hc
  ·rw [List.mem_singleton.1 hc]
  ·cases hc
 ·cases hc
theorem Vk:∀ {l:List (Nat×Oper)} {i:Nat} {o:Oper},HH P l=some (i,o)→(i,o)∈l∧cls P o.op≤1
 | [],_,_,h=>by cases h
 | (j,x) :: r,i,o,h=>by
  simp only [HH] at h
  cases hb:Nat.ble (cls P x.op) 1 with
  | true=>rw [hb] at h; cases h; exact ⟨List.mem_cons_self,Nat.le_of_ble_eq_true hb⟩
  | false=>rw [hb] at h; obtain ⟨h1,h2⟩:=Vk h; exact ⟨List.mem_cons_of_mem _ h1,h2⟩
theorem X5 {A:Nat×Oper→Prop}:∀ {l:List (Nat×Oper)},SM A l→∀ x∈l,A x
 | [],_,_,h=>by cases h
 | [x],h,y,hy=>by
  cases hy with
  | head=>exact h
  | tail _ hy=>cases hy
 | x :: z :: r,h,y,hy=>by
  cases hy with
  | head=>exact h.1
  | tail _ hy=>exact X5 (l:=z :: r) h.2 y hy
theorem I4 [fN] (hP:Good P) {m:Mode} {K:Fr→World→Prop} {Q:Act→World→Prop} (hQ:∀ fr a w,Kn n ws f0 ⟨fr,[],[]⟩ a→K fr w→Q a w)
  (Fq:zI ops.toList=true) (vV:zl ops.toList 0 ops.toList=true) (hd:∀ o∈ops.toList,∀ d,o.dst=some d→d<n∧d∈ws) :
  ∀ (f:Nat) (dn:List Nat) (C:Rd) (s:St) (a:Act) (w:World) (listed:Array Bool),rq ops dn listed→Kn n ws f0 s a→Ar P m ops (lY ops.toList []) f dn C s w K→
   xL P ops Q (lY ops.toList []) f listed C a w
 | 0,dn,C,s,a,w,listed,hl,hk,h=>by
  simp only [Ar] at h
  split at h
  ·rename_i ht
   refine ⟨List.eq_nil_iff_forall_not_mem.2 fun i hi=>?_,hQ s.fr a w hk.out h⟩
   obtain ⟨o,ho⟩:=(y6 hl).1 hi
   rw [ht] at ho; cases ho
  ·exact h.elim
 | f+1,dn,C,s,a,w,listed,hl,hk,h=>by
  simp only [Ar] at h
  split at h
  ·rename_i ht
   have qU:Region.ready .any ops listed=[]:=List.eq_nil_iff_forall_not_mem.2 fun i hi=>by
    obtain ⟨o,ho⟩:=(y6 hl).1 hi
    rw [ht] at ho; cases ho
   exact ⟨fun _=>hQ s.fr a w hk.out h,fun i hi=>by rw [qU] at hi; cases hi⟩
  ·rename_i x r ht
   have X6:∀ {i:Nat} {o:Oper},(i,o)∈lV ops.toList dn 0 ops.toList→∀ d,o.dst=some d→d<n∧d∈ws:=fun {i o} ho=>
    hd o (List.mem_of_getElem? (l:=ops.toList) (i:=i) (by simpa using (qJ.1 ho).1))
   split at h
   ·rename_i i o hq
    obtain ⟨hm,hc⟩:=Vk hq
    rw [← ht] at hm
    obtain ⟨v,s',h1,h2,h3⟩:=Wd (i:=i) hd hk (X6 hm) hc h
    have:=I4 hP hQ Fq vV hd f (i :: dn) _ s' _ w _ (hl.set hm) h2 h3
    exact ahW Fq vV ahX f listed dn C a w hl hm h1 this
   ·rw [← ht] at h
    refine ⟨fun qU=>?_,fun i hi=>?_⟩
    ·exfalso
     have hx:x∈lV ops.toList dn 0 ops.toList:=by rw [ht]; exact List.mem_cons_self
     have:=(y6 hl).2 ⟨x.2,by simpa using hx⟩
     rw [qU] at this; cases this
    ·obtain ⟨o,ho⟩:=(y6 hl).1 hi
     have h1:=X5 h (i,o) ho
     have h2:=X4 (ops:=ops) (Q:=Q0 Q) hP hd hk (X6 ho) h1
     unfold wpOp
     rw [(qJ.1 ho).1]
     simp only
     have go:∀ a' w',(∃ s',Kn n ws f0 s' a'∧BJ ((lY ops.toList []).getD i 0) w w' (Ar P m ops (lY ops.toList []) f (i :: dn) C s' w' K) C)→
       (∀ c∈C,Nat.testBit ((lY ops.toList []).getD i 0) c.1=false→kept c.2.1 c.2.2 w w')∧xL P ops Q (lY ops.toList []) f (listed.setIfInBounds i true) C a' w':=fun a' w' ⟨s',h3,h4⟩=>by
      obtain ⟨h5,h6⟩:=PD h4
      exact ⟨h5,I4 hP hQ Fq vV hd f (i :: dn) C s' a' w' _ (hl.set ho) h3 h6⟩
     split
     ·rename_i hw
      rw [if_pos hw] at h2
      exact .inl (Oper.wp_mono go h2)
     ·rename_i hw
      rw [if_neg hw] at h2
      exact go _ _ h2
theorem Y8 [fN] (hP:Good P) {m:Mode} {draw:Bool} {id:Nat} {fr:Fr} {a:Act} {w:World} {K:Fr→World→Prop} {Q:Exit→Act→World→Prop} (hQ:∀ fr a w,Kn n ws f0 ⟨fr,[],[]⟩ a→K fr w→Q .normal a w)
  (hd:∀ o∈ops.toList,∀ d,o.dst=some d→d<n∧d∈ws) (hk:Kn n ws f0 ⟨fr,[],[]⟩ a) (h:As P m ops draw fr w K):(Code.region id ops draw).wp P Q a w:=by
 unfold As at h
 cases draw with
 | false=>
  exact wp_region_list (EC hP hd hQ _ _ a w hd hk h)
 | true=>
  obtain ⟨hc,h⟩:=gF h
  simp only [Bool.and_eq_true] at hc
  have hl:rq ops [] (Array.replicate ops.size false):=⟨by simp,fun j hj=>(by simp [hj]),fun j hj=>(by cases hj),fun j o _ hm=>(by cases hm)⟩
  have h1:=I4 hP (Q:=fun a w=>Q .normal a w) (fun fr a w h1 h2=>hQ fr a w h1 h2) hc.1 hc.2 hd _ [] [] _ a w.drew _ hl hk h
  have h2:(Code.region id ops true).wp P (Q0 fun a w=>Q .normal a w) a w:=wp_region_any hP.mixed (by
   have:=Q6 h1
   rw [Array.length_toList] at this
   exact this)
  exact wp_mono h2 fun e a w hq=>by cases e <;> first | exact hq | exact hq.elim
end Go.Ev
end
section
set_option linter.unusedVariables false
set_option linter.unusedSimpArgs false
namespace Go.Ev
open Go
variable {P:Program} {n:Nat} {m:Mode} {J L:q9}
structure KF [fN] (n:Nat) (fr:Fr) (a:Act):Prop where
 size:a.tmps.size=n
 defers:a.defers=fN.ds
 fr:∀ t v,look t fr=some v→slot a t=v
theorem KF.kn [fN] {fr:Fr} {a:Act} (h:KF n fr a) (ws:List Nat):Kn n ws fr ⟨fr,[],[]⟩ a:=
 ⟨h.size,h.defers,fun t v hl _=>h.fr t v hl,fun t k v hl=>(by cases hl),List.nodup_nil,fun g b hl=>(by cases hl),fun t kv hl=>(by cases hl),fun _ _=>rfl,fun x hx=>(by cases hx)⟩
theorem Kn.kf [fN] {ws:List Nat} {f0 fr:Fr} {a:Act} (h:Kn n ws f0 ⟨fr,[],[]⟩ a):KF n fr a:=⟨h.size,h.defers,fun t v hl=>h.fr t v hl rfl⟩
theorem BE:∀ {l:List Oper} {d:Nat},d∈pU l↔∃ o∈l,o.dst=some d
 | [],d=>by simp [pU]
 | o :: r,d=>by
  simp only [pU]
  cases ho:o.dst with
  | none=>simp [BE (l:=r),ho]
  | some x=>
   simp only [List.mem_cons,BE (l:=r)]
   constructor
   ·rintro (rfl | ⟨o',h1,h2⟩)
    ·exact ⟨o,.inl rfl,ho⟩
    ·exact ⟨o',.inr h1,h2⟩
   ·rintro ⟨o',h1 | h1,h2⟩
    ·subst h1; rw [ho] at h2; cases h2; exact .inl rfl
    ·exact .inr ⟨o',h1,h2⟩
def Fs (ws:List Nat) (f g:Fr):Prop:=∀ t,t∉ws→look t g=look t f
set_option linter.unusedVariables false
theorem VO (t:Nat) (f g:Fr):look t (f ++ g)=if t∈f.map (·.1) then look t f else look t g:=by
 induction f with
 | nil=>simp
 | cons y r ih=>
  obtain ⟨s,v⟩:=y
  simp only [List.cons_append,look]
  cases hb:Nat.beq s t with
  | true=>simp [beq_eq.1 hb]
  | false=>
   have:t≠s:=fun e=>fI.1 hb e.symm
   simp only [cond_false,ih,List.map_cons,List.mem_cons,this,false_or]
theorem PE (ws:List Nat) (t:Nat):∀ (f:Fr),look t (strip ws f)=if t∈ws then none else look t f
 | []=>by simp [strip,look]
 | (s,v) :: r=>by
  have ih:=PE ws t r
  simp only [strip]
  cases hw:kR s ws with
  | true=>
   simp only [cond_true,ih,look]
   cases hb:Nat.beq s t with
   | true=>have:=uX.1 hw; rw [beq_eq.1 hb] at this; simp [this]
   | false=>rfl
  | false=>
   simp only [cond_false,look]
   cases hb:Nat.beq s t with
   | true=>
    have:t∉ws:=fun hm=>by rw [← beq_eq.1 hb] at hm; rw [uX.2 hm] at hw; cases hw
    simp [this]
   | false=>simpa using ih
theorem VP (fr:Fr):∀ ls:List (Nat×Sh),(carry fr ls).map (·.1)=ls.map (·.1)
 | []=>rfl
 | (t,s) :: r=>by simp [carry,VP fr r]
theorem Wf (fr:Fr) (t:Nat):∀ ls:List (Nat×Sh),t∈ls.map (·.1)→look t (carry fr ls)=look t fr
 | [],h=>by cases h
 | (s,x) :: r,h=>by
  simp only [carry,look]
  cases hb:Nat.beq s t with
  | true=>rw [beq_eq.1 hb]; rfl
  | false=>
   have:t≠s:=fun e=>fI.1 hb e.symm
   simp [this] at h
   exact Wf fr t r (by simpa using h)
theorem xo {ws:List Nat}:∀ {ls:List (Nat×Sh)},xI ls ws=true→∀ t∈ls.map (·.1),t∈ws
 | [],_,t,h=>by cases h
 | (s,x) :: r,h,t,ht=>by
  simp only [xI] at h
  cases hw:kR s ws with
  | true=>
   rw [hw] at h
   rcases List.mem_cons.1 ht with h1 | h1
   ·rw [h1]; exact uX.1 hw
   ·exact xo h t h1
  | false=>rw [hw] at h; cases h
theorem Vl {s:Sh} {F:Value→Prop} (h:∀ v,F v):II s F:=by
 cases s <;> simp only [II] <;> intros <;> exact h _
theorem UO:∀ {l:List Sh} {F:List Value→Prop},(∀ v,F v)→QD l F
 | [],F,h=>h []
 | s :: r,F,h=>Vl fun v=>UO fun vs=>h (v :: vs)
theorem ahh {s:Sh} {F:Value→Prop} (h:∀ v,F v):Sj s F:=by
 cases s
 case cells l=>exact UO fun vs=>h _
 all_goals (simp only [Sj]; exact Vl h)
theorem wP:∀ {ls:List (Nat×Sh)} {F:Fr→Prop},(∀ fr:Fr,fr.map (·.1)=ls.map (·.1)→F fr)→zJ ls F
 | [],F,h=>h [] rfl
 | (t,s) :: r,F,h=>ahh fun v=>wP fun fr hf=>h _ (by simp [hf])
theorem tC [fN] {ws:List Nat} {f f':Fr} {ls:List (Nat×Sh)} {a:Act} (h:KF n f' a) (hs:∀ t,t∉ws→look t f'=look t f):KF n (carry f' ls ++ strip ws f) a:=by
 refine ⟨h.size,h.defers,fun t v hl=>?_⟩
 rw [VO,VP] at hl
 split at hl
 ·rename_i hm
  rw [Wf f' t ls hm] at hl
  exact h.fr t v hl
 ·rw [PE] at hl
  split at hl
  ·cases hl
  ·rename_i hw
   exact h.fr t v ((hs t hw).trans hl)
theorem y7 {ws:List Nat} {f fr:Fr} {ls:List (Nat×Sh)} (hf:fr.map (·.1)=ls.map (·.1)) (eH:∀ t∈ls.map (·.1),t∈ws) {t:Nat} (ht:t∉ws):look t (fr ++ strip ws f)=look t f:=by
 rw [VO,hf,if_neg (fun hm=>ht (eH t hm)),PE,if_neg ht]
def Jk (P:Program) (c:Code) (Q:Exit→Act→World→Prop) (a:Act) (w:World):Prop:=
 ∀ (b:Frame) (k:List Item) (cs:List Frame),∃ e a' w',Q e a' w'∧Arrives P (lone (b.at a (.code c :: .inLoop c :: k)) cs w) b k cs e a' w'
theorem ajz {c:Code} {Q:Exit→Act→World→Prop} {a:Act} {w:World} (h:c.wp P (Exit.then (Jk P c Q) Q) a w):Jk P c Q a w:=by
 intro b k cs
 obtain ⟨e,a₁,w₁,hq,iL⟩:=h b (.inLoop c :: k) cs
 cases e with
 | normal=>
  obtain ⟨e₂,a₂,w₂,EV,Eo⟩:=hq b k cs
  exact ⟨e₂,a₂,w₂,EV,.of_steps (Steps.trans iL (.one step_inLoop)) Eo⟩
 | exit id=>exact ⟨_,a₁,w₁,hq,.pass (x:=.inLoop c) rfl (fun _ _=>.inl (by simp)) iL⟩
 | goto l=>exact ⟨_,a₁,w₁,hq,.pass (x:=.inLoop c) rfl (fun _ _=>.inl (by simp)) iL⟩
 | ret=>exact ⟨_,a₁,w₁,hq,.pass (x:=.inLoop c) rfl (fun _ _=>.inl (by simp)) iL⟩
 | panic ch=>exact ⟨_,a₁,w₁,hq,.pass (x:=.inLoop c) rfl (fun _ _=>.inl (by simp)) iL⟩
 | outgrown=>exact ⟨_,a₁,w₁,hq,.pass (x:=.inLoop c) rfl (fun _ _=>.inl (by simp)) iL⟩
theorem akL {c:Code} {Q:Exit→Act→World→Prop} {a:Act} {w:World} (h:Jk P c Q a w):(Code.loop c).wp P Q a w:=by
 intro b k cs
 obtain ⟨e,a',w',hq,iL⟩:=h b k cs
 exact ⟨e,a',w',hq,.of_steps (.one step_loop) iL⟩
theorem rJ [fN] (hP:Good P):∀ (c:Code),(∀ d∈writes c,d<n)→∀ {fr:Fr} {a:Act} {w:World} {Q':pX} {Q:Exit→Act→World→Prop},KF n fr a→
  (∀ e aO a' w',KF n aO a'→Fs (writes c) fr aO→Q' e aO w'→Q e a' w')→fM P m J L c fr w Q'→c.wp P Q a w
 | .skip,_,fr,a,w,Q',Q,hk,hq,h=>wp_skip (hq _ _ _ _ hk (fun _ _=>rfl) h)
 | .exit id,_,fr,a,w,Q',Q,hk,hq,h=>wp_exit (hq _ _ _ _ hk (fun _ _=>rfl) h)
 | .ret,_,fr,a,w,Q',Q,hk,hq,h=>wp_ret (hq _ _ _ _ hk (fun _ _=>rfl) h)
 | .region id ops draw,hw,fr,a,w,Q',Q,hk,hq,h=>by
  refine Y8 (n:=n) (ws:=pU ops.toList) (f0:=fr) (m:=m) hP (K:=fun aO w'=>Q' .normal aO w') (fun aO a' w' h1 h2=>hq .normal aO a' w' h1.kf (fun t ht=>h1.zP t ht) h2) (fun o ho d hd=>?_) (hk.kn _) h
  have:d∈pU ops.toList:=BE.2 ⟨o,ho,hd⟩
  exact ⟨hw d this,this⟩
 | .cond c x y,hw,fr,a,w,Q',Q,hk,hq,h=>by
  simp only [fM] at h
  split at h
  ·rename_i t ht
   have hc:=(hk.kn []).val (Sat.nil a) ht
   have hx:∀ d∈writes x,d<n:=fun d hd=>hw d (List.mem_append_left _ hd)
   have hy:∀ d∈writes y,d<n:=fun d hd=>hw d (List.mem_append_right _ hd)
   refine wp_cond hc ?_
   cases t with
   | true=>
    exact rJ hP x hx hk (fun e aO a' w' h1 h2 h3=>hq e aO a' w' h1 (fun t ht=>h2 t (fun hm=>ht (List.mem_append_left _ hm))) h3) h
   | false=>
    exact rJ hP y hy hk (fun e aO a' w' h1 h2 h3=>hq e aO a' w' h1 (fun t ht=>h2 t (fun hm=>ht (List.mem_append_right _ hm))) h3) h
  ·exact h.elim
 | .block id c,hw,fr,a,w,Q',Q,hk,hq,h=>by
  refine wp_block (rJ hP c hw hk (fun e aO a' w' h1 h2 h3=>?_) h)
  cases e with
  | exit i=>
   simp only [Ek] at h3
   simp only [Exit.inBlock]
   cases hb:Nat.beq i id with
   | true=>rw [hb] at h3; rw [if_pos (beq_eq.1 hb)]; exact hq _ _ _ _ h1 h2 h3
   | false=>rw [hb] at h3; rw [if_neg (fI.1 hb)]; exact hq _ _ _ _ h1 h2 h3
  | _=>exact hq _ _ _ _ h1 h2 h3
 | .seq x y,hw,fr,a,w,Q',Q,hk,hq,h=>by
  have hx:∀ d∈writes x,d<n:=fun d hd=>hw d (List.mem_append_left _ hd)
  have hy:∀ d∈writes y,d<n:=fun d hd=>hw d (List.mem_append_right _ hd)
  simp only [fM] at h
  refine wp_seq ?_
  split at h
  ·refine rJ hP x hx hk (fun e aO a' w' h1 h2 h3=>?_) h
   have off:∀ e,Q' e aO w'→Q e a' w':=fun e h4=>hq e aO a' w' h1 (fun t ht=>h2 t (fun hm=>ht (List.mem_append_left _ hm))) h4
   cases e with
   | normal=>
    exact rJ hP y hy h1 (fun e gO a2 w2 h4 h5 h6=>hq e gO a2 w2 h4 (fun t ht=>
     (h5 t (fun hm=>ht (List.mem_append_right _ hm))).trans (h2 t (fun hm=>ht (List.mem_append_left _ hm)))) h6) h3
   | _=>exact off _ h3
  ·rename_i ls CL
   obtain ⟨eH,h⟩:=gF h
   have eH:=xo eH
   have h':=h (fun gA w'=>∀ a',KF n (gA ++ strip (writes x) fr) a'→y.wp P Q a' w') (wP fun gA hf w' AA a' fH=>
    rJ hP y hy fH (fun e gO a2 w2 h4 h5 h6=>hq e gO a2 w2 h4 (fun t ht=>
     (h5 t (fun hm=>ht (List.mem_append_right _ hm))).trans (y7 hf eH (fun hm=>ht (List.mem_append_left _ hm)))) h6) AA)
   refine rJ hP x hx hk (fun e aO a' w' h1 h2 h3=>?_) h'
   have off:∀ e,Q' e aO w'→Q e a' w':=fun e h4=>hq e aO a' w' h1 (fun t ht=>h2 t (fun hm=>ht (List.mem_append_left _ hm))) h4
   cases e with
   | normal=>exact h3 a' (tC h1 h2)
   | _=>exact off _ h3
 | .loop c,hw,fr,a,w,Q',Q,hk,hq,h=>by
  simp only [fM] at h
  split at h
  ·exact h.elim
  ·rename_i ls CL
   obtain ⟨eH,h⟩:=gF h
   have eH:=xo eH
   have h':=h (fun gA w'=>∀ a',KF n (gA ++ strip (writes c) fr) a'→Jk P c Q a' w') (wP fun gA hf w' vU a' fH=>ajz (
    rJ hP c hw fH (fun e gO a2 w2 h4 h5 h6=>by
     have same:∀ t,t∉writes c→look t gO=look t fr:=fun t ht=>(h5 t ht).trans (y7 hf eH ht)
     have off:∀ e,Q' e gO w2→Q e a2 w2:=fun e h7=>hq e gO a2 w2 h4 same h7
     cases e with
     | normal=>exact h6 a2 (tC h4 same)
     | _=>exact off _ h6) vU))
   exact akL (h' a (tC hk (fun _ _=>rfl)))
 | .rangeFunc ..,_,_,_,_,_,_,_,_,h=>(by simp only [fM] at h)
 | .scope c,hw,fr,a,w,Q',Q,hk,hq,h=>by
  simp only [fM] at h
  refine wp_scope_straight (rJ hP c hw hk (fun e aO a' w' h1 h2 h3=>?_) h)
  cases e with
  | goto l=>exact h3.elim
  | _=>exact hq _ _ _ _ h1 h2 h3
 | .label l,hw,fr,a,w,Q',Q,hk,hq,h=>by
  simp only [fM] at h
  exact wp_label (hq _ _ _ _ hk (fun _ _=>rfl) h)
 | .goto _,_,_,_,_,_,_,_,_,h=>(by simp only [fM] at h)
 | .refuse _,_,_,_,_,_,_,_,_,h=>(by simp only [fM] at h)
theorem QI [fN] {fr:Fr} {a:Act} (hk:KF n fr a) {w:World}:∀ {l:List ResultVar} {K:List Value→Prop},vq P fr w l K→
  ∃ vs,vs.length=l.length∧(l.mapM fun | .tmp t=>pure (a.tmps.getD t undef) | .cell x t=>do loadVar t (← asAddr (a.tmps.getD x undef)):Sem (List Value)).run P w=.ok vs w∧K vs
 | [],K,h=>⟨[],rfl,rfl,h⟩
 | .tmp t :: r,K,h=>by
  simp only [vq] at h
  split at h
  ·rename_i v hv
   obtain ⟨vs,h1,h2,h3⟩:=QI hk h
   refine ⟨v :: vs,by simp [h1],?_,h3⟩
   have hs:a.tmps.getD t undef=v:=hk.fr t v hv
   rw [List.mapM_cons,Sem.run_bind]
   simp only [Sem.run_pure,Result.andThen_ok]
   rw [Sem.run_bind,h2,hs]; rfl
  ·exact h.elim
 | .cell t ty :: r,K,h=>by
  simp only [vq] at h
  split at h
  ·rename_i p hv
   obtain ⟨v,h0,h1⟩:=Rw h
   obtain ⟨vs,h2,h3,h4⟩:=QI hk h0
   refine ⟨v :: vs,by simp [h2],?_,h4⟩
   have hs:a.tmps.getD t undef=.pointer (some p):=hk.fr t _ hv
   rw [List.mapM_cons,Sem.run_bind]
   show ((asAddr (a.tmps.getD t undef) >>= fun p=>loadVar ty p).run P w).andThen _=_
   have e1:(asAddr (a.tmps.getD t undef) >>= fun p=>loadVar ty p).run P w=.ok v w:=by rw [hs]; exact h1 w (kept_refl _ _ _)
   rw [e1,Result.andThen_ok,Sem.run_bind,h3]; rfl
  ·exact h.elim
theorem Bp [fN] {fn:Func} {fr:Fr} {a:Act} (hk:KF n fr a) {w:World} {R:Value→World→Prop} (h:vq P fr w fn.results.toList (I3 R w)) :
  ∃ v,(results fn a.tmps).run P w=.ok v w∧R v w:=by
 obtain ⟨vs,h1,h2,h3⟩:=QI hk h
 have hm:(fn.results.mapM fun | .tmp t=>pure (a.tmps.getD t undef) | .cell x t=>do loadVar t (← asAddr (a.tmps.getD x undef)):Sem (Array Value)).run P w=.ok ⟨vs⟩ w:=by
  rw [Array.mapM_eq_mapM_toList,Sem.run_map,h2]; rfl
 refine ⟨if h:(Array.mk vs).size=1 then (Array.mk vs)[0] else .tuple ⟨vs⟩,?_,?_⟩
 ·unfold results
  rw [Sem.run_bind]
  exact (congrArg (fun r=>Result.andThen r fun (vs:Array Value) w'=>Sem.run P (pure (if h:vs.size=1 then vs[0] else .tuple vs)) w') hm).trans rfl
 ·match vs,h3 with
  | [],h3=>exact h3
  | [v],h3=>exact h3
  | v :: u :: r,h3=>exact h3
theorem Ih:∀ {l:List Value} {i t:Nat} {v:Value},look t (vF i l)=some v→i≤t∧l[t - i]? = some v
 | [],_,_,_,h=>by cases h
 | x :: r,i,t,v,h=>by
  simp only [vF,look] at h
  cases hb:Nat.beq i t with
  | true=>
   rw [hb] at h; cases h
   have:=beq_eq.1 hb
   exact ⟨by omega,by simp [this]⟩
  | false=>
   rw [hb] at h
   have iN:=fI.1 hb
   obtain ⟨h1,h2⟩:=Ih h
   refine ⟨by omega,?_⟩
   rw [show t - i=(t - (i+1))+1 by omega]
   simpa using h2
theorem Ij {n:Nat}:∀ {l:List Nat},B7 n l=true→∀ d∈l,d<n
 | [],_,d,h=>by cases h
 | x :: r,h,d,hd=>by
  simp only [B7] at h
  cases hb:Nat.blt x n with
  | true=>
   rw [hb] at h
   rcases List.mem_cons.1 hd with h1 | h1
   ·rw [h1]; exact Nat.le_of_ble_eq_true hb
   ·exact Ij h d h1
  | false=>rw [hb] at h; cases h
theorem aL (hP:Good P) {f:FuncId} {fn:Func} (hf:P.funcs[f]? = some fn) {args:List Value} (EW:Nat.ble args.length fn.ntmps=true) {w:World} {R:Value→World→Prop}
  (h:aK P m J L fn args w R):Ok P f args w R:=by
 have hlen:args.length≤fn.ntmps:=Nat.le_of_ble_eq_true EW
 unfold aK at h
 split at h
 ·rename_i c hc
  obtain ⟨bZ,h⟩:=gF h
  refine calls_of_wp hf hc (rJ (n:=fn.ntmps) (m:=m) (J:=J) (L:=L) hP c (Ij bZ) (fr:=vF 0 args) ⟨?_,rfl,fun t v hl=>?_⟩ (fun e aO a' w' hk _ hq=>?_) h)
  ·simp; omega
  ·obtain ⟨_,h2⟩:=Ih hl
   have h3:args[t]? = some v:=by simpa using h2
   have h4:t<args.length:=(List.getElem?_eq_some_iff.1 h3).1
   show Array.getD _ t undef=v
   rw [Array.getD_eq_getD_getElem?,Array.getElem?_append_left (by simpa using h4)]
   simp [h3]
  ·cases e with
   | normal=>
    obtain ⟨v,h1,h2⟩:=Bp (fn:=fn) hk hq
    exact ⟨hk.defers,v,h1,v,rfl,h2⟩
   | ret=>
    obtain ⟨v,h1,h2⟩:=Bp (fn:=fn) hk hq
    exact ⟨hk.defers,v,h1,v,rfl,h2⟩
   | _=>exact hq.elim
 ·exact h.elim
#print axioms aL
end Go.Ev
end
section
set_option linter.unusedVariables false
set_option linter.unusedSimpArgs false
namespace Go.Ev
open Go Go.RowKit
variable {P:Program}
structure Mod (S:List Nat) (w w':World):Prop where
 os:w'.os=w.os
 tape:w'.tape=w.tape
 output:w'.output=w.output
 size:w.heap.size≤w'.heap.size
 block:∀ k,k<w.heap.size→k∉S→w'.heap[k]? = w.heap[k]?
theorem Mod.refl (S:List Nat) (w:World):Mod S w w:=⟨rfl,rfl,rfl,Nat.le_refl _,fun _ _ _=>rfl⟩
theorem Mod.trans' {S T:List Nat} {w w1 w2:World} (h:Mod S w w1) (k:Mod T w1 w2) (hT:∀ b∈T,b∈S∨w.heap.size≤b):Mod S w w2:=
 ⟨k.os.trans h.os,k.tape.trans h.tape,k.output.trans h.output,Nat.le_trans h.size k.size,fun b hb hn=>
  (k.block b (Nat.lt_of_lt_of_le hb h.size) (fun hm=>(hT b hm).elim hn (fun h1=>by omega))).trans (h.block b hb hn)⟩
theorem Mod.trans {S:List Nat} {w w1 w2:World} (h:Mod S w w1) (k:Mod S w1 w2):Mod S w w2:=h.trans' k fun _ hb=>.inl hb
theorem Mod.then {S:List Nat} {w w1 w2:World} (h:Mod S w w1) (k:Mod [] w1 w2):Mod S w w2:=h.trans' k fun _ hb=>by cases hb
theorem Mod.mono {S T:List Nat} {w w':World} (h:Mod S w w') (hs:∀ b∈S,b∈T):Mod T w w':=
 ⟨h.os,h.tape,h.output,h.size,fun b hb hn=>h.block b hb fun hm=>hn (hs b hm)⟩
theorem Mod.of_nil {T:List Nat} {w w':World} (h:Mod [] w w'):Mod T w w':=h.mono fun _ hb=>by cases hb
theorem Mod.drew (S:List Nat) (w:World):Mod S w w.drew:=⟨rfl,rfl,rfl,Nat.le_refl _,fun _ _ _=>rfl⟩
theorem Mod.alloc (S:List Nat) (w:World) (o:Obj):Mod S w (w.alloc o):=⟨rfl,rfl,rfl,by simp,fun k hk _=>Below.heap_alloc _ _ _ hk⟩
theorem Mod.setCell (w:World) (a:Addr) (v:Value):Mod [a.block] w (w.setCell a v):=
 ⟨rfl,rfl,rfl,by simp,fun k _ hn=>Below.heap_setCell _ _ _ _ (fun e=>hn (by simp [e]))⟩
theorem Mod.grown {w w':World} {row:Option Nat} (h:w.grownBy w' row):Mod row.toList w w':=
 ⟨h.os,h.tape,h.output,h.size,fun k hk hn=>h.block k hk (fun e=>hn (by rw [← e]; simp))⟩
theorem Mod.below {w w':World} (h:Mod [] w w'):Below w.heap.size w w':=⟨h.os,h.tape,h.output,h.size,fun k hk=>h.block k hk (by simp)⟩
theorem Mod.cell? {S:List Nat} {w w':World} (h:Mod S w w') {a:Addr} (ha:a.block<w.heap.size) (hn:a.block∉S):w'.cell? a=w.cell? a:=
 World.cell?_of_block (h.block _ ha hn)
theorem Mod.cell {S:List Nat} {w w':World} (h:Mod S w w') {a:Addr} {v:Value} (hv:w.cell? a=some v) (hn:a.block∉S):w'.cell? a=some v:=
 (h.cell? (World.block_lt_of_cell? _ _ hv) hn).trans hv
theorem Mod.pP {w w':World} (h:Mod [] w w') {a:Addr} {v:Value} (hv:w.cell? a=some v):w'.cell? a=some v:=h.cell hv (by simp)
theorem Ep {S:List Nat} {w w':World} (h:Mod S w w') {a:Addr} {n:Nat} (ha:a.block<w.heap.size) (hn:a.block∉S):kept a n w w':=fun j _=>by
 have:(a.add j).block=a.block:=by unfold Addr.add; split <;> rfl
 exact h.cell? (this ▸ ha) (this ▸ hn)
theorem zm {w w':World} (h:Mod [] w w') {a:Addr} {n:Nat} {v:Value} (ha:w.cell? a=some v):kept a n w w':=Ep h (World.block_lt_of_cell? _ _ ha) (by simp)
def bX (w:World) (b:Nat) (cs:List Value) (t:TypeId):Prop:=w.heap[b]? = some (.cells ⟨cs⟩ t (0,0))
section
variable {w w':World} {b:Nat} {cs:List Value} {t:TypeId}
theorem bX.lt (h:bX w b cs t):b<w.heap.size:=(Array.getElem?_eq_some_iff.1 h).1
theorem bX.cell (h:bX w b cs t) (i:Nat):w.cell? ⟨b,i,none⟩=cs[i]?:=by
 unfold bX at h; simp [World.cell?,h]
theorem bX.frozen (h:bX w b cs t) (i:Nat):w.frozen? ⟨b,i,none⟩=false:=by
 unfold bX at h; simp [World.frozen?,h]
theorem bX.mod {S:List Nat} (h:bX w b cs t) (hm:Mod S w w') (hn:b∉S):bX w' b cs t:=(hm.block b h.lt hn).trans h
theorem bX.aG (h:bX w b cs t) (hm:Mod [] w w'):bX w' b cs t:=h.mod hm (by simp)
theorem bX.new (w:World) (cs:List Value) (t:TypeId):bX (w.alloc (.cells ⟨cs⟩ t)) w.heap.size cs t:=by
 unfold bX World.alloc; simp
theorem bX.set (h:bX w b cs t) (i:Nat) (v:Value):bX (w.setCell ⟨b,i,none⟩ v) b (cs.set i v) t:=by
 unfold bX at *
 simp only [World.setCell,Array.getElem?_modify,if_true,h,Option.map_some]
 simp
end
theorem tM (b o n:Nat):Addr.add ⟨b,o,none⟩ n=⟨b,o+n,none⟩:=by
 unfold Addr.add; split <;> simp_all
theorem jI (a:Addr) (n:Nat):(a.add n).block=a.block:=by unfold Addr.add; split <;> rfl
theorem add_add (a:Addr) (m n:Nat):(a.add m).add n=a.add (m+n):=by
 unfold Addr.add
 split <;> split <;> simp_all <;> omega
theorem bV {b:Bool} {A B:Prop} (h1:b=true→A) (h2:b=false→B):aA b A B:=by cases b <;> first | exact h2 rfl | exact h1 rfl
theorem ite_true {b:Bool} {A B:Prop} (hb:b=true) (h:A):aA b A B:=by rw [hb]; exact h
theorem ite_false {b:Bool} {A B:Prop} (hb:b=false) (h:B):aA b A B:=by rw [hb]; exact h
theorem aB {f:FuncId} {args:List Value} {w:World} {R K:Value→World→Prop} (h:Ok P f args w R) (hk:∀ v w',R v w'→K v w'):ay P f args w K:=
 Calls.mono h fun _ _ ⟨v,h1,h2⟩=>⟨v,h1,hk v _ h2⟩
theorem Ok.mono {f:FuncId} {args:List Value} {w:World} {R K:Value→World→Prop} (h:Ok P f args w R) (hk:∀ v w',R v w'→K v w'):Ok P f args w K:=aB h hk
theorem qM {t:TypeId} {cs:List Value} {w:World} {K:Addr→World→Prop} (h:∀ b w',b=w.heap.size→bX w' b cs t→Mod [] w w'→w'.heap.size=w.heap.size+1→K ⟨b,0,none⟩ w'):nw t cs w K:=
 h _ _ rfl (bX.new w cs t) (Mod.alloc _ _ _) (by simp)
theorem ani {a:Addr} {u v:Value} {w:World} {K:World→Prop} (h1:w.cell? a=some u) (h2:w.frozen? a=false) (h3:ey v=true) (h:K (w.setCell a v)):st a v w K:=
 ⟨⟨u,h1⟩,h2,by cases v <;> first | exact h | cases h3⟩
theorem RN {b i:Nat} {v:Value} {w:World} {cs:List Value} {t:TypeId} {K:World→Prop} (hb:bX w b cs t) (hi:i<cs.length) (h3:ey v=true)
  (h:∀ w',bX w' b (cs.set i v) t→Mod [b] w w'→w'.heap.size=w.heap.size→K w'):st ⟨b,i,none⟩ v w K:=
 ani (u:=cs[i]) (by rw [hb.cell]; simp [hi]) (hb.frozen i) h3 (h _ (hb.set i v) (Mod.setCell w ⟨b,i,none⟩ v) (by simp))
theorem Wg {t:TypeId} {b:Nat}:∀ (l:List Value) (cs:List Value) (w:World) (o:Nat),bX w b cs t→o+l.length≤cs.length→
  bX (setRow w ⟨b,0,none⟩ o l) b (cs.take o ++ (l ++ cs.drop (o+l.length))) t∧Mod [b] w (setRow w ⟨b,0,none⟩ o l)∧(setRow w ⟨b,0,none⟩ o l).heap.size=w.heap.size
 | [],cs,w,o,hb,_=>by simp [setRow]; exact ⟨hb,Mod.refl _ _⟩
 | v :: r,cs,w,o,hb,hl=>by
  simp only [List.length_cons] at hl
  have h1:=hb.set o v
  obtain ⟨h2,h3,h4⟩:=Wg r (cs.set o v) (w.setCell ⟨b,o,none⟩ v) (o+1) h1 (by simp; omega)
  simp only [setRow]
  rw [tM,Nat.zero_add]
  refine ⟨?_,(Mod.setCell w ⟨b,o,none⟩ v).trans h3,by rw [h4]; simp⟩
  have e:(cs.set o v).take (o+1) ++ (r ++ (cs.set o v).drop (o+1+r.length))=cs.take o ++ (v :: r ++ cs.drop (o+(v :: r).length)):=by
   have bZ:o<cs.length:=by omega
   rw [List.take_succ_eq_append_getElem (by simpa using bZ)]
   simp only [List.getElem_set_self,List.take_set_of_le (Nat.le_refl _),List.append_assoc,List.cons_append,List.nil_append,List.length_cons]
   rw [List.drop_set_of_lt (by omega),show o+1+r.length=o+(r.length+1) by omega]
  rw [← e]; exact h2
theorem X7 {n b:Nat} {l cs:List Value} {w:World} {t:TypeId} {K:World→Prop} (hb:bX w b cs t) (hl:l.length=n) (hn:n≤cs.length) (h1:∀ v∈l,ey v=true)
  (h:∀ w',bX w' b (l ++ cs.drop n) t→Mod [b] w w'→w'.heap.size=w.heap.size→K w'):kT n ⟨b,0,none⟩ l w K:=by
 obtain ⟨h2,h3,h4⟩:=Wg l cs w 0 hb (by omega)
 refine ⟨hl,fun i hi=>?_,h1,h _ ?_ h3 h4⟩
 ·rw [tM,Nat.zero_add]
  exact ⟨⟨cs[i]'(by omega),by rw [hb.cell]; simp [show i<cs.length by omega]⟩,hb.frozen i⟩
 ·rw [← hl]; simpa using h2
theorem X8 {n b:Nat} {cs:List Value} {w:World} {t:TypeId} {K:List Value→Prop} (hb:bX w b cs t) (hn:n≤cs.length) (h:K (cs.take n)):iF n ⟨b,0,none⟩ w K:=
 ⟨cs.take n,(by simp; omega),fun i v hv=>(by
  rw [tM,Nat.zero_add,hb.cell]
  rw [List.getElem?_take] at hv
  split at hv
  ·exact hv
  ·cases hv),h⟩
structure Sl (w:World) (s:ah) (sz:Nat) (vs:List Value):Prop where
 len:vs.length=s.n * sz
 cap:s.n≤s.c
 pre:0<s.n→s.a.isSome=true
 cell:∀ i v,vs[i]? = some v→w.cell? ((base s.a).add i)=some v
def off (S:List Nat) (s:ah):Prop:=0<s.n→∀ a,s.a=some a→a.block∉S
theorem jW (s:ah):off [] s:=fun _ _ _=>by simp
theorem Sl.mod {w w':World} {s:ah} {sz:Nat} {vs:List Value} (h:Sl w s sz vs) {S:List Nat} (hm:Mod S w w') (hn:off S s):Sl w' s sz vs:=by
 refine ⟨h.len,h.cap,h.pre,fun i v hv=>?_⟩
 have h1:=h.cell i v hv
 refine hm.cell h1 ?_
 rw [jI]
 have h0:0<s.n:=by
  rcases Nat.eq_zero_or_pos s.n with e | e
  ·have:=h.len; rw [e,Nat.zero_mul] at this
   have:=List.length_eq_zero_iff.1 this; rw [this] at hv; simp at hv
  ·exact e
 obtain ⟨a,ha⟩:=Option.isSome_iff_exists.1 (h.pre h0)
 rw [ha]; exact hn h0 a ha
theorem Sl.aG {w w':World} {s:ah} {sz:Nat} {vs:List Value} (h:Sl w s sz vs) (hm:Mod [] w w'):Sl w' s sz vs:=h.mod hm (jW s)
theorem Sl.block {w:World} {s:ah} {sz:Nat} {vs:List Value} (h:Sl w s sz vs) (j5:0<sz) (h0:0<s.n) {a:Addr} (ha:s.a=some a):a.block<w.heap.size:=by
 have hl:0<vs.length:=by rw [h.len]; exact Nat.mul_pos h0 j5
 have h1:=h.cell 0 vs[0] (by simp [hl])
 have:=World.block_lt_of_cell? _ _ h1
 rw [jI,ha] at this
 exact this
theorem Sl.akM {w:World} {s:ah} {sz:Nat} {vs:List Value} (h:Sl w s sz vs) (j5:0<sz) {S:List Nat} (hS:∀ b∈S,w.heap.size≤b):off S s:=fun h0 a ha hb=>by
 have:=h.block j5 h0 ha
 have:=hS _ hb
 omega
theorem Sl.nil (w:World) (sz:Nat):Sl w ⟨none,0,0⟩ sz []:=⟨by simp,by simp,by simp,by simp⟩
def aan (w:World) (s:ah) (k:IntKind) (xs:List Int):Prop:=Sl w s 1 (xs.map (Value.int k))∧∀ x∈xs,k.min≤x∧x≤k.max
def aao (P:Program) (t e:TypeId) (sz bytes:Nat):Bool:=
 (match P.underlying t with | some (.slice e')=>Nat.beq e' e | _=>false) &&
 (match P.info? e with | some i=>Nat.beq i.size sz && Nat.beq i.bytes bytes && (match i.zero with | some z=>Nat.beq z.cells.toList.length sz | none=>false) | none=>false) && Nat.ble 1 sz
structure fk (P:Program) (t e:TypeId) (sz bytes:Nat):Prop where
 sy:P.underlying t=some (.slice e)
 pos:0<sz
 info:∃ i z,P.info? e=some i∧i.zero=some z∧i.size=sz∧i.bytes=bytes∧z.cells.size=sz
theorem fk.of {t e:TypeId} {sz bytes:Nat} (h:aao P t e sz bytes=true):fk P t e sz bytes:=by
 unfold aao at h
 simp only [Bool.and_eq_true] at h
 obtain ⟨⟨h1,h2⟩,h3⟩:=h
 refine ⟨?_,Nat.le_of_ble_eq_true h3,?_⟩
 ·split at h1
  ·rename_i e' he; rw [he,beq_eq.1 h1]
  ·cases h1
 ·split at h2
  ·rename_i i hi
   simp only [Bool.and_eq_true,beq_eq] at h2
   obtain ⟨⟨h4,h5⟩,h6⟩:=h2
   split at h6
   ·rename_i z hz; exact ⟨i,z,hi,hz,h4,h5,by simpa using beq_eq.1 h6⟩
   ·cases h6
  ·cases h2
def Own (w:World) (lo:Nat) (e:TypeId) (sz:Nat) (s:ah) (vs:List Value):Prop:=w.ownsRow lo e sz s.v s.n vs
def ah.row (s:ah):List Nat:=match s.a with | some a=>[a.block] | none=>[]
theorem Own.sl {w:World} {lo:Nat} {e:TypeId} {sz:Nat} {s:ah} {vs:List Value} (h:Own w lo e sz s vs):Sl w s sz vs:=by
 obtain ⟨a,n,c⟩:=s
 obtain ⟨hl,h1 | ⟨g,cap,cur,h1,h2,h3,h4,h5,h6,h7⟩⟩:=h
 ·obtain ⟨h1,h2⟩:=h1
  simp only [ah.v,Value.slice.injEq] at h1
  obtain ⟨rfl,rfl,rfl⟩:=h1
  simp only [Nat.zero_mul] at hl
  have:=List.length_eq_zero_iff.1 hl
  subst this
  exact Sl.nil w sz
 ·simp only [ah.v,Value.slice.injEq] at h1
  obtain ⟨rfl,-,rfl⟩:=h1
  refine ⟨hl,h4,fun _=>rfl,fun i v hv=>?_⟩
  show w.cell? (Addr.add ⟨g,0,none⟩ i)=some v
  rw [tM,Nat.zero_add]
  unfold World.cell?
  simp only [h3]
  rw [← h7] at hv
  rw [List.getElem?_take] at hv
  split at hv
  ·simpa using hv
  ·cases hv
theorem Own.nil (w:World) (lo:Nat) (e:TypeId) (sz:Nat):Own w lo e sz ⟨none,0,0⟩ []:=World.ownsRow_nil w lo e sz
theorem Own.ED {w:World} {lo:Nat} {e:TypeId} {sz:Nat} {s:ah} {vs:List Value} (h:Own w lo e sz s vs):∀ b∈s.row,lo≤b∧b<w.heap.size:=by
 intro b hb
 obtain ⟨a,n,c⟩:=s
 unfold ah.row at hb
 cases a with
 | none=>cases hb
 | some a=>
  have iO:b=a.block:=by simpa using hb
  have:=World.ownsRow.lt h a.block rfl
  rw [iO]; exact this
theorem akN {t ty e:TypeId} {sz bytes lo:Nat} {s x:ah} {vs us:List Value} {w:World} (cD:fk P t e sz bytes) (hs:Own w lo e sz s vs) (hx:Sl w x sz us)
  (h1:∀ u∈us,ey u=true) (hb:(s.n+x.n) * bytes≤140737488355328) (hm:s.n+x.n≤maxLen) (mq:lo≤w.heap.size) :
  ∃ s':ah,∃ w',(Builtin.append_ #[t,t] ty #[s.v,x.v]).run P w=.ok s'.v w'∧Own w' lo e sz s' (vs ++ us)∧Mod s.row w w'∧s'.n=s.n+x.n∧(∀ b∈s'.row,b∈s.row∨w.heap.size≤b):=by
 obtain ⟨i,z,hi,hz,j5,oX,jS⟩:=cD.info
 have CM:∀ u∈us,u.oneCell'=true:=fun u hu=>by
  have:=h1 u hu
  cases u <;> first | rfl | cases this
 obtain ⟨xa,xn,xc⟩:=x
 cases xa with
 | none=>
  have h0:xn=0:=by
   rcases Nat.eq_zero_or_pos xn with e | e
   ·exact e
   ·cases hx.pre e
  have h2:=hx.cap
  subst h0
  have hu:us=[]:=List.eq_nil_of_length_eq_zero (by simpa using hx.len)
  subst hu
  have hr:(Builtin.append_ #[t,t] ty #[s.v,.slice none 0 xc]).run P w=.ok s.v w:=by
   obtain ⟨sa,sn,sc⟩:=s
   rcases hs.2 with ⟨hv,hn⟩ | ⟨g,cap,cur,hv,_,_,CN,_⟩
   ·simp only [ah.v,Value.slice.injEq] at hv
    obtain ⟨rfl,rfl,rfl⟩:=hv
    simp [ah.v,Builtin.append_,run_underlying cD.sy,Go.sizeOf,Go.typeInfo,hi,Builtin.lenOf,Builtin.firstCells]
   ·simp only [ah.v,Value.slice.injEq] at hv
    obtain ⟨rfl,-,rfl⟩:=hv
    simp [ah.v,Builtin.append_,run_underlying cD.sy,Go.sizeOf,Go.typeInfo,hi,Builtin.lenOf,Builtin.firstCells,CN,storeCells]
  exact ⟨s,w,hr,by simpa using hs,Mod.refl _ _,by simp,fun b hb=>.inl hb⟩
 | some xa=>
  obtain ⟨sa,sn,sc⟩:=s
  have bU:us.length=xn * sz:=hx.len
  have uu:∀ j u,us[j]? = some u→w.cell? (xa.add j)=some u:=hx.cell
  rcases hs.2 with ⟨hv,hn⟩ | ⟨g,cap,cur,hv,hlg,hg,CN,vW,jo,Ch⟩
  ·simp only [ah.v,Value.slice.injEq] at hv
   obtain ⟨rfl,rfl,rfl⟩:=hv
   have vX:vs=[]:=List.eq_nil_of_length_eq_zero (by simpa using hs.1)
   subst vX
   obtain ⟨v',w',hr,ho,hg,hi⟩:=run_append_own (P:=P) w w.heap.size t ty e i z sz bytes cD.sy hi hz j5 oX jS cD.pos (.slice none 0 0) 0 [] (World.ownsRow_nil w _ e sz) xa xn xc us bU uu CM
    (by simpa using hm) (by simpa using hb) (Nat.le_refl _)
   have aap:Mod [] w w':=⟨hg.os,hg.tape,hg.output,hg.size,fun k hk _=>hg.block k hk (by simp [Value.ownBlock])⟩
   simp only [Nat.zero_add] at ho
   rcases ho.2 with ⟨rfl,h0⟩ | ⟨g,cap,cur,rfl,h3,h4,h5⟩
   ·subst h0
    exact ⟨⟨none,0,0⟩,w',hr,⟨ho.1,.inl ⟨rfl,rfl⟩⟩,aap.of_nil,rfl,by simp [ah.row]⟩
   ·exact ⟨⟨some ⟨g,0,none⟩,xn,cap⟩,w',hr,⟨ho.1,.inr ⟨g,cap,cur,rfl,Nat.le_trans mq h3,h4,h5⟩⟩,aap.of_nil,by simp,fun b hb=>by
     simp only [ah.row,List.mem_singleton] at hb; subst hb; exact .inr h3⟩
  ·simp only [ah.v,Value.slice.injEq] at hv
   obtain ⟨rfl,-,rfl⟩:=hv
   have an6:∀ {w'},w.grownBy w' (some g)→Mod (ah.row ⟨some ⟨g,0,none⟩,sn,sc⟩) w w':=fun hg=>by simpa [ah.row] using Mod.grown hg
   by_cases oK:sn+xn≤sc
   ·obtain ⟨w',hr,ho,hg⟩:=run_append_fits (P:=P) w lo t ty e i sz cD.sy hi j5 g sn sc vs hs xa xn xc us bU uu CM oK
    exact ⟨⟨some ⟨g,0,none⟩,sn+xn,sc⟩,w',hr,ho,an6 hg,rfl,fun b hb=>.inl hb⟩
   ·have holds:∀ j u,vs[j]? = some u→w.cell? ((⟨g,0,none⟩:Addr).add j)=some u:=World.ownsRow.cells (g:=g) hs rfl
    subst j5 oX
    have FO:sn+xn≤9223372036854775807:=by have h:sn+xn≤maxLen:=hm; simp only [maxLen] at h; omega
    have hr:=run_append_grow (P:=P) w t ty e i z cD.sy hi hz ⟨g,0,none⟩ sn sc vs hs.1 holds xa xn xc us bU uu (by omega) (by omega) (growslice_fits (by omega) hb)
    have vY:=grownCap_ge w (sn+xn) sc e
    have vW:grownCap w (sn+xn) sc e≤maxLen:=grownCap_le_maxLen w (sn+xn) sc e hm
    have hlen:(vs ++ us).length=(sn+xn) * i.size:=by rw [List.length_append,hs.1,bU,Nat.add_mul]
    refine ⟨⟨some ⟨w.heap.size,0,none⟩,sn+xn,grownCap w (sn+xn) sc e⟩,_,hr,⟨hlen,.inr ⟨w.heap.size,_,_,rfl,mq,heap_alloc_new w.drew _,vY,vW,?_,?_⟩⟩,(Mod.drew _ w).trans (Mod.alloc _ w.drew _),rfl,?_⟩
    ·simp only [Array.size_append,List.size_toArray,size_zeroCells,jS,hs.1,bU,← Nat.add_mul]
     congr 1
     omega
    ·simp only [Array.toList_append,List.append_assoc]
     rw [← List.append_assoc,← hlen]
     exact List.take_left
    ·intro b hb
     simp only [ah.row,List.mem_singleton] at hb
     exact .inr (by omega)
theorem akO {t ty e:TypeId} {sz bytes lo:Nat} {s x:ah} {vs us:List Value} {w:World} {K:ah→World→Prop} (cD:fk P t e sz bytes) (hs:Own w lo e sz s vs) (hx:Sl w x sz us)
  (h1:∀ u∈us,ey u=true) (hb:(s.n+x.n) * bytes≤140737488355328) (hm:s.n+x.n≤9223372036854775807) (mq:lo≤w.heap.size)
  (hk:∀ s' w',Own w' lo e sz s' (vs ++ us)→Mod s.row w w'→s'.n=s.n+x.n→(∀ b∈s'.row,b∈s.row∨w.heap.size≤b)→K s' w'):cJ P [t,t] ty [s.v,x.v] w K:=by
 obtain ⟨s',w',hr,h2,h3,h4,h5⟩:=akN (ty:=ty) cD hs hx h1 hb (by simp only [maxLen]; omega) mq
 exact ⟨_,w',hr,s',rfl,hk s' w' h2 h3 h4 h5⟩
end Go.Ev
end
section
set_option linter.unusedVariables false
set_option linter.unusedSimpArgs false
namespace Go.Ev
open Go Go.RowKit Go.ChangeShapes Go.WideShapes Go.ChangeAt
variable {H:Type} {enc:TypeId×Value→H} {P:Program}
theorem adL {W W':World} (hb:Below W.heap.size W W') (may:MemPlace→Prop):W.keptBut W' may:=by
 refine ⟨hb.os,hb.output,fun i hi=>?_⟩
 rw [hb.block i hi]
 cases W.heap[i]? with
 | none=>rfl
 | some o=>cases o <;> simp
def EE (P:Program) (ts:List TypeId):Bool:=ts.all fun t=>P.readableRec t && decide (t<P.types.size)
theorem Vm (hl:laidOutB P=true) {W W':World} (hb:Below W.heap.size W W'):∀ {ts:List TypeId} {vs:List Value} {ds:List (DataW H)} {ps:List MemPlace},EE P ts=true→
  DataW.TrodAll enc P W 0 (fun _=>true) true ts vs ds ps→DataW.TrodAll enc P W' 0 (fun b=>decide (b<W.heap.size)) true ts vs ds ps
 | [],[],[],_,_,h=>h
 | t :: ts,v :: vs,d :: ds,ps,ht,h=>by
  have bZ:=DataW.TrodAll.lt h
  obtain ⟨p,q,h1,h2,rfl⟩:=h
  simp only [EE,List.all_cons,Bool.and_eq_true,decide_eq_true_eq] at ht
  exact ⟨p,q,Below.trod hl ht.1.1 ht.1.2 h1 hb (fun x hx=>bZ x (List.mem_append_left _ hx)),Vm hl hb (by simpa [EE] using ht.2) h2,rfl⟩
 | [],[],_ :: _,_,_,h=>h.elim
 | [],_ :: _,_,_,_,h=>by cases ‹List (DataW H)› <;> exact h.elim
 | _ :: _,[],_,_,_,h=>by cases ‹List (DataW H)› <;> exact h.elim
 | _ :: _,_ :: _,[],_,_,h=>h.elim
theorem ajA {f:Func} {s:ChangeSpec} {apart fresh handsOn:Bool} {W W':World} {args:Array Value} {ds gs:List (DataW H)} {before:List MemPlace} {tb:TypeId}
  (hW:DataW.Whole enc P f.params.toList s.vars apart W args.toList ds gs before) (hb:Below W.heap.size W W') (hl:laidOutB P=true) (ht:EE P f.params.toList=true) (hr:f.resultTypes=#[tb]) (anj:P.underlying tb=some .bool)
  (hv:s.vars=[]) (hf:s.fn H ds={ results:=[.lit (.bool true)],args:=ds }):s.post enc P f apart fresh handsOn false W args (.bool true) W':=by
 have Tu:=hW
 obtain ⟨p,q,h1,h2,h3,h4,h5⟩:=hW
 rw [hv] at h2
 obtain ⟨rfl,rfl⟩:=trodVars_none h2
 refine ⟨ds,[],before,[],p,[],Tu,?_,?_,?_,adL hb _,fun h=>by cases h⟩
 ·rw [List.append_nil,hf,hr]
  exact trodAll_cons_mk (shut_bool anj _) trodAll_mk0
 ·rw [List.append_nil,hf]
  exact Vm hl hb ht h1
 ·rw [List.append_nil,hf,hv]
  rfl
end Go.Ev
end
section
set_option linter.unusedVariables false
set_option linter.unusedSimpArgs false
namespace Go.Proofs.YtgjoehgomjgckaaGreatDoor
open Go Go.Ev
@[reducible] noncomputable def Pr:Program:=Tryz.prog
abbrev UE:FuncId:=4
abbrev MO:FuncId:=8
abbrev DD:FuncId:=9
abbrev uR:FuncId:=10
abbrev gV:FuncId:=11
abbrev LD:FuncId:=12
abbrev Bq:FuncId:=14
abbrev HI:FuncId:=15
abbrev yL:FuncId:=16
abbrev GM:FuncId:=17
abbrev Dw:FuncId:=18
abbrev KZ:FuncId:=19
abbrev Mq:FuncId:=20
abbrev NJ:FuncId:=22
abbrev OH:FuncId:=24
abbrev LP:FuncId:=25
abbrev pE:FuncId:=26
abbrev MP:FuncId:=27
abbrev Mr:FuncId:=28
abbrev DY:FuncId:=29
abbrev Lr:FuncId:=30
abbrev Lt:FuncId:=31
abbrev Hq:FuncId:=32
abbrev Bl:FuncId:=33
abbrev Hr:FuncId:=34
abbrev lP:FuncId:=35
abbrev DJ:FuncId:=36
abbrev NK:FuncId:=37
abbrev NL:FuncId:=39
abbrev OI:FuncId:=46
abbrev Ms:FuncId:=47
abbrev NM:FuncId:=48
abbrev OJ:FuncId:=49
abbrev QJ:FuncId:=50
abbrev yJ:FuncId:=51
abbrev NN:FuncId:=52
abbrev LF:FuncId:=53
abbrev KW:FuncId:=54
abbrev K0:FuncId:=55
abbrev K1:FuncId:=56
abbrev K4:FuncId:=57
abbrev LQ:FuncId:=58
abbrev Lu:FuncId:=59
abbrev K5:FuncId:=60
abbrev Br:FuncId:=67
abbrev DE:FuncId:=68
abbrev A6:FuncId:=69
abbrev Hh:FuncId:=70
abbrev DK:FuncId:=71
abbrev tu:FuncId:=72
abbrev Kt:FuncId:=73
abbrev MQ:FuncId:=74
abbrev s6:FuncId:=75
abbrev GB:FuncId:=76
abbrev Ky:FuncId:=77
abbrev KC:FuncId:=78
abbrev AS:FuncId:=79
abbrev Gz:FuncId:=80
abbrev Bs:FuncId:=81
abbrev MR:FuncId:=97
abbrev G0:FuncId:=98
abbrev OK:FuncId:=99
abbrev OL:FuncId:=100
abbrev OM:FuncId:=101
abbrev DR:FuncId:=102
abbrev BF:FuncId:=103
abbrev Dp:FuncId:=104
abbrev MT:FuncId:=105
abbrev Mt:FuncId:=106
abbrev yN:FuncId:=107
abbrev LU:FuncId:=108
abbrev GV:FuncId:=109
abbrev LV:FuncId:=110
abbrev MU:FuncId:=111
abbrev HJ:FuncId:=112
abbrev G5:FuncId:=113
abbrev ON:FuncId:=114
abbrev OO:FuncId:=115
abbrev LW:FuncId:=116
abbrev NO:FuncId:=117
abbrev GX:FuncId:=118
abbrev MV:FuncId:=119
abbrev PF:FuncId:=120
abbrev GO:FuncId:=123
abbrev GQ:FuncId:=124
abbrev G6:FuncId:=125
abbrev OP:FuncId:=126
abbrev uV:FuncId:=127
abbrev PG:FuncId:=128
abbrev Dn:FuncId:=129
abbrev PI:FuncId:=145
abbrev NP:FuncId:=146
abbrev LX:FuncId:=147
abbrev GD:FuncId:=148
abbrev Uv:FuncId:=149
abbrev Mu:FuncId:=150
abbrev qE:FuncId:=151
abbrev wL:FuncId:=152
abbrev DF:FuncId:=153
abbrev yO:FuncId:=154
abbrev wM:FuncId:=155
abbrev GR:FuncId:=156
abbrev Hi:FuncId:=157
abbrev kZ:FuncId:=158
abbrev DS:FuncId:=159
abbrev GU:FuncId:=160
abbrev DB:FuncId:=161
abbrev PJ:FuncId:=162
abbrev Mv:FuncId:=163
abbrev PK:FuncId:=164
abbrev G7:FuncId:=165
abbrev s7:FuncId:=166
abbrev A7:FuncId:=167
abbrev OQ:FuncId:=168
abbrev Kq:FuncId:=169
abbrev Lv:FuncId:=170
abbrev Q7:FuncId:=171
abbrev HK:FuncId:=172
abbrev KQ:FuncId:=180
abbrev PL:FuncId:=181
abbrev MW:FuncId:=182
abbrev Hs:FuncId:=183
abbrev mX:FuncId:=184
abbrev Ht:FuncId:=185
abbrev G8:FuncId:=186
abbrev PM:FuncId:=187
abbrev Dy:FuncId:=188
abbrev HL:FuncId:=189
abbrev Dz:FuncId:=190
abbrev DT:FuncId:=191
abbrev Kv:FuncId:=192
abbrev LY:FuncId:=193
abbrev uY:FuncId:=204
abbrev PN:FuncId:=205
abbrev KG:FuncId:=206
abbrev Bm:FuncId:=207
abbrev Ik:FuncId:=208
abbrev pG:FuncId:=209
abbrev Bt:FuncId:=210
abbrev G9:FuncId:=211
abbrev PO:FuncId:=212
abbrev DU:FuncId:=213
abbrev Bu:FuncId:=214
abbrev Bv:FuncId:=215
abbrev DL:FuncId:=216
abbrev Bw:FuncId:=217
abbrev HN:FuncId:=218
abbrev yV:FuncId:=219
abbrev MX:FuncId:=220
abbrev Hj:FuncId:=221
abbrev Ds:FuncId:=222
abbrev Dt:FuncId:=223
abbrev UF:FuncId:=225
abbrev Il:FuncId:=245
abbrev KN:FuncId:=246
abbrev KJ:FuncId:=247
abbrev AV:FuncId:=248
abbrev uS:FuncId:=249
abbrev GY:FuncId:=250
abbrev Hu:FuncId:=251
abbrev HO:FuncId:=252
abbrev GJ:FuncId:=253
abbrev DV:FuncId:=254
abbrev NQ:FuncId:=255
abbrev OR:FuncId:=256
abbrev MY:FuncId:=257
abbrev Hv:FuncId:=258
abbrev OS:FuncId:=259
abbrev OT:FuncId:=260
abbrev HP:FuncId:=261
abbrev UZ:FuncId:=262
abbrev Du:FuncId:=263
abbrev GK:FuncId:=264
abbrev Dq:FuncId:=281
abbrev PR:FuncId:=282
abbrev Hl:FuncId:=283
abbrev xp:FuncId:=284
abbrev PS:FuncId:=285
abbrev yM:FuncId:=286
abbrev OU:FuncId:=287
abbrev LG:FuncId:=288
abbrev GH:FuncId:=294
abbrev Mw:FuncId:=295
abbrev MZ:FuncId:=296
abbrev NR:FuncId:=297
abbrev OV:FuncId:=298
abbrev NS:FuncId:=299
abbrev Mx:FuncId:=300
abbrev wQ:FuncId:=301
abbrev bH:TypeId:=3
abbrev oF:TypeId:=4
abbrev aX:TypeId:=5
abbrev zn:TypeId:=9
abbrev KO:TypeId:=22
abbrev bJ:TypeId:=23
abbrev k6:TypeId:=25
abbrev VQ:TypeId:=27
abbrev s9:TypeId:=30
abbrev th:TypeId:=31
abbrev tr:TypeId:=32
abbrev mB:TypeId:=33
abbrev aN:TypeId:=35
abbrev qH:TypeId:=37
abbrev bI:TypeId:=39
abbrev akP:TypeId:=41
abbrev s8:TypeId:=51
abbrev aV:TypeId:=53
abbrev cw:TypeId:=55
abbrev eu:TypeId:=62
abbrev cB:TypeId:=65
abbrev wR:TypeId:=82
abbrev jw:TypeId:=85
abbrev UP:TypeId:=87
abbrev pI:TypeId:=89
abbrev dh:TypeId:=96
abbrev Vn:TypeId:=114
abbrev fo:TypeId:=158
abbrev acK:TypeId:=183
abbrev Bn:TypeId:=218
abbrev Eh:TypeId:=238
abbrev rH:TypeId:=250
abbrev iw:TypeId:=263
abbrev fD:TypeId:=266
abbrev Hz:TypeId:=276
abbrev OW:TypeId:=296
abbrev dQ:TypeId:=298
abbrev LZ:TypeId:=312
abbrev DZ:TypeId:=321
end Go.Proofs.YtgjoehgomjgckaaGreatDoor
end
