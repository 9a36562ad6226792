/- Texts of this claim, packed and shortened. -/
import Derived.Tactics
import Derived.Orders
import Derived.Below
import Derived.Laws.Entries
import Derived.Laws.Small
import Derived.Laws.Strings
import Derived.Laws.Slices
import Derived.Scope
import Derived.Control
import Derived.Laws.OwnMore
import Derived.Laws.MakeOwn
import Derived.WalkKit
import Derived.ProofKit
import Derived.OpenShut
import Derived.Carry
import Derived.ChangeOld
import Derived.Deep.DeepHandedRow
import Derived.Test.YtgjoehgomjgckaaGreatDoorProg
section
set_option linter.unusedVariables false
set_option linter.unusedSimpArgs false
namespace Go.Ev
open Go
structure Mode where
 nw:Bool
 dv:Bool
def aF (x:Int):Prop:=-9223372036854775808≤x∧x≤9223372036854775807
def lt {A:Type} (x:A) (K:A→Prop):Prop:=K x
structure ah where
 a:Option Addr
 n:Nat
 c:Nat
@[reducible] def ah.v (s:ah):Value:=.slice s.a s.n s.c
def aA (b:Bool) (A B:Prop):Prop:=Bool.rec B A b
def R3:IntKind→Bool | .i64=>true | _=>false
def ar (nw:Bool) (k:IntKind) (z:Int) (K:Int→Prop):Prop:=cond (nw && R3 k) (aF z∧K z) (K (k.wrap z))
def pos (y:Int) (A:Prop):Prop:=match y with | .ofNat (_+1)=>A | _=>0<y∧A
def gU (y:Int) (A:Prop):Prop:=match y with | .ofNat _=>A | _=>0≤y∧A
def shl (k:IntKind) (x y:Int):Int:=k.wrap (x * 2 ^ (min y.toNat k.bits))
def shr (k:IntKind) (x y:Int):Int:=x.fdiv (2 ^ (min y.toNat k.bits))
def iA (k:IntKind) (x y:Int):Int:=k.wrap (BitVec.ofInt k.bits x &&& BitVec.ofInt k.bits y).toNat
def rU (k:IntKind) (x y:Int):Int:=k.wrap (BitVec.ofInt k.bits x ||| BitVec.ofInt k.bits y).toNat
def oB (k:IntKind) (x y:Int):Int:=k.wrap (BitVec.ofInt k.bits x ^^^ BitVec.ofInt k.bits y).toNat
def vl (k:IntKind) (x y:Int):Int:=k.wrap (BitVec.ofInt k.bits x &&& ~~~ BitVec.ofInt k.bits y).toNat
def JA (k:IntKind) (x:Int):Int:=oB k (if k.signed then -1 else k.max) x
def fB (v:Value) (K:Bool→Prop):Prop:=match v with | .nilIface=>K true | .iface _ _=>K false | _=>False
def BC (v:Value) (K:Bool→Prop):Prop:=match v with | .nilFunc=>K true | .func _ _ _=>K false | _=>False
def bA (p:Option Addr) (K:Addr→Prop):Prop:=match p with | some a=>K a | none=>False
def base (a:Option Addr):Addr:=a.getD ⟨0,0,none⟩
def idx (i:Int) (n:Nat) (A:Prop):Prop:=(0≤i∧i<(n:Int))∧A
def aU (a:Option Addr) (i:Int) (n:Nat) (A:Prop):Prop:=(a.isSome=true∧0≤i∧i<(n:Int))∧A
def tS (b:ByteArray) (i:Int):Int:=(b.data.toList.getD i.toNat 0).toNat
def atI (k:IntKind) (cs:List Value) (i:Int) (n:Nat) (K:Int→Prop):Prop:=idx i n (∃ z,cs[i.toNat]? = some (.int k z)∧K z)
def sub (a:Option Addr) (l m sz:Nat):Option Addr:=if m=l then a else a.map (·.add (l * sz))
def an (k:IntKind) (a:Addr) (w:World) (K:Int→Prop):Prop:=∃ n,w.cell? a=some (.int k n)∧K n
def lZ (a:Addr) (w:World) (K:Bool→Prop):Prop:=∃ b,w.cell? a=some (.bool b)∧K b
def fS (a:Addr) (w:World) (K:ByteArray→Prop):Prop:=∃ b,w.cell? a=some (.string b)∧K b
def l5 (a:Addr) (w:World) (K:Option Addr→Prop):Prop:=∃ p,w.cell? a=some (.pointer p)∧K p
def ax (a:Addr) (w:World) (K:ah→Prop):Prop:=∃ s:ah,w.cell? a=some (.slice s.a s.n s.c)∧K s
def ldV (a:Addr) (w:World) (K:Value→Prop):Prop:=∃ v,w.cell? a=some v∧K v
def rowAt (w:World) (a:Addr) (cs:List Value):Prop:=∀ i v,cs[i]? = some v→w.cell? (a.add i)=some v
def iD (n:Nat) (a:Addr) (w:World) (K:List Value→Prop):Prop:=∃ cs,cs.length=n∧rowAt w a cs∧K cs
def ek:Value→Bool | .agg _ | .tuple _=>false | _=>true
def aap (v:Value) (A:Prop):Prop:=match v with | .agg _ | .tuple _=>False | _=>A
def st (a:Addr) (v:Value) (w:World) (K:World→Prop):Prop:=(∃ u,w.cell? a=some u)∧w.frozen? a=false∧aap v (K (w.setCell a v))
def setRow:World→Addr→Nat→List Value→World
 | w,_,_,[]=>w
 | w,a,i,v :: r=>setRow (w.setCell (a.add i) v) a (i+1) r
def kR (n:Nat) (a:Addr) (cs:List Value) (w:World) (K:World→Prop):Prop:=
 cs.length=n∧(∀ i,i<n→(∃ u,w.cell? (a.add i)=some u)∧w.frozen? (a.add i)=false)∧(∀ v∈cs,ek v=true)∧K (setRow w a 0 cs)
def nw (t:TypeId) (cs:List Value) (w:World) (K:Addr→World→Prop):Prop:=K ⟨w.heap.size,0,none⟩ (w.alloc (.cells ⟨cs⟩ t))
def zc (P:Program) (t:TypeId):List Value:=match P.info? t with | some i=>(match i.zero with | some v=>v.cells.toList | none=>[]) | none=>[]
def jW (n:Nat) (zs:List Value):List Value:=(List.replicate n zs).flatten
def bytesOf (P:Program) (t:TypeId):Nat:=match P.info? t with | some i=>i.bytes | none=>0
def sizeOf (P:Program) (t:TypeId):Nat:=match P.info? t with | some i=>i.size | none=>0
def known (P:Program) (t:TypeId):Bool:=(P.info? t).isSome
def RF (P:Program) (t:TypeId):Bool:=(P.underlying t).isSome
def s6 (P:Program) (t:TypeId):Bool:=match P.info? t with | some i=>i.zero.isSome | none=>false
def I3 (P:Program) (t:TypeId):Bool:=s6 P t && Nat.beq (zc P t).length (sizeOf P t)
def j3 (P:Program) (t:TypeId) (l c:Int) (w:World) (K:ah→World→Prop):Prop:=
 (0≤l∧l≤c∧c≤9223372036854775807∧(bytesOf P t:Int) * c≤2 ^ 48)∧
  K ⟨some ⟨w.heap.size,0,none⟩,l.toNat,c.toNat⟩ (w.alloc (.cells ⟨jW c.toNat (zc P t)⟩ t))
def EE (P:Program) (s:Sem Value) (w:World) (K:Value→World→Prop):Prop:=∃ v w',s.run P w=.ok v w'∧K v w'
def az (P:Program) (f:FuncId) (args:List Value) (w:World) (K:Value→World→Prop):Prop:=
 Calls P f ⟨args⟩ w fun e w'=>∃ v,e=.returned v∧K v w'
def jB (P:Program) (f:Nat):Bool:=match P.funcs[f]? with | some fn=>fn.body.isSome | none=>false
def lN (P:Program) (g:Value) (args:List Value) (w:World) (K:Value→World→Prop):Prop:=
 match g with | .func (.func f) first cap=>cond (jB P f) (az P f (first.toList ++ args ++ cap.toList) w K) False | _=>False
inductive Sh where
 | int (k:IntKind) | bool | str | ptr | xR | sl | val | arr
 | cells (l:List Sh) | JR (l:List Sh)
def bk (k:IntKind) (v:Value) (K:Int→Prop):Prop:=∃ n,v=.int k n∧K n
def aW (v:Value) (K:Bool→Prop):Prop:=∃ b,v=.bool b∧K b
def R4 (v:Value) (K:ByteArray→Prop):Prop:=∃ b,v=.string b∧K b
def Cz (v:Value) (K:Option Addr→Prop):Prop:=∃ p,v=.pointer p∧K p
def aT (v:Value) (K:ah→Prop):Prop:=∃ s:ah,v=.slice s.a s.n s.c∧K s
def jY (v:Value) (K:List Value→Prop):Prop:=∃ cs,v=.agg ⟨cs⟩∧K cs
def aD (vs:List Value) (K:Value→List Value→Prop):Prop:=match vs with | []=>False | v :: r=>K v r
def R5:TypeDesc→Sh
 | .int k=>.int k | .bool=>.bool | .string=>.str | .pointer _=>.ptr | .slice _=>.sl | _=>.val
mutual
def SF (P:Program):Nat→TypeId→Sh
 | 0,_=>.val
 | d+1,t=>match P.underlying t with
  | some (.struct fs)=>.cells (leaves P d fs.toList)
  | some (.array _ _)=>.arr
  | some (.tuple ts)=>.JR (ZS P d ts.toList)
  | some u=>R5 u
  | none=>.val
def ZS (P:Program):Nat→List TypeId→List Sh
 | 0,_=>[]
 | _,[]=>[]
 | d+1,t :: r=>SF P d t :: ZS P d r
def leaves (P:Program):Nat→List Field→List Sh
 | 0,_=>[]
 | _,[]=>[]
 | d+1,f :: r=>(match P.underlying f.type with
  | some (.struct fs)=>leaves P d fs.toList
  | some (.array n e)=>(List.replicate n (leaves P d [⟨ "",e,0,false,"","",0⟩])).flatten
  | some u=>[R5 u]
  | none=>[.val]) ++ leaves P d r
end
def X2:Nat:=64
def I4:Sh→Addr→World→(Value→Prop)→Prop
 | .int k,a,w,K=>an k a w fun n=>K (.int k n)
 | .bool,a,w,K=>lZ a w fun b=>K (.bool b)
 | .str,a,w,K=>fS a w fun b=>K (.string b)
 | .ptr,a,w,K=>l5 a w fun p=>K (.pointer p)
 | .sl,a,w,K=>ax a w fun s=>K (.slice s.a s.n s.c)
 | _,a,w,K=>ldV a w fun v=>K v
def IM:List Sh→Addr→Nat→World→(List Value→Prop)→Prop
 | [],_,_,_,K=>K []
 | s :: r,a,i,w,K=>I4 s (a.add i) w fun v=>IM r a (i+1) w fun vs=>K (v :: vs)
def xo:Sh→Value→(Value→Prop)→Prop
 | .int k,v,K=>bk k v fun n=>K (.int k n)
 | .bool,v,K=>aW v fun b=>K (.bool b)
 | .str,v,K=>R4 v fun b=>K (.string b)
 | .ptr,v,K=>Cz v fun p=>K (.pointer p)
 | .sl,v,K=>aT v fun s=>K (.slice s.a s.n s.c)
 | .arr,v,K=>jY v fun cs=>K (.agg ⟨cs⟩)
 | _,v,K=>K v
def Bu:List Sh→List Value→(List Value→Prop)→Prop
 | [],vs,K=>vs=[]∧K []
 | s :: r,vs,K=>aD vs fun v Ak=>xo s v fun v'=>Bu r Ak fun EY=>K (v' :: EY)
def bB:Sh→Value→(Value→Prop)→Prop
 | .cells l,v,K=>jY v fun cs=>Bu l cs fun xS=>K (.agg ⟨xS⟩)
 | .JR l,v,K=>bC v fun vs=>wV l vs fun Ak=>K (.tuple ⟨Ak⟩)
 | s,v,K=>xo s v K
where
 bC (v:Value) (K:List Value→Prop):Prop:=∃ cs,v=.tuple ⟨cs⟩∧K cs
 wV:List Sh→List Value→(List Value→Prop)→Prop
  | [],vs,K=>vs=[]∧K []
  | .cells l :: r,vs,K=>aD vs fun v Ak=>jY v fun cs=>Bu l cs fun xS=>wV r Ak fun EY=>K (.agg ⟨xS⟩ :: EY)
  | s :: r,vs,K=>aD vs fun v Ak=>xo s v fun v'=>wV r Ak fun EY=>K (v' :: EY)
def IN:Sh→(Value→Prop)→Prop
 | .int k,F=>∀ n:Int,F (.int k n)
 | .bool,F=>∀ b:Bool,F (.bool b)
 | .str,F=>∀ s:ByteArray,F (.string s)
 | .ptr,F=>∀ p:Option Addr,F (.pointer p)
 | .xR,F=>∀ a:Addr,F (.pointer (some a))
 | .sl,F=>∀ s:ah,F (.slice s.a s.n s.c)
 | .arr,F=>∀ cs:List Value,F (.agg ⟨cs⟩)
 | _,F=>∀ v:Value,F v
def Qu:List Sh→(List Value→Prop)→Prop
 | [],F=>F []
 | s :: r,F=>IN s fun v=>Qu r fun vs=>F (v :: vs)
def R6:Sh→(Value→Prop)→Prop
 | .cells l,F=>Qu l fun vs=>F (.agg ⟨vs⟩)
 | s,F=>IN s F
def cG (P:Program) (ts:List TypeId) (ty:TypeId) (vs:List Value) (w:World) (K:ah→World→Prop):Prop:=EE P (Builtin.append_ ⟨ts⟩ ty ⟨vs⟩) w fun v w'=>aT v fun s=>K s w'
def anT (P:Program) (ts:List TypeId) (ty:TypeId) (vs:List Value) (w:World) (K:Int→World→Prop):Prop:=EE P (Builtin.copy_ ⟨ts⟩ ty ⟨vs⟩) w fun v w'=>bk .i64 v fun n=>K n w'
def anU (P:Program) (e:TypeId) (b:ByteArray) (w:World) (K:ah→World→Prop):Prop:=EE P (Conv.stringToBytes e b) w fun v w'=>aT v fun s=>K s w'
def JB (P:Program) (x:ah) (w:World) (K:ByteArray→World→Prop):Prop:=EE P (Conv.bytesToString (.slice x.a x.n x.c)) w fun v w'=>R4 v fun b=>K b w'
def X3 (P:Program) (a:Option Addr) (w:World) (K:World→Prop):Prop:=match a with | some a=>(∃ w',(markStringish a).run P w=.ok () w'∧K w') | none=>False
def FA (P:Program) (op:BinOp) (t:TypeId) (xs ys:List Value) (w:World) (K:Bool→World→Prop):Prop:=EE P (do eqGuard op t (.tmp 0) (.tmp 0) (.agg ⟨xs⟩) (.agg ⟨ys⟩); binOp op t (.agg ⟨xs⟩) (.agg ⟨ys⟩)) w fun v w'=>aW v fun b=>K b w'
abbrev Key:=List (Nat×Bool)
abbrev Fr:=List (Nat×Option Value)
structure St where
 fr:Fr
 cd:List (Nat×Key×Value)
 lt:List (Nat×Bool)
def look (t:Nat):Fr→Option Value
 | []=>none
 | (s,v) :: r=>cond (Nat.beq s t) v (look t r)
def dL (t:Nat):List (Nat×Key×Value)→Option (Key×Value)
 | []=>none
 | (s,e) :: r=>cond (Nat.beq s t) (some e) (dL t r)
def uV (t:Nat):List (Nat×Bool)→Option Bool
 | []=>none
 | (s,b) :: r=>cond (Nat.beq s t) (some b) (uV t r)
def zz (a b:Bool):Bool:=cond a b (cond b false true)
def iw (x:Nat×Bool):Key→Bool
 | []=>false
 | y :: r=>cond (Nat.beq x.1 y.1 && zz x.2 y.2) true (iw x r)
def mo (d:Nat):Key→Bool
 | []=>false
 | y :: r=>cond (Nat.beq d y.1) true (mo d r)
def within:Key→Key→Bool
 | [],_=>true
 | x :: r,K=>cond (iw x K) (within r K) false
def St.val (s:St) (K:Key):Operand→Option Value
 | .tmp t=>match dL t s.cd with
  | some (k,v)=>cond (within k K) (some v) none
  | none=>look t s.fr
 | .const v=>some v
 | .global g=>some (.pointer (some ⟨g,0,none⟩))
 | .func f=>some (.func (.func f) #[] #[])
def rA (d:Nat):List (Nat×Key×Value)→List (Nat×Key×Value)
 | []=>[]
 | (s,k,v) :: r=>cond (Nat.beq s d || mo d k) (rA d r) ((s,k,v) :: rA d r)
def BS (d:Nat):List (Nat×Bool)→List (Nat×Bool)
 | []=>[]
 | (s,b) :: r=>cond (Nat.beq s d) (BS d r) ((s,b) :: BS d r)
def rH (d:Nat) (fr:Fr):List (Nat×Key×Value)→Fr
 | []=>fr
 | (s,k,_) :: r=>cond (mo d k) ((s,none) :: rH d fr r) (rH d fr r)
def St.put (s:St) (d:Option Nat) (v:Option Value):St:=match d with
 | none=>s
 | some d=>⟨(d,v) :: rH d s.fr s.cd,rA d s.cd,BS d s.lt⟩
def St.nB (s:St) (d:Option Nat) (k:Key) (v:Value):St:=match d with
 | none=>s
 | some d=>cond (mo d k) (s.put (some d) none) ⟨(d,none) :: rH d s.fr s.cd,(d,k,v) :: rA d s.cd,BS d s.lt⟩
def lF (g:Nat):Key→Key
 | []=>[]
 | y :: r=>cond (Nat.beq g y.1) (lF g r) (y :: lF g r)
def mQ (g:Nat) (b:Bool):List (Nat×Key×Value)→List (Nat×Key×Value)
 | []=>[]
 | (s,k,v) :: r=>cond (iw (g,!b) k) (mQ g b r) (cond (iw (g,b) k) (match lF g k with | []=>mQ g b r | k'=>(s,k',v) :: mQ g b r) ((s,k,v) :: mQ g b r))
def mS (g:Nat) (b:Bool) (fr:Fr):List (Nat×Key×Value)→Fr
 | []=>fr
 | (s,k,v) :: r=>cond (iw (g,!b) k) ((s,some undef) :: mS g b fr r) (cond (iw (g,b) k) (match lF g k with | []=>(s,some v) :: mS g b fr r | _=>mS g b fr r) (mS g b fr r))
def tU (g:Nat):List (Nat×Key×Value)→List (Nat×Key×Value)
 | []=>[]
 | (s,k,v) :: r=>cond (Nat.beq s g) (tU g r) ((s,k,v) :: tU g r)
def St.settle (s:St) (g:Nat) (b:Bool):St:=⟨(g,some (.bool b)) :: mS g b s.fr s.cd,tU g (mQ g b s.cd),(g,b) :: s.lt⟩
def Em (op:BinOp) (k:IntKind) (x:Int) (k':IntKind) (y:Int):Option Value:=
 match op with
 | .add=>cond (decide (k=k')) (some (.int k (k.wrap (x+y)))) none
 | .sub=>cond (decide (k=k')) (some (.int k (k.wrap (x - y)))) none
 | .mul=>cond (decide (k=k')) (some (.int k (k.wrap (x * y)))) none
 | .rem=>cond (decide (k=k')) (match y with | .ofNat (_+1)=>some (.int k (x.tmod y)) | _=>none) none
 | .quo=>cond (decide (k=k')) (match y with | .ofNat (_+1)=>some (.int k (k.wrap (x.tdiv y))) | _=>none) none
 | .shl=>(match y with | .ofNat _=>some (.int k (shl k x y)) | _=>none)
 | .shr=>(match y with | .ofNat _=>some (.int k (shr k x y)) | _=>none)
 | .and=>cond (decide (k=k')) (some (.int k (iA k x y))) none
 | .or=>cond (decide (k=k')) (some (.int k (rU k x y))) none
 | .xor=>cond (decide (k=k')) (some (.int k (oB k x y))) none
 | .andNot=>cond (decide (k=k')) (some (.int k (vl k x y))) none
 | .eql=>cond (decide (k=k')) (some (.bool (decide (x=y)))) none
 | .neq=>cond (decide (k=k')) (some (.bool (!decide (x=y)))) none
 | .lss=>cond (decide (k=k')) (some (.bool (decide (x<y)))) none
 | .leq=>cond (decide (k=k')) (some (.bool (decide (x≤y)))) none
 | .gtr=>cond (decide (k=k')) (some (.bool (decide (y<x)))) none
 | .geq=>cond (decide (k=k')) (some (.bool (decide (y≤x)))) none
def BI (P:Program) (op:BinOp) (t:TypeId) (a b:Value):Option Value:=
 match a,b with
 | .int k x,.int k' y=>Em op k x k' y
 | .bool x,.bool y=>(match P.underlying t,op with | some .bool,.eql=>some (.bool (x == y)) | some .bool,.neq=>some (.bool (!(x == y))) | _,_=>none)
 | .string x,.string y=>(match op with | .eql=>some (.bool (decide (x=y))) | .neq=>some (.bool (!decide (x=y))) | _=>none)
 | .slice p _ _,.slice none _ _=>(match P.underlying t,op with | some (.slice _),.eql=>some (.bool p.isNone) | some (.slice _),.neq=>some (.bool (!p.isNone)) | _,_=>none)
 | .pointer p,.pointer none=>(match P.underlying t,op with | some (.pointer _),.eql=>some (.bool p.isNone) | some (.pointer _),.neq=>some (.bool (!p.isNone)) | _,_=>none)
 | .map p,.map none=>(match P.underlying t,op with | some (.map _ _),.eql=>some (.bool p.isNone) | some (.map _ _),.neq=>some (.bool (!p.isNone)) | _,_=>none)
 | _,_=>none
def En (off:Nat) (xs cells:List Value):List Value:=cells.take off ++ (xs ++ cells.drop (off+xs.length))
def BT (place:Nat→Option (Nat×Nat)) (cells:List Value):List (Nat×Value)→Option (List Value)
 | []=>some cells
 | (i,v) :: rest=>match place i with
  | none=>none
  | some (off,size)=>cond (Nat.beq v.cells.toList.length size && Nat.ble (off+v.cells.toList.length) cells.length) (BT place (En off v.cells.toList cells) rest) none
def placesOf (P:Program):List Field→Option (List (Nat×Nat))
 | []=>some []
 | f :: r=>cond (known P f.type) (match placesOf P r with | some l=>some ((f.offset,sizeOf P f.type) :: l) | none=>none) none
def o7 (ρ:Operand→Option Value):List Operand→Option (List Value)
 | []=>some []
 | x :: r=>match ρ x with | none=>none | some v=>match o7 ρ r with | none=>none | some vs=>some (v :: vs)
def partsOf (ρ:Operand→Option Value):List (Nat×Operand)→Option (List (Nat×Value))
 | []=>some []
 | (i,x) :: r=>match ρ x with | none=>none | some v=>match partsOf ρ r with | none=>none | some vs=>some ((i,v) :: vs)
def tu (P:Program) (t:TypeId):Bool:=match P.underlying t with | some (.struct _) | some (.array _ _)=>true | _=>false
def RG (P:Program) (t:TypeId) (ps:List (Nat×Value)):Option Value:=
 match P.underlying t with
 | some (.struct fs)=>cond (s6 P t) (match placesOf P fs.toList with | some pl=>(match BT (fun i=>pl[i]?) (zc P t) ps with | some cs=>some (.agg ⟨cs⟩) | none=>none) | none=>none) none
 | some (.array _ e)=>cond (s6 P t && known P e) (match BT (fun i=>some (i * sizeOf P e,sizeOf P e)) (zc P t) ps with | some cs=>some (.agg ⟨cs⟩) | none=>none) none
 | _=>none
def RH (P:Program) (t:TypeId) (v:Value) (f:Nat):Option Value:=
 match v with
 | .agg cs=>(match P.underlying t with
  | some (.struct fs)=>(match fs.toList[f]? with
   | some fd=>cond (known P fd.type && RF P fd.type) (cond (tu P fd.type) (some (.agg ⟨(cs.toList.drop fd.offset).take (sizeOf P fd.type)⟩)) (cs.toList[fd.offset]?)) none
   | none=>none)
  | _=>none)
 | _=>none
def nI (P:Program) (ρ:Operand→Option Value):Op→Option Value
 | .move x | .assign x=>ρ x
 | .binOp op t x y _=>(match ρ x,ρ y with | some a,some b=>BI P op t a b | _,_=>none)
 | .unOp op _ x=>(match op,ρ x with
  | .not,some (.bool b)=>some (.bool (!b))
  | .neg,some (.int k n)=>some (.int k (k.wrap (0 - n)))
  | .xor,some (.int k n)=>some (.int k (JA k n))
  | _,_=>none)
 | .convert s d x=>(match P.underlying s,P.underlying d,ρ x with
  | some _,some (.int k),some (.int _ n)=>some (.int k (k.wrap n))
  | some .string,some .string,some (.string b)=>some (.string b)
  | _,_,_=>none)
 | .makeInterface t x=>(match P.underlying t with | some (.interface _)=>none | some _=>(ρ x).map (.iface t) | none=>none)
 | .makeFunc fn first cap=>(match o7 ρ first.toList,o7 ρ cap.toList with | some a,some b=>some (.func fn ⟨a⟩ ⟨b⟩) | _,_=>none)
 | .build t ps=>(match partsOf ρ ps.toList with | some vs=>RG P t vs | none=>none)
 | .field t x f=>(match ρ x with | some v=>RH P t v f | none=>none)
 | .extract x i=>(match ρ x with | some (.tuple vs)=>vs.toList[i]? | _=>none)
 | .fieldAddr t x f=>(match ρ x with
  | some (.pointer (some a))=>(match P.underlying t with
   | some (.struct fs)=>(match fs.toList[f]? with | some fd=>cond (Nat.beq (sizeOf P fd.type) 0 || !known P fd.type) none (some (.pointer (some (a.add fd.offset)))) | none=>none)
   | _=>none)
  | _=>none)
 | .call { callee:=.builtin .len,args,argTypes }=>(match o7 ρ args.toList,argTypes.toList with
  | some [.slice _ n _],[t]=>(match P.underlying t with | some (.slice _)=>some (.int .i64 n) | _=>none)
  | some [.string s],[t]=>(match P.underlying t with | some .string=>some (.int .i64 s.size) | _=>none)
  | some [_],[t]=>(match P.underlying t with | some (.array n _)=>some (.int .i64 n) | _=>none)
  | _,_=>none)
 | .call { callee:=.builtin .cap,args,argTypes }=>(match o7 ρ args.toList,argTypes.toList with
  | some [.slice _ _ c],[t]=>(match P.underlying t with | some (.slice _)=>some (.int .i64 c) | _=>none)
  | _,_=>none)
 | .call { callee:=.builtin .min,args,.. }=>(match o7 ρ args.toList with
  | some (.int k x :: r)=>I5 k x r
  | _=>none)
 | .call { callee:=.builtin .max,args,.. }=>(match o7 ρ args.toList with
  | some (.int k x :: r)=>I6 k x r
  | _=>none)
 | _=>none
where
 I5 (k:IntKind) (x:Int):List Value→Option Value
  | []=>some (.int k x)
  | .int _ y :: r=>I5 k (min x y) r
  | _=>none
 I6 (k:IntKind) (x:Int):List Value→Option Value
  | []=>some (.int k x)
  | .int _ y :: r=>I6 k (max x y) r
  | _=>none
def R7 (m:Mode) (op:BinOp) (k:IntKind) (x:Int) (k':IntKind) (y:Int) (K:Value→Prop):Prop:=
 match op with
 | .add=>cond (decide (k=k')) (ar m.nw k (x+y) fun z=>K (.int k z)) False
 | .sub=>cond (decide (k=k')) (ar m.nw k (x - y) fun z=>K (.int k z)) False
 | .mul=>cond (decide (k=k')) (ar m.nw k (x * y) fun z=>K (.int k z)) False
 | .quo=>cond (decide (k=k')) (pos y (cond m.dv ((0≤x∧x≤k.max)∧K (.int k (x / y))) (K (.int k (k.wrap (x.tdiv y)))))) False
 | .rem=>cond (decide (k=k')) (pos y (cond m.dv (0≤x∧K (.int k (x % y))) (K (.int k (x.tmod y))))) False
 | .shl=>gU y (K (.int k (shl k x y)))
 | .shr=>gU y (K (.int k (shr k x y)))
 | op=>match Em op k x k' y with | some v=>K v | none=>False
def isC:Operand→Bool | .const _=>true | _=>false
def EF (P:Program) (m:Mode) (op:BinOp) (t:TypeId) (yc:Bool) (a b:Value) (w:World) (K:Value→World→Prop):Prop:=
 match b with
 | .nilIface=>(match op,P.underlying t with
  | .eql,some (.interface _)=>cond yc (fB a fun z=>K (.bool z) w) False
  | .neq,some (.interface _)=>cond yc (fB a fun z=>K (.bool (!z)) w) False
  | _,_=>False)
 | .nilFunc=>(match op,P.underlying t with
  | .eql,some (.func _ _ _)=>BC a fun z=>K (.bool z) w
  | .neq,some (.func _ _ _)=>BC a fun z=>K (.bool (!z)) w
  | _,_=>False)
 | .int k' y=>(match a with | .int k x=>R7 m op k x k' y fun v=>K v w | _=>False)
 | .agg ys=>(match a with | .agg xs=>(match P.underlying t with | some (.struct _)=>FA P op t xs.toList ys.toList w fun b w'=>K (.bool b) w' | _=>False) | _=>False)
 | .string y=>(match a,op with
  | .string x,.add=>(((x.size+y.size:Nat):Int)≤9223372036854775807)∧K (.string (x ++ y)) w
  | .string x,op=>(match BI P op t (.string x) (.string y) with | some v=>K v w | none=>False)
  | _,_=>False)
 | b=>match BI P op t a b with | some v=>K v w | none=>False
def BJ (ρ:Operand→Option Value):Option Operand→Option (Option Value)
 | none=>some none
 | some x=>match ρ x with | some v=>some (some v) | none=>none
def tV (x:ah) (h:Int) (K:ah→Prop):Prop:=(0≤h∧h≤(x.c:Int))∧K ⟨x.a,h.toNat,x.c⟩
def jP (sz:Nat) (x:ah) (l:Int) (K:ah→Prop):Prop:=(0≤l∧l≤(x.n:Int))∧K ⟨sub x.a l.toNat x.c sz,x.n - l.toNat,x.c - l.toNat⟩
def JC (sz:Nat) (x:ah) (l h:Int) (K:ah→Prop):Prop:=(0≤l∧l≤h∧h≤(x.c:Int))∧K ⟨sub x.a l.toNat x.c sz,h.toNat - l.toNat,x.c - l.toNat⟩
def SG (x:ah) (h m:Int) (K:ah→Prop):Prop:=(0≤h∧h≤m∧m≤(x.c:Int))∧K ⟨x.a,h.toNat,m.toNat⟩
def ZT (sz:Nat) (x:ah) (l h m:Int) (K:ah→Prop):Prop:=(0≤l∧l≤h∧h≤m∧m≤(x.c:Int))∧K ⟨sub x.a l.toNat m.toNat sz,h.toNat - l.toNat,m.toNat - l.toNat⟩
def JD (P:Program) (t:TypeId) (x:ah) (lo hi mx:Option Value) (K:ah→Prop):Prop:=
 match lo,hi,mx with
 | none,none,none=>K x
 | none,some (.int _ h),none=>tV x h K
 | some (.int _ l),none,none=>jP (sizeOf P t) x l K
 | some (.int _ l),some (.int _ h),none=>JC (sizeOf P t) x l h K
 | none,some (.int _ h),some (.int _ m)=>SG x h m K
 | some (.int _ l),some (.int _ h),some (.int _ m)=>ZT (sizeOf P t) x l h m K
 | _,_,_=>False
def ZU (s:ByteArray) (lo hi:Option Value) (K:ByteArray→Prop):Prop:=
 match lo,hi with
 | none,none=>K s
 | none,some (.int _ h)=>(0≤h∧h≤(s.size:Int))∧K (s.extract 0 h.toNat)
 | some (.int _ l),none=>(0≤l∧l≤(s.size:Int))∧K (s.extract l.toNat s.size)
 | some (.int _ l),some (.int _ h)=>(0≤l∧l≤h∧h≤(s.size:Int))∧K (s.extract l.toNat h.toNat)
 | _,_=>False
def Cj (P:Program) (t:TypeId) (a:Addr) (w:World) (K:Value→Prop):Prop:=
 match P.underlying t with
 | some (.struct _)=>(match SF P X2 t with
  | .cells l=>cond (known P t && Nat.beq l.length (sizeOf P t)) (IM l a 0 w fun vs=>K (.agg ⟨vs⟩)) False
  | _=>False)
 | some (.array _ _)=>cond (known P t) (iD (sizeOf P t) a w fun cs=>K (.agg ⟨cs⟩)) False
 | some u=>cond (Nat.beq (sizeOf P t) 1) (I4 (R5 u) a w K) False
 | none=>False
def o5:List Value→Addr→Nat→World→(World→Prop)→Prop
 | [],_,_,w,K=>K w
 | v :: r,a,i,w,K=>st (a.add i) v w fun w'=>o5 r a (i+1) w' K
def SH (P:Program) (t:TypeId) (a:Addr) (v:Value) (w:World) (K:World→Prop):Prop:=
 cond (known P t) (match P.underlying t with
 | some (.struct _)=>(match v with | .agg cs=>cond (Nat.beq cs.toList.length (sizeOf P t)) (o5 cs.toList a 0 w K) False | _=>False)
 | some (.array _ _)=>(match v with | .agg cs=>kR (sizeOf P t) a cs.toList w K | _=>False)
 | some _=>cond (Nat.beq (sizeOf P t) 1) (st a v w K) False
 | none=>False) False
def EG (P:Program) (dst:Option Nat) (t:TypeId) (v:Value) (K:Value→Prop):Prop:=
 match dst with
 | none=>K v
 | some _=>match SF P X2 t with
  | .JR []=>K v
  | s=>bB s v K
def zG (P:Program) (m:Mode) (ρ:Operand→Option Value) (o:Oper) (w:World) (K:Value→World→Prop):Prop:=
 match o.op with
 | .binOp op t x y _=>(match ρ x,ρ y with | some a,some b=>EF P m op t (isC y) a b w K | _,_=>False)
 | .unOp .neg _ x=>(match ρ x with | some (.int k n)=>ar m.nw k (0 - n) fun z=>K (.int k z) w | _=>False)
 | .convert s d x=>(match P.underlying s,P.underlying d,ρ x with
  | some (.int _),some (.int k),some (.int _ n)=>ar m.nw k n fun z=>K (.int k z) w
  | some .string,some .string,some (.string b)=>K (.string b) w
  | some .string,some (.slice e),some (.string b)=>(match P.underlying e with | some (.int .u8)=>anU P e b w fun s w'=>K (.slice s.a s.n s.c) w' | _=>False)
  | some (.slice _),some (.slice e),some (.slice a n c)=>(match P.underlying e with | some (.int .u8)=>cond (Nat.beq s d) (X3 P a w fun w'=>K (.slice a n c) w') False | _=>False)
  | some (.slice e),some .string,some (.slice a n c)=>(match P.underlying e with | some (.int .u8)=>JB P ⟨a,n,c⟩ w fun b w'=>K (.string b) w' | _=>False)
  | _,_,_=>False)
 | .index t x i=>(match ρ x,ρ i with
  | some (.string b),some (.int _ i)=>(match P.underlying t with | some .string=>idx i b.size (K (.int .u8 (tS b i)) w) | _=>False)
  | some (.agg cs),some (.int _ i)=>(match P.underlying t with
   | some (.array n e)=>(match P.underlying e with
    | some (.int k)=>cond (Nat.beq (sizeOf P e) 1 && known P e) (atI k cs.toList i n fun z=>K (.int k z) w) False
    | _=>False)
   | _=>False)
  | _,_=>False)
 | .indexAddr t x i=>(match ρ x,ρ i with
  | some (.slice a n _),some (.int _ i)=>(match P.underlying t with | some (.slice e)=>cond (known P e) (aU a i n (K (.pointer (some ((base a).add (i.toNat * sizeOf P e)))) w)) False | _=>False)
  | some (.pointer (some a)),some (.int _ i)=>(match P.underlying t with | some (.array n e)=>cond (known P e) (idx i n (K (.pointer (some (a.add (i.toNat * sizeOf P e)))) w)) False | _=>False)
  | _,_=>False)
 | .slice t x lo hi mx=>(match ρ x,BJ ρ lo,BJ ρ hi,BJ ρ mx with
  | some (.slice a n c),some lo,some hi,some mx=>(match P.underlying t with | some (.slice e)=>cond (known P e) (JD P e ⟨a,n,c⟩ lo hi mx fun s=>K (.slice s.a s.n s.c) w) False | _=>False)
  | some (.pointer (some a)),some lo,some hi,some mx=>(match P.underlying t with | some (.array n e)=>cond (known P e) (JD P e ⟨some a,n,n⟩ lo hi mx fun s=>K (.slice s.a s.n s.c) w) False | _=>False)
  | some (.string b),some lo,some hi,some none=>(match P.underlying t with | some .string=>ZU b lo hi fun s=>K (.string s) w | _=>False)
  | _,_,_,_=>False)
 | .nilCheck x=>(match ρ x with | some (.pointer p)=>bA p fun a=>K (.pointer (some a)) w | _=>False)
 | .load t x=>(match ρ x with | some (.pointer (some a))=>Cj P t a w fun v=>K v w | _=>False)
 | .store t x y=>(match ρ x,ρ y with | some (.pointer (some a)),some v=>SH P t a v w fun w'=>K undef w' | _,_=>False)
 | .alloc t=>cond (s6 P t) (nw t (zc P t) w fun a w'=>K (.pointer (some a)) w') False
 | .box t x=>(match ρ x with | some v=>nw t v.cells.toList w fun a w'=>K (.pointer (some a)) w' | none=>False)
 | .buildSlice t n ps=>(match P.underlying t,partsOf ρ ps.toList with
  | some (.slice e),some vs=>(match BT (fun i=>some (i * sizeOf P e,sizeOf P e)) (jW n (zc P e)) vs with
   | some cs=>cond (Nat.ble (n * sizeOf P e) 16777216 && I3 P e) (nw e cs w fun a w'=>K (.slice (some a) n n) w') False
   | none=>False)
  | _,_=>False)
 | .makeSlice t l c=>(match P.underlying t,ρ l,ρ c with
  | some (.slice e),some (.int _ l),some (.int _ c)=>cond (I3 P e) (j3 P e l c w fun s w'=>K (.slice s.a s.n s.c) w') False
  | _,_,_=>False)
 | .call c=>(match o7 ρ c.args.toList with
  | none=>False
  | some vs=>match c.callee with
   | .builtin .append=>cG P c.argTypes.toList o.type vs w fun s w'=>K (.slice s.a s.n s.c) w'
   | .builtin .copy=>anT P c.argTypes.toList o.type vs w fun n w'=>K (.int .i64 n) w'
   | .value g=>(match ρ g with | some g=>lN P g vs w fun v w'=>EG P o.dst o.type v fun v'=>K v' w' | none=>False)
   | _=>match nI P ρ o.op with | some v=>K v w | none=>False)
 | op=>match nI P ρ op with | some v=>K v w | none=>False
def Y0 (c a b:Option Value) (K:Value→Prop):Prop:=
 match c with
 | some (.bool t)=>(match a,b with
  | some (.bool x),some (.bool y)=>K (.bool (cond t x y))
  | some v,none=>aA t (K v) False
  | none,some v=>aA t False (K v)
  | some u,some v=>aA t (K u) (K v)
  | none,none=>False)
 | _=>False
def Rn (c a b:Option Value):Option Value:=
 match c,a,b with
 | some (.bool t),some (.bool x),some (.bool y)=>some (.bool (cond t x y))
 | _,_,_=>none
def R8 (P:Program) (s:St) (k:Key) (o:Oper):Option Value:=
 match o.op with
 | .pick c a b=>Rn (s.val k c) (s.val ((match c with | .tmp t=>[(t,true)] | _=>[]) ++ k) a) (s.val ((match c with | .tmp t=>[(t,false)] | _=>[]) ++ k) b)
 | op=>nI P (s.val k) op
def early:Op→Bool
 | .move _ | .assign _ | .pick .. | .unOp .. | .makeInterface .. | .makeFunc .. | .build .. | .field .. | .extract .. | .fieldAddr ..=>true
 | .binOp op _ _ y _=>(match op,y with | _,.const .nilIface=>false | _,.const .nilFunc=>false | .quo,.const _=>true | .rem,.const _=>true | .shl,.const _=>true | .shr,.const _=>true | .quo,_=>false | .rem,_=>false | .shl,_=>false | .shr,_=>false | _,_=>true)
 | .call { callee:=.builtin .len,.. } | .call { callee:=.builtin .cap,.. } | .call { callee:=.builtin .min,.. } | .call { callee:=.builtin .max,.. }=>true
 | _=>false
def Im (s:St):Key→(St→Bool→Prop)→Prop
 | [],K=>K s true
 | (g,want) :: r,K=>Im s r fun s' on=>cond on
   (match s'.val [] (.tmp g) with
    | some (.bool b)=>aA b (K (s'.settle g true) want) (K (s'.settle g false) (!want))
    | some (.tuple _)=>K s' false
    | _=>False)
   (K s' false)
def tB (P:Program) (m:Mode) (o:Oper) (s:St) (w:World) (K:St→World→Prop):Prop:=
 match o.op with
 | .pick c a b=>Y0 (s.val [] c) (s.val (match c with | .tmp t=>[(t,true)] | _=>[]) a) (s.val (match c with | .tmp t=>[(t,false)] | _=>[]) b) fun v=>K (s.put o.dst (some v)) w
 | .move x | .assign x=>K (s.put o.dst (s.val [] x)) w
 | _=>zG P m (s.val []) o w fun v w'=>K (s.put o.dst (some v)) w'
def xp (P:Program) (m:Mode) (ops:Array Oper) (o:Oper) (s:St) (w:World) (K:St→World→Prop):Prop:=
 match o.guard with
 | none=>tB P m o s w K
 | some (j,want)=>match ((ops.toList[j]?).bind (·.dst)) with
  | none=>False
  | some g=>match uV g s.lt with
   | some b=>cond (zz b want) (tB P m o s w K) (K (s.put o.dst (some undef)) w)
   | none=>
    cond (early o.op)
     (match R8 P s ((g,want) :: (match dL g s.cd with | some (k,_)=>k | none=>[])) o with
      | some v=>K (s.nB o.dst ((g,want) :: (match dL g s.cd with | some (k,_)=>k | none=>[])) v) w
      | none=>Im s ((g,want) :: (match dL g s.cd with | some (k,_)=>k | none=>[])) fun s' on=>cond on (tB P m o s' w K) (K (s'.put o.dst (some undef)) w))
     (match o.op with
      | .load t x=>(match s.val ((g,want) :: (match dL g s.cd with | some (k,_)=>k | none=>[])) x with
       | some (.pointer (some a))=>Cj P t a w fun v=>K (s.nB o.dst ((g,want) :: (match dL g s.cd with | some (k,_)=>k | none=>[])) v) w
       | _=>False)
      | _=>Im s ((g,want) :: (match dL g s.cd with | some (k,_)=>k | none=>[])) fun s' on=>cond on (tB P m o s' w K) (K (s'.put o.dst (some undef)) w))
def vI (P:Program) (m:Mode) (ops:Array Oper):List Oper→St→World→(Fr→World→Prop)→Prop
 | [],s,w,K=>K s.fr w
 | o :: r,s,w,K=>xp P m ops o s w fun s' w'=>vI P m ops r s' w' K
def cls (P:Program):Op→Nat
 | .load ..=>1
 | .store .. | .alloc _ | .box .. | .buildSlice .. | .makeSlice ..=>2
 | .call { callee:=.builtin .len,.. } | .call { callee:=.builtin .cap,.. } | .call { callee:=.builtin .min,.. } | .call { callee:=.builtin .max,.. }=>0
 | .call _=>2
 | .convert s d _=>(match P.underlying s,P.underlying d with
  | some (.int _),some (.int _)=>0
  | some .string,some .string=>0
  | _,_=>2)
 | .binOp _ t _ _ _=>(match P.underlying t with | some (.struct _) | some (.array _ _)=>2 | _=>0)
 | .move _ | .assign _ | .pick .. | .unOp .. | .makeInterface .. | .makeFunc .. | .build .. | .field .. | .extract .. | .fieldAddr .. | .index .. | .indexAddr .. | .slice .. | .nilCheck _=>0
 | _=>2
def after (o:Oper):List Nat:=o.after.toList.filterMap fun e=>cond (Region.binds .any e) (some e.on) none
def kO (x:Nat):List Nat→Bool
 | []=>false
 | y :: r=>cond (Nat.beq x y) true (kO x r)
def lists:List Oper→List (List Nat)
 | []=>[]
 | o :: r=>after o :: lists r
def slotsOf (ops:List Oper) (o:Oper):List Nat:=
 (o.op.operands.toList.filterMap fun | .tmp t=>some t | _=>none) ++ (match o.guard with | some (g,_)=>((ops[g]?).bind (·.dst)).toList | none=>[])
def I7 (ops:List Oper) (x y:Oper):Bool:=
 (match x.dst with | some d=>cond (kO d (slotsOf ops y)) false (match y.dst with | some e=>!(Nat.beq d e) | none=>true) | none=>true) &&
 (match y.dst with | some d=>!(kO d (slotsOf ops x)) | none=>true)
def Bv (ops:List Oper) (i:Nat) (o:Oper):Nat→List Oper→Bool
 | _,[]=>true
 | j,x :: r=>cond (Nat.beq i j || kO i (after x) || kO j (after o) || I7 ops o x) (Bv ops i o (j+1) r) false
def yX (ops:List Oper):Nat→List Oper→Bool
 | _,[]=>true
 | i,o :: r=>cond (Bv ops i o 0 ops) (yX ops (i+1) r) false
def zA:List Oper→Bool
 | []=>true
 | o :: r=>match o.op with | .select ..=>false | _=>zA r
def xq (acc:List Nat):List Nat→Nat
 | []=>0
 | j :: r=>Nat.lor (Nat.lor (2 ^ j) (acc.getD j 0)) (xq acc r)
def lP:List Oper→List Nat→List Nat
 | [],acc=>acc
 | o :: r,acc=>lP r (acc ++ [xq acc (after o)])
def kept (a:Addr) (n:Nat) (w w':World):Prop:=∀ j,j<n→w'.cell? (a.add j)=w.cell? (a.add j)
abbrev Rd:=List (Nat×Addr×Nat)
def BD (mask:Nat) (w w':World) (A:Prop):Rd→Prop
 | []=>A
 | (i,a,n) :: r=>cond (Nat.testBit mask i) (BD mask w w' A r) (kept a n w w'∧BD mask w w' A r)
def BU (dn:List Nat):List Nat→Bool
 | []=>true
 | j :: r=>cond (kO j dn) (BU dn r) false
def lI (ops:List Oper) (dn:List Nat):Nat→List Oper→List (Nat×Oper)
 | _,[]=>[]
 | i,o :: r=>cond (kO i dn) (lI ops dn (i+1) r) (cond (BU dn (after o)) ((i,o) :: lI ops dn (i+1) r) (lI ops dn (i+1) r))
def HR (P:Program):List (Nat×Oper)→Option (Nat×Oper)
 | []=>none
 | (i,o) :: r=>cond (Nat.ble (cls P o.op) 1) (some (i,o)) (HR P r)
def uQ (P:Program) (ops:List Oper) (s:St) (i:Nat) (o:Oper):Rd:=
 match o.op with
 | .load t x=>(match s.val (match o.guard with
   | none=>[]
   | some (j,want)=>(match ((ops[j]?).bind (·.dst)) with
    | none=>[]
    | some g=>(match uV g s.lt with | some _=>[] | none=>(g,want) :: (match dL g s.cd with | some (k,_)=>k | none=>[])))) x with
  | some (.pointer (some a))=>[(i,a,sizeOf P t)]
  | _=>[])
 | _=>[]
def SI (A:Nat×Oper→Prop):List (Nat×Oper)→Prop
 | []=>True
 | x :: r=>match r with | []=>A x | y :: r'=>A x∧SI A (y :: r')
def Al (P:Program) (m:Mode) (ops:Array Oper) (mk:List Nat):Nat→List Nat→Rd→St→World→(Fr→World→Prop)→Prop
 | 0,dn,_,s,w,K=>(match lI ops.toList dn 0 ops.toList with | []=>K s.fr w | _ :: _=>False)
 | n+1,dn,C,s,w,K=>
  match lI ops.toList dn 0 ops.toList with
  | []=>K s.fr w
  | x :: r=>match HR P (x :: r) with
   | some (i,o)=>xp P m ops o s w fun s' w'=>Al P m ops mk n (i :: dn) (uQ P ops.toList s i o ++ C) s' w' K
   | none=>SI (fun y=>xp P m ops y.2 s w fun s' w'=>BD (mk.getD y.1 0) w w' (Al P m ops mk n (y.1 :: dn) C s' w' K) C) (x :: r)
def Am (P:Program) (m:Mode) (ops:Array Oper) (draw:Bool) (fr:Fr) (w:World) (K:Fr→World→Prop):Prop:=
 cond draw
  (cond (zA ops.toList && yX ops.toList 0 ops.toList) (Al P m ops (lP ops.toList []) ops.toList.length [] [] ⟨fr,[],[]⟩ w.drew K) False)
  (vI P m ops ops.toList ⟨fr,[],[]⟩ w K)
abbrev qJ:=List (Nat×List (Nat×Sh))
def xA (k:Option Nat):qJ→Option (List (Nat×Sh))
 | []=>none
 | (i,l) :: r=>match k with | none=>none | some k=>cond (Nat.beq i k) (some l) (xA (some k) r)
def keyOf:Code→Option Nat
 | .region id _ _=>some id
 | .seq a b=>(match keyOf a with | some k=>some k | none=>keyOf b)
 | .cond _ a b=>(match keyOf a with | some k=>some k | none=>keyOf b)
 | .block _ a | .loop a | .scope a=>keyOf a
 | _=>none
def carry (fr:Fr):List (Nat×Sh)→Fr
 | []=>[]
 | (t,_) :: r=>(t,look t fr) :: carry fr r
def zB:List (Nat×Sh)→(Fr→Prop)→Prop
 | [],F=>F []
 | (t,s) :: r,F=>R6 s fun v=>zB r fun fr=>F ((t,some v) :: fr)
def pG:List Oper→List Nat
 | []=>[]
 | o :: r=>match o.dst with | some d=>d :: pG r | none=>pG r
def writes:Code→List Nat
 | .region _ ops _=>pG ops.toList
 | .seq a b | .cond _ a b=>writes a ++ writes b
 | .block _ a | .loop a | .scope a=>writes a
 | _=>[]
def xB:List (Nat×Sh)→List Nat→Bool
 | [],_=>true
 | (t,_) :: r,ws=>cond (kO t ws) (xB r ws) false
def strip (ws:List Nat):Fr→Fr
 | []=>[]
 | (t,v) :: r=>cond (kO t ws) (strip ws r) ((t,v) :: strip ws r)
def jL (mk:Fr) (rest:World→Prop) (first:(World→Prop)→Prop):Prop:=
 ∀ K:Fr→World→Prop,(∀ w,rest w→K mk w)→first (fun w=>K mk w)
def jl {A1:Type} (mk:A1→Fr) (rest:A1→World→Prop) (first:(A1→World→Prop)→Prop):Prop:=
 ∀ K:Fr→World→Prop,(∀ x1 w,rest x1 w→K (mk x1) w)→first (fun x1 w=>K (mk x1) w)
def cY {A1:Type} (mk:A1→Fr) (body:(A1→World→Prop)→A1→World→Prop) (y1:A1) (v:World):Prop:=
 ∀ X:Fr→World→Prop,(∀ x1 w,body (fun x1 w=>X (mk x1) w) x1 w→X (mk x1) w)→X (mk y1) v
def tC {A1 A2:Type} (mk:A1→A2→Fr) (rest:A1→A2→World→Prop) (first:(A1→A2→World→Prop)→Prop):Prop:=
 ∀ K:Fr→World→Prop,(∀ x1 x2 w,rest x1 x2 w→K (mk x1 x2) w)→first (fun x1 x2 w=>K (mk x1 x2) w)
def iy {A1 A2:Type} (mk:A1→A2→Fr) (body:(A1→A2→World→Prop)→A1→A2→World→Prop) (y1:A1) (y2:A2) (v:World):Prop:=
 ∀ X:Fr→World→Prop,(∀ x1 x2 w,body (fun x1 x2 w=>X (mk x1 x2) w) x1 x2 w→X (mk x1 x2) w)→X (mk y1 y2) v
def ZV {A1 A2 A3:Type} (mk:A1→A2→A3→Fr) (rest:A1→A2→A3→World→Prop) (first:(A1→A2→A3→World→Prop)→Prop):Prop:=
 ∀ K:Fr→World→Prop,(∀ x1 x2 x3 w,rest x1 x2 x3 w→K (mk x1 x2 x3) w)→first (fun x1 x2 x3 w=>K (mk x1 x2 x3) w)
def BV {A1 A2 A3:Type} (mk:A1→A2→A3→Fr) (body:(A1→A2→A3→World→Prop)→A1→A2→A3→World→Prop) (y1:A1) (y2:A2) (y3:A3) (v:World):Prop:=
 ∀ X:Fr→World→Prop,(∀ x1 x2 x3 w,body (fun x1 x2 x3 w=>X (mk x1 x2 x3) w) x1 x2 x3 w→X (mk x1 x2 x3) w)→X (mk y1 y2 y3) v
def Jp {A1 A2 A3 A4:Type} (mk:A1→A2→A3→A4→Fr) (body:(A1→A2→A3→A4→World→Prop)→A1→A2→A3→A4→World→Prop) (y1:A1) (y2:A2) (y3:A3) (y4:A4) (v:World):Prop:=
 ∀ X:Fr→World→Prop,(∀ x1 x2 x3 x4 w,body (fun x1 x2 x3 x4 w=>X (mk x1 x2 x3 x4) w) x1 x2 x3 x4 w→X (mk x1 x2 x3 x4) w)→X (mk y1 y2 y3 y4) v
abbrev pI:=Exit→Fr→World→Prop
def are (id:Nat):Exit→Bool
 | .exit i=>Nat.beq i id
 | _=>false
def BW (K:Fr→World→Prop) (Q:pI):pI:=fun e fr w=>match e with | .normal=>K fr w | e=>Q e fr w
def DX (id:Nat) (Q:pI):pI:=fun e fr w=>match e with | .exit i=>cond (Nat.beq i id) (Q .normal fr w) (Q (.exit i) fr w) | e=>Q e fr w
def akG (Q:pI):pI:=fun e fr w=>match e with | .goto _=>False | e=>Q e fr w
def fL (P:Program) (m:Mode) (J L:qJ):Code→Fr→World→pI→Prop
 | .skip,fr,w,Q=>Q .normal fr w
 | .region _ ops draw,fr,w,Q=>Am P m ops draw fr w fun aO w'=>Q .normal aO w'
 | .seq a b,fr,w,Q=>(match xA (keyOf b) J with
  | none=>fL P m J L a fr w (BW (fun aO w'=>fL P m J L b aO w' Q) Q)
  | some ls=>cond (xB ls (writes a)) (∀ K:Fr→World→Prop,(zB ls fun aO=>∀ w',fL P m J L b (aO ++ strip (writes a) fr) w' Q→K aO w')→fL P m J L a fr w (BW (fun aO w'=>K (carry aO ls) w') Q)) False)
 | .cond c a b,fr,w,Q=>(match (⟨fr,[],[]⟩:St).val [] c with
  | some (.bool t)=>aA t (fL P m J L a fr w Q) (fL P m J L b fr w Q)
  | _=>False)
 | .block id a,fr,w,Q=>fL P m J L a fr w (DX id Q)
 | .loop a,fr,w,Q=>(match xA (keyOf a) L with
  | none=>False
  | some ls=>cond (xB ls (writes a)) (∀ X:Fr→World→Prop,(zB ls fun aO=>∀ w',fL P m J L a (aO ++ strip (writes a) fr) w' (BW (fun SJ fu=>X (carry SJ ls) fu) Q)→X aO w')→X (carry fr ls) w) False)
 | .exit id,fr,w,Q=>Q (.exit id) fr w
 | .ret,fr,w,Q=>Q .ret fr w
 | .label _,fr,w,Q=>Q .normal fr w
 | .scope a,fr,w,Q=>fL P m J L a fr w (akG Q)
 | _,_,_,_=>False
def uR (P:Program) (fr:Fr) (w:World):List ResultVar→(List Value→Prop)→Prop
 | [],K=>K []
 | .tmp t :: r,K=>(match look t fr with | some v=>uR P fr w r fun vs=>K (v :: vs) | none=>False)
 | .cell t ty :: r,K=>(match look t fr with | some (.pointer (some a))=>Cj P ty a w fun v=>uR P fr w r fun vs=>K (v :: vs) | _=>False)
def I8 (R:Value→World→Prop) (w:World):List Value→Prop
 | [v]=>R v w
 | vs=>R (.tuple ⟨vs⟩) w
def R9 (P:Program) (fn:Func) (R:Value→World→Prop):pI:=fun e fr w=>match e with
 | .normal | .ret=>uR P fr w fn.results.toList (I8 R w)
 | _=>False
def vm:Nat→List Value→Fr
 | _,[]=>[]
 | i,v :: r=>(i,some v) :: vm (i+1) r
def BX (n:Nat):List Nat→Bool
 | []=>true
 | t :: r=>cond (Nat.blt t n) (BX n r) false
@[irreducible] def aK (P:Program) (m:Mode) (J L:qJ) (fn:Func) (args:List Value) (w:World) (R:Value→World→Prop):Prop:=
 match fn.body with
 | some c=>cond (BX fn.ntmps (writes c)) (fL P m J L c (vm 0 args) w (R9 P fn R)) False
 | none=>False
def Ok (P:Program) (f:FuncId) (args:List Value) (w:World) (R:Value→World→Prop):Prop:=az P f args w R
end Go.Ev
end
section
set_option linter.unusedVariables false
set_option linter.unusedSimpArgs false
namespace Go.Ev
open Go
theorem beq_eq {a b:Nat}:Nat.beq a b=true↔a=b:=⟨Nat.eq_of_beq_eq_true,fun h=>h ▸ Nat.beq_refl a⟩
theorem fH {a b:Nat}:Nat.beq a b=false↔a≠b:=by
 rw [← Bool.not_eq_true,Ne,not_congr beq_eq]
theorem Bw {a b:Bool}:zz a b=true↔a=b:=by cases a <;> cases b <;> simp [zz]
abbrev slot (a:Act) (t:Nat):Value:=a.tmps.getD t undef
def Sat (a:Act) (K:Key):Prop:=∀ x∈K,slot a x.1=.bool x.2
theorem Sat.nil (a:Act):Sat a []:=fun _ h=>by cases h
theorem Sat.cons {a:Act} {x:Nat×Bool} {K:Key}:Sat a (x :: K)↔slot a x.1=.bool x.2∧Sat a K:=by
 simp [Sat]
theorem Qv {x:Nat×Bool} {K:Key}:iw x K=true↔x∈K:=by
 induction K with
 | nil=>simp [iw]
 | cons y r ih=>
  obtain ⟨x1,x2⟩:=x; obtain ⟨y1,y2⟩:=y
  simp only [iw]
  cases h:(Nat.beq x1 y1 && zz x2 y2) with
  | true=>
   simp only [Bool.and_eq_true,beq_eq,Bw] at h
   simp [h.1,h.2]
  | false=>
   have gV:(x1,x2)≠(y1,y2):=by
    intro e; cases e
    simp [Bw.2] at h
   simp [ih,gV]
theorem aiA {d:Nat} {K:Key}:mo d K=true↔∃ x∈K,x.1=d:=by
 induction K with
 | nil=>simp [mo]
 | cons y r ih=>
  simp only [mo]
  cases h:Nat.beq d y.1 with
  | true=>simp [beq_eq.1 h]
  | false=>
   have:y.1≠d:=fun e=>(fH.1 h) e.symm
   simp [ih,this]
theorem ahT {a:Act} {k K:Key} (h:within k K=true) (hs:Sat a K):Sat a k:=by
 induction k with
 | nil=>exact Sat.nil a
 | cons x r ih=>
  simp only [within] at h
  cases hx:iw x K with
  | true=>rw [hx] at h; exact Sat.cons.2 ⟨hs x (Qv.1 hx),ih h⟩
  | false=>rw [hx] at h; cases h
class fM where
 ds:List Deferred
instance (priority:=low) arf:fM:=⟨[]⟩
structure Kn [fM] (n:Nat) (ws:List Nat) (f0:Fr) (s:St) (a:Act):Prop where
 size:a.tmps.size=n
 defers:a.defers=fM.ds
 fr:∀ t v,look t s.fr=some v→dL t s.cd=none→slot a t=v
 cd:∀ t k v,dL t s.cd=some (k,v)→(Sat a k→slot a t=v)∧(¬ Sat a k→slot a t=undef)
 nd:(s.cd.map (·.1)).Nodup
 lt:∀ g b,uV g s.lt=some b→slot a g=.bool b
 cn:∀ t kv,dL t s.cd=some kv→look t s.fr=none
 zH:∀ t,t∉ws→look t s.fr=look t f0
 ins:∀ x∈s.cd,x.1∈ws∧∀ y∈x.2.1,y.1∈ws
theorem Kn.val [fM] {n:Nat} {ws:List Nat} {f0:Fr} {s:St} {a:Act} (h:Kn n ws f0 s a) {K:Key} (hs:Sat a K) {x:Operand} {v:Value} (hv:s.val K x=some v):a.eval x=v:=by
 cases x with
 | tmp t=>
  simp only [St.val] at hv
  cases hc:dL t s.cd with
  | none=>rw [hc] at hv; exact h.fr t v hv hc
  | some kv=>
   obtain ⟨k,u⟩:=kv
   rw [hc] at hv
   simp only at hv
   cases hw:within k K with
   | true=>rw [hw] at hv; cases hv; exact (h.cd t k _ hc).1 (ahT hw hs)
   | false=>rw [hw] at hv; cases hv
 | const u=>simp only [St.val] at hv; cases hv; rfl
 | global g=>simp only [St.val] at hv; cases hv; rfl
 | func f=>simp only [St.val] at hv; cases hv; rfl
theorem Bx {a:Act} {d:Nat} {u:Value} (hd:d<a.tmps.size) (t:Nat):slot (a.put (some d) u) t=if t=d then u else slot a t:=by
 simp only [slot,Act.put]
 by_cases e:t=d
 ·subst e; simp [hd]
 ·simp [e,Array.getElem?_setIfInBounds_ne (Ne.symm e)]
theorem X4 {a:Act} {d:Nat} {u:Value} (hd:d<a.tmps.size) {k:Key} (hk:mo d k=false):Sat (a.put (some d) u) k↔Sat a k:=by
 have gV:∀ x∈k,x.1≠d:=fun x hx e=>by
  have:=aiA.2 ⟨x,hx,e⟩
  rw [hk] at this; cases this
 constructor
 ·intro h x hx
  have h1:=h x hx
  rwa [Bx hd,if_neg (gV x hx)] at h1
 ·intro h x hx
  rw [Bx hd,if_neg (gV x hx)]
  exact h x hx
theorem wR {t:Nat} {l:List (Nat×Key×Value)} {k:Key} {v:Value} (h:dL t l=some (k,v)):(t,k,v)∈l:=by
 induction l with
 | nil=>cases h
 | cons y r ih=>
  obtain ⟨s,e⟩:=y
  simp only [dL] at h
  cases hb:Nat.beq s t with
  | true=>rw [hb] at h; cases h; rw [beq_eq.1 hb]; exact List.mem_cons_self
  | false=>rw [hb] at h; exact List.mem_cons_of_mem _ (ih h)
theorem Pu {t:Nat} {l:List (Nat×Key×Value)}:dL t l=none↔t∉l.map (·.1):=by
 induction l with
 | nil=>simp [dL]
 | cons y r ih=>
  obtain ⟨s,e⟩:=y
  simp only [dL]
  cases hb:Nat.beq s t with
  | true=>simp [beq_eq.1 hb]
  | false=>
   have:t≠s:=fun e=>(fH.1 hb) e.symm
   simp [ih,this]
theorem Hs {t:Nat} {l:List (Nat×Key×Value)} {k:Key} {v:Value} (nd:(l.map (·.1)).Nodup) (h:(t,k,v)∈l):dL t l=some (k,v):=by
 induction l with
 | nil=>cases h
 | cons y r ih=>
  obtain ⟨s,e⟩:=y
  simp only [List.map_cons,List.nodup_cons] at nd
  simp only [dL]
  cases h with
  | head=>simp
  | tail _ h=>
   have:s≠t:=fun e=>nd.1 (e ▸ List.mem_map.2 ⟨_,h,rfl⟩)
   rw [fH.2 this]; exact ih nd.2 h
theorem aiB {d:Nat} {l:List (Nat×Key×Value)}:(rA d l).Sublist l:=by
 induction l with
 | nil=>exact List.Sublist.refl _
 | cons y r ih=>
  obtain ⟨s,k,v⟩:=y
  simp only [rA]
  cases (Nat.beq s d || mo d k) with
  | true=>exact ih.cons _
  | false=>exact ih.cons_cons _
theorem DU {d t:Nat} {k:Key} {v:Value} {l:List (Nat×Key×Value)}:(t,k,v)∈rA d l↔(t,k,v)∈l∧t≠d∧mo d k=false:=by
 induction l with
 | nil=>simp [rA]
 | cons y r ih=>
  obtain ⟨s,k',v'⟩:=y
  simp only [rA]
  cases hb:(Nat.beq s d || mo d k') with
  | true=>
   simp only [cond_true,ih,List.mem_cons,Prod.mk.injEq]
   constructor
   ·rintro ⟨h1,h2⟩; exact ⟨.inr h1,h2⟩
   ·rintro ⟨h1 | h1,h2,h3⟩
    ·obtain ⟨rfl,rfl,rfl⟩:=h1
     simp [fH.2 h2,h3] at hb
    ·exact ⟨h1,h2,h3⟩
  | false=>
   simp only [Bool.or_eq_false_iff,fH] at hb
   simp only [cond_false,List.mem_cons,ih,Prod.mk.injEq]
   constructor
   ·rintro (⟨rfl,rfl,rfl⟩ | ⟨h1,h2⟩)
    ·exact ⟨.inl ⟨rfl,rfl,rfl⟩,hb⟩
    ·exact ⟨.inr h1,h2⟩
   ·rintro ⟨h1 | h1,h2⟩
    ·exact .inl h1
    ·exact .inr ⟨h1,h2⟩
theorem aiC {d t:Nat} {x:Value} {fr:Fr} {l:List (Nat×Key×Value)} (h:look t (rH d fr l)=some x) :
  look t fr=some x∧∀ k v,(t,k,v)∈l→mo d k=false:=by
 induction l with
 | nil=>exact ⟨h,fun _ _ h=>by cases h⟩
 | cons y r ih=>
  obtain ⟨s,k',v'⟩:=y
  simp only [rH] at h
  cases hk:mo d k' with
  | true=>
   rw [hk] at h
   simp only [cond_true,look] at h
   cases hs:Nat.beq s t with
   | true=>rw [hs] at h; cases h
   | false=>
    rw [hs] at h
    obtain ⟨h1,h2⟩:=ih h
    refine ⟨h1,fun k v hm=>?_⟩
    cases hm with
    | head=>exact absurd rfl (fH.1 hs)
    | tail _ hm=>exact h2 k v hm
  | false=>
   rw [hk] at h
   obtain ⟨h1,h2⟩:=ih h
   refine ⟨h1,fun k v hm=>?_⟩
   cases hm with
   | head=>exact hk
   | tail _ hm=>exact h2 k v hm
theorem ahj {d g:Nat} {b:Bool} {l:List (Nat×Bool)} (h:uV g (BS d l)=some b):g≠d∧uV g l=some b:=by
 induction l with
 | nil=>cases h
 | cons y r ih=>
  obtain ⟨s,b'⟩:=y
  simp only [BS] at h
  cases hs:Nat.beq s d with
  | true=>
   rw [hs] at h
   obtain ⟨h1,h2⟩:=ih h
   refine ⟨h1,?_⟩
   have:s≠g:=fun e=>h1 (e ▸ beq_eq.1 hs)
   simp only [uV,fH.2 this,cond_false]; exact h2
  | false=>
   rw [hs] at h
   simp only [cond_false,uV] at h ⊢
   cases hg:Nat.beq s g with
   | true=>rw [hg] at h; exact ⟨fun e=>(fH.1 hs) ((beq_eq.1 hg).trans e),by simpa using h⟩
   | false=>rw [hg] at h; obtain ⟨h1,h2⟩:=ih h; exact ⟨h1,h2⟩
theorem Ml {d t:Nat} {fr:Fr} (h:look t fr=none):∀ l:List (Nat×Key×Value),look t (rH d fr l)=none
 | []=>h
 | (s,k,v) :: r=>by
  simp only [rH]
  cases mo d k with
  | true=>
   simp only [cond_true,look]
   cases Nat.beq s t with
   | true=>rfl
   | false=>exact Ml h r
  | false=>exact Ml h r
theorem Vh {d t:Nat} {fr:Fr} {ws:List Nat} (ht:t∉ws):∀ {l:List (Nat×Key×Value)},(∀ x∈l,x.1∈ws)→look t (rH d fr l)=look t fr
 | [],_=>rfl
 | (s,k,v) :: r,h=>by
  simp only [rH]
  have hr:=Vh (d:=d) (fr:=fr) ht (l:=r) (fun x hx=>h x (List.mem_cons_of_mem _ hx))
  cases mo d k with
  | true=>
   simp only [cond_true,look]
   rw [fH.2 (fun (e:s=t)=>ht (by rw [← e]; exact (h _ List.mem_cons_self)))]
   exact hr
  | false=>exact hr
theorem Kn.put [fM] {n:Nat} {ws:List Nat} {f0:Fr} {s:St} {a:Act} (h:Kn n ws f0 s a) {d:Option Nat} (hd:∀ t,d=some t→t<n∧t∈ws) {v:Option Value} {u:Value} (hv:∀ x,v=some x→u=x) :
  Kn n ws f0 (s.put d v) (a.put d u):=by
 cases d with
 | none=>exact h
 | some d=>
  have bZ:d<a.tmps.size:=h.size ▸ (hd d rfl).1
  have fy:d∈ws:=(hd d rfl).2
  refine ⟨by simp [Act.put,h.size],by simp [Act.put,h.defers],?_,?_,?_,?_,?_,?_,?_⟩
  ·intro t x hx hc
   simp only [St.put,look] at hx hc
   rw [Bx bZ]
   by_cases e:t=d
   ·subst e
    rw [if_pos rfl]
    simp only [Nat.beq_refl,cond_true] at hx
    exact hv x hx
   ·rw [if_neg e]
    rw [fH.2 (Ne.symm e)] at hx
    obtain ⟨h1,h2⟩:=aiC hx
    refine h.fr t x h1 ?_
    cases hl:dL t s.cd with
    | none=>rfl
    | some kv=>
     obtain ⟨k,w⟩:=kv
     have hm:=wR hl
     have tW:(t,k,w)∈rA d s.cd:=DU.2 ⟨hm,e,h2 k w hm⟩
     have:=Pu.1 hc
     exact absurd (List.mem_map.2 ⟨_,tW,rfl⟩) this
  ·intro t k w hl
   have hm:=wR hl
   obtain ⟨h1,h2,h3⟩:=DU.1 hm
   have h4:=h.cd t k w (Hs h.nd h1)
   rw [Bx bZ,if_neg h2,X4 bZ h3]
   exact h4
  ·exact h.nd.sublist (aiB.map _)
  ·intro g b hl
   obtain ⟨h1,h2⟩:=ahj hl
   rw [Bx bZ,if_neg h1]
   exact h.lt g b h2
  ·intro t kv hl
   obtain ⟨k,w⟩:=kv
   have hm:=wR hl
   obtain ⟨h1,h2,h3⟩:=DU.1 hm
   simp only [St.put,look]
   rw [fH.2 (Ne.symm h2)]
   exact Ml (h.cn t _ (Hs h.nd h1)) _
  ·intro t ht
   simp only [St.put,look]
   rw [fH.2 (fun (e:d=t)=>ht (by rw [← e]; exact fy))]
   exact (Vh ht (fun x hx=>(h.ins x hx).1)).trans (h.zH t ht)
  ·intro x hx
   obtain ⟨t,k,v⟩:=x
   exact h.ins _ (DU.1 hx).1
theorem Kn.nB [fM] {n:Nat} {ws:List Nat} {f0:Fr} {s:St} {a:Act} (h:Kn n ws f0 s a) {d:Option Nat} (hd:∀ t,d=some t→t<n∧t∈ws) {k:Key} {v u:Value} (hkw:∀ y∈k,y.1∈ws) (h1:Sat a k→u=v) (h2:¬ Sat a k→u=undef) :
  Kn n ws f0 (s.nB d k v) (a.put d u):=by
 cases d with
 | none=>exact h
 | some d=>
  simp only [St.nB]
  cases hk:mo d k with
  | true=>exact h.put hd (fun x hx=>by cases hx)
  | false=>
   have bZ:d<a.tmps.size:=h.size ▸ (hd d rfl).1
   have fy:d∈ws:=(hd d rfl).2
   have hp:Kn n ws f0 (s.put (some d) none) (a.put (some d) u):=h.put hd (fun x hx=>by cases hx)
   have An:dL d (rA d s.cd)=none:=Pu.2 fun hm=>by
    obtain ⟨⟨t,k',v'⟩,hm,rfl⟩:=List.mem_map.1 hm
    exact (DU.1 hm).2.1 rfl
   refine ⟨hp.size,hp.defers,?_,?_,?_,hp.lt,?_,?_,?_⟩
   ·intro t x hx hc
    simp only [cond_false,dL] at hc hx
    cases e:Nat.beq d t with
    | true=>rw [e] at hc; cases hc
    | false=>rw [e] at hc; exact hp.fr t x hx hc
   ·intro t k' w hl
    simp only [cond_false,dL] at hl
    cases e:Nat.beq d t with
    | true=>
     rw [e] at hl; cases hl
     rw [← beq_eq.1 e,X4 bZ hk,Bx bZ,if_pos rfl]
     exact ⟨h1,h2⟩
    | false=>rw [e] at hl; exact hp.cd t k' w hl
   ·simp only [cond_false,List.map_cons,List.nodup_cons]
    exact ⟨Pu.1 An,hp.nd⟩
   ·intro t kv hl
    simp only [cond_false,dL,look] at hl ⊢
    cases e:Nat.beq d t with
    | true=>rfl
    | false=>
     rw [e] at hl
     have:=hp.cn t kv hl
     simp only [St.put,look,e,cond_false] at this
     exact this
   ·intro t ht
    have:=hp.zH t ht
    simp only [St.put,look,cond_false] at this ⊢
    exact this
   ·intro x hx
    simp only [cond_false] at hx
    cases hx with
    | head=>exact ⟨fy,hkw⟩
    | tail _ hx=>exact hp.ins x hx
theorem Ov {g:Nat} {x:Nat×Bool} {k:Key}:x∈lF g k↔x∈k∧x.1≠g:=by
 induction k with
 | nil=>simp [lF]
 | cons y r ih=>
  simp only [lF]
  cases h:Nat.beq g y.1 with
  | true=>
   have:=beq_eq.1 h
   simp only [cond_true,ih,List.mem_cons]
   constructor
   ·rintro ⟨h1,h2⟩; exact ⟨.inr h1,h2⟩
   ·rintro ⟨rfl | h1,h2⟩
    ·exact absurd this.symm h2
    ·exact ⟨h1,h2⟩
  | false=>
   have:=fH.1 h
   simp only [cond_false,ih,List.mem_cons]
   constructor
   ·rintro (rfl | ⟨h1,h2⟩)
    ·exact ⟨.inl rfl,Ne.symm this⟩
    ·exact ⟨.inr h1,h2⟩
   ·rintro ⟨rfl | h1,h2⟩
    ·exact .inl rfl
    ·exact .inr ⟨h1,h2⟩
theorem VH {a:Act} {g:Nat} {b:Bool} {k:Key} (hg:slot a g=.bool b) (dx:iw (g,!b) k=false):Sat a (lF g k)↔Sat a k:=by
 constructor
 ·intro h x hx
  by_cases e:x.1=g
  ·have hb:x.2=b:=by
    have hn:x.2≠!b:=fun h1=>by
     have:iw (g,!b) k=true:=Qv.2 (by rw [← e,← h1]; exact hx)
     rw [dx] at this; cases this
    revert hn; cases x.2 <;> cases b <;> simp
   rw [e,hg,hb]
  ·exact h x (Ov.2 ⟨hx,e⟩)
 ·intro h x hx; exact h x (Ov.1 hx).1
theorem DD {a:Act} {g:Nat} {b:Bool} (hg:slot a g=.bool b) {fr:Fr}:∀ {l:List (Nat×Key×Value)},(l.map (·.1)).Nodup→
  (∀ t k v,(t,k,v)∈l→(Sat a k→slot a t=v)∧(¬ Sat a k→slot a t=undef))→∀ {t:Nat} {x:Value},
  look t (mS g b fr l)=some x→dL t (mQ g b l)=none→slot a t=x∨(look t fr=some x∧dL t l=none)
 | [],_,_,_,_,h,_=>.inr ⟨h,rfl⟩
 | (s,k,v) :: r,nd,hc,t,x,h,h0=>by
  simp only [List.map_cons,List.nodup_cons] at nd
  have hr:∀ t k v,(t,k,v)∈r→(Sat a k→slot a t=v)∧(¬ Sat a k→slot a t=undef):=fun t k v hm=>hc t k v (List.mem_cons_of_mem _ hm)
  have hs:=hc s k v List.mem_cons_self
  simp only [mS,mQ] at h h0
  cases h1:iw (g,!b) k with
  | true=>
   rw [h1] at h h0
   simp only [cond_true,look] at h h0
   cases e:Nat.beq s t with
   | true=>
    rw [e] at h; cases h
    have hns:¬ Sat a k:=fun JE=>by
     have:=JE _ (Qv.1 h1)
     rw [hg] at this; cases b <;> cases this
    exact .inl (beq_eq.1 e ▸ hs.2 hns)
   | false=>
    rw [e] at h
    rcases DD hg nd.2 hr h h0 with h2 | ⟨h2,h3⟩
    ·exact .inl h2
    ·exact .inr ⟨h2,by simp only [dL,e,cond_false]; exact h3⟩
  | false=>
   rw [h1] at h h0
   simp only [cond_false] at h h0
   cases h2:iw (g,b) k with
   | true=>
    rw [h2] at h h0
    simp only [cond_true] at h h0
    cases h3:lF g k with
    | nil=>
     rw [h3] at h h0
     simp only [look] at h h0
     cases e:Nat.beq s t with
     | true=>
      rw [e] at h; cases h
      have:Sat a k:=(VH hg h1).1 (h3 ▸ Sat.nil a)
      exact .inl (beq_eq.1 e ▸ hs.1 this)
     | false=>
      rw [e] at h
      rcases DD hg nd.2 hr h h0 with h4 | ⟨h4,h5⟩
      ·exact .inl h4
      ·exact .inr ⟨h4,by simp only [dL,e,cond_false]; exact h5⟩
    | cons y k'=>
     rw [h3] at h h0
     simp only [dL] at h h0
     cases e:Nat.beq s t with
     | true=>rw [e] at h0; cases h0
     | false=>
      rw [e] at h0
      rcases DD hg nd.2 hr h h0 with h4 | ⟨h4,h5⟩
      ·exact .inl h4
      ·exact .inr ⟨h4,by simp only [dL,e,cond_false]; exact h5⟩
   | false=>
    rw [h2] at h h0
    simp only [cond_false,dL] at h h0
    cases e:Nat.beq s t with
    | true=>rw [e] at h0; cases h0
    | false=>
     rw [e] at h0
     rcases DD hg nd.2 hr h h0 with h4 | ⟨h4,h5⟩
     ·exact .inl h4
     ·exact .inr ⟨h4,by simp only [dL,e,cond_false]; exact h5⟩
theorem wM {g:Nat} {b:Bool}:∀ {l:List (Nat×Key×Value)} {t:Nat} {k:Key} {v:Value},(t,k,v)∈mQ g b l→
  ∃ k0,(t,k0,v)∈l∧iw (g,!b) k0=false∧(k=k0∨k=lF g k0)
 | [],_,_,_,h=>by cases h
 | (s,k1,v1) :: r,t,k,v,h=>by
  simp only [mQ] at h
  have up:(∃ k0,(t,k0,v)∈r∧iw (g,!b) k0=false∧(k=k0∨k=lF g k0))→∃ k0,(t,k0,v)∈(s,k1,v1) :: r∧iw (g,!b) k0=false∧(k=k0∨k=lF g k0):=
   fun ⟨k0,h1,h2⟩=>⟨k0,List.mem_cons_of_mem _ h1,h2⟩
  cases h1:iw (g,!b) k1 with
  | true=>rw [h1] at h; exact up (wM h)
  | false=>
   rw [h1] at h
   simp only [cond_false] at h
   cases h2:iw (g,b) k1 with
   | true=>
    rw [h2] at h
    simp only [cond_true] at h
    cases h3:lF g k1 with
    | nil=>rw [h3] at h; exact up (wM h)
    | cons y k'=>
     rw [h3] at h
     cases h with
     | head=>exact ⟨k1,List.mem_cons_self,h1,.inr h3.symm⟩
     | tail _ h=>exact up (wM h)
   | false=>
    rw [h2] at h
    cases h with
    | head=>exact ⟨_,List.mem_cons_self,h1,.inl rfl⟩
    | tail _ h=>exact up (wM h)
theorem V0 {g:Nat} {b:Bool}:∀ {l:List (Nat×Key×Value)},((mQ g b l).map (·.1)).Sublist (l.map (·.1))
 | []=>List.Sublist.refl _
 | (s,k1,v1) :: r=>by
  have ih:=V0 (g:=g) (b:=b) (l:=r)
  simp only [mQ]
  cases iw (g,!b) k1 with
  | true=>exact ih.cons _
  | false=>
   simp only [cond_false]
   cases iw (g,b) k1 with
   | true=>
    simp only [cond_true]
    cases lF g k1 with
    | nil=>exact ih.cons _
    | cons y k'=>exact ih.cons_cons _
   | false=>exact ih.cons_cons _
theorem Ro {g t:Nat} {k:Key} {v:Value} {l:List (Nat×Key×Value)}:(t,k,v)∈tU g l↔(t,k,v)∈l∧t≠g:=by
 induction l with
 | nil=>simp [tU]
 | cons y r ih=>
  obtain ⟨s,k',v'⟩:=y
  simp only [tU]
  cases hb:Nat.beq s g with
  | true=>
   have:=beq_eq.1 hb
   simp only [cond_true,ih,List.mem_cons,Prod.mk.injEq]
   constructor
   ·rintro ⟨h1,h2⟩; exact ⟨.inr h1,h2⟩
   ·rintro ⟨h1 | h1,h2⟩
    ·exact absurd (h1.1.trans this) h2
    ·exact ⟨h1,h2⟩
  | false=>
   have:=fH.1 hb
   simp only [cond_false,List.mem_cons,ih,Prod.mk.injEq]
   constructor
   ·rintro (⟨rfl,rfl,rfl⟩ | ⟨h1,h2⟩)
    ·exact ⟨.inl ⟨rfl,rfl,rfl⟩,this⟩
    ·exact ⟨.inr h1,h2⟩
   ·rintro ⟨h1 | h1,h2⟩
    ·exact .inl h1
    ·exact .inr ⟨h1,h2⟩
theorem Rp {g:Nat}:∀ {l:List (Nat×Key×Value)},((tU g l).map (·.1)).Sublist (l.map (·.1))
 | []=>List.Sublist.refl _
 | (s,k,v) :: r=>by
  simp only [tU]
  cases Nat.beq s g with
  | true=>exact Rp.cons _
  | false=>exact Rp.cons_cons _
theorem Io {g t:Nat} (h:t≠g):∀ l:List (Nat×Key×Value),dL t (tU g l)=dL t l
 | []=>rfl
 | (s,k,v) :: r=>by
  simp only [tU,dL]
  cases hb:Nat.beq s g with
  | true=>
   have:s≠t:=fun e=>h (e ▸ beq_eq.1 hb)
   rw [fH.2 this]; exact Io h r
  | false=>
   simp only [cond_false,dL]
   rw [Io h r]
theorem UH {g t:Nat} {b:Bool} {fr:Fr} (h:look t fr=none):∀ {l:List (Nat×Key×Value)},(l.map (·.1)).Nodup→∀ {kv:Key×Value},dL t (mQ g b l)=some kv→look t (mS g b fr l)=none
 | [],_,_,_=>h
 | (s,k,v) :: r,nd,kv,hl=>by
  simp only [List.map_cons,List.nodup_cons] at nd
  have off:dL t (mQ g b r)=some kv→look t (mS g b fr r)=none:=fun hl=>UH h nd.2 hl
  have inr:dL t (mQ g b r)=some kv→s≠t:=fun hl e=>by
   obtain ⟨k0,v0⟩:=kv
   obtain ⟨k1,hm,_⟩:=wM (wR hl)
   exact nd.1 (e ▸ List.mem_map.2 ⟨_,hm,rfl⟩)
  have aaq:s=t→look t (mS g b fr r)=none:=fun e=>by
   subst e
   have:∀ {l:List (Nat×Key×Value)},s∉l.map (·.1)→look s (mS g b fr l)=none:=by
    intro l
    induction l with
    | nil=>intro _; exact h
    | cons y r ih=>
     obtain ⟨s',k',v'⟩:=y
     intro hn
     simp only [List.map_cons,List.mem_cons,not_or] at hn
     have hb:Nat.beq s' s=false:=fH.2 (fun e=>hn.1 e.symm)
     simp only [mS]
     cases iw (g,!b) k' with
     | true=>simp only [cond_true,look,hb,cond_false]; exact ih hn.2
     | false=>
      simp only [cond_false]
      cases iw (g,b) k' with
      | true=>
       simp only [cond_true]
       cases lF g k' with
       | nil=>simp only [look,hb,cond_false]; exact ih hn.2
       | cons _ _=>exact ih hn.2
      | false=>exact ih hn.2
   exact this nd.1
  simp only [mS,mQ] at hl ⊢
  cases h1:iw (g,!b) k with
  | true=>
   rw [h1] at hl
   simp only [cond_true,look] at hl ⊢
   rw [fH.2 (inr hl)]; exact off hl
  | false=>
   rw [h1] at hl
   simp only [cond_false] at hl ⊢
   cases h2:iw (g,b) k with
   | true=>
    rw [h2] at hl
    simp only [cond_true] at hl ⊢
    cases h3:lF g k with
    | nil=>
     rw [h3] at hl
     simp only [look] at hl ⊢
     rw [fH.2 (inr hl)]; exact off hl
    | cons y k'=>
     rw [h3] at hl
     simp only [dL] at hl
     by_cases e:s=t
     ·exact aaq e
     ·rw [fH.2 e] at hl; exact off hl
   | false=>
    rw [h2] at hl
    simp only [cond_false,dL] at hl ⊢
    by_cases e:s=t
    ·exact aaq e
    ·rw [fH.2 e] at hl; exact off hl
theorem UM {g t:Nat} {b:Bool} {fr:Fr} {ws:List Nat} (ht:t∉ws):∀ {l:List (Nat×Key×Value)},(∀ x∈l,x.1∈ws)→look t (mS g b fr l)=look t fr
 | [],_=>rfl
 | (s,k,v) :: r,h=>by
  have hr:=UM (g:=g) (b:=b) (fr:=fr) ht (l:=r) (fun x hx=>h x (List.mem_cons_of_mem _ hx))
  have hs:Nat.beq s t=false:=fH.2 (fun (e:s=t)=>ht (by rw [← e]; exact (h _ List.mem_cons_self)))
  simp only [mS]
  cases iw (g,!b) k with
  | true=>simp only [cond_true,look,hs,cond_false]; exact hr
  | false=>
   simp only [cond_false]
   cases iw (g,b) k with
   | true=>
    simp only [cond_true]
    cases lF g k with
    | nil=>simp only [look,hs,cond_false]; exact hr
    | cons _ _=>exact hr
   | false=>exact hr
theorem Kn.settle [fM] {n:Nat} {ws:List Nat} {f0:Fr} {s:St} {a:Act} (h:Kn n ws f0 s a) {g:Nat} {b:Bool} (JS:g∈ws) (hg:slot a g=.bool b):Kn n ws f0 (s.settle g b) a:=by
 have hc:∀ t k v,(t,k,v)∈s.cd→(Sat a k→slot a t=v)∧(¬ Sat a k→slot a t=undef):=fun t k v hm=>h.cd t k v (Hs h.nd hm)
 have nd':((s.settle g b).cd.map (·.1)).Nodup:=h.nd.sublist (Rp.trans V0)
 refine ⟨h.size,h.defers,?_,?_,nd',?_,?_,?_,?_⟩
 ·intro t x hx h0
  simp only [St.settle,look] at hx h0
  cases e:Nat.beq g t with
  | true=>rw [e] at hx; cases hx; rw [← beq_eq.1 e]; exact hg
  | false=>
   rw [e] at hx
   rw [Io (Ne.symm (fH.1 e))] at h0
   rcases DD hg h.nd hc hx h0 with h1 | ⟨h1,h2⟩
   ·exact h1
   ·exact h.fr t x h1 h2
 ·intro t k v hl
  obtain ⟨k0,hm,dx,hk⟩:=wM (Ro.1 (wR hl)).1
  have:=hc t k0 v hm
  rcases hk with rfl | rfl
  ·exact this
  ·rw [VH hg dx]; exact this
 ·intro g' b' hl
  simp only [St.settle,uV] at hl
  cases e:Nat.beq g g' with
  | true=>rw [e] at hl; cases hl; rw [← beq_eq.1 e]; exact hg
  | false=>rw [e] at hl; exact h.lt g' b' hl
 ·intro t kv hl
  obtain ⟨k,v⟩:=kv
  have gV:=(Ro.1 (wR hl)).2
  simp only [St.settle] at hl
  rw [Io gV] at hl
  simp only [St.settle,look]
  rw [fH.2 (Ne.symm gV)]
  obtain ⟨k0,hm,_⟩:=wM (wR hl)
  exact UH (h.cn t _ (Hs h.nd hm)) h.nd hl
 ·intro t ht
  simp only [St.settle,look]
  rw [fH.2 (fun (e:g=t)=>ht (by rw [← e]; exact JS))]
  exact (UM ht (fun x hx=>(h.ins x hx).1)).trans (h.zH t ht)
 ·intro x hx
  obtain ⟨t,k,v⟩:=x
  obtain ⟨k0,hm,_,hk⟩:=wM (Ro.1 hx).1
  have:=h.ins _ hm
  rcases hk with rfl | rfl
  ·exact this
  ·exact ⟨this.1,fun y hy=>this.2 y (Ov.1 hy).1⟩
theorem Kn.out [fM] {n:Nat} {ws:List Nat} {f0:Fr} {s:St} {a:Act} (h:Kn n ws f0 s a):Kn n ws f0 ⟨s.fr,[],[]⟩ a:=
 ⟨h.size,h.defers,fun t v hl _=>h.fr t v hl (by
  cases hc:dL t s.cd with
  | none=>rfl
  | some kv=>have:=h.cn t kv hc; rw [hl] at this; cases this),fun t k v hl=>(by cases hl),List.nodup_nil,fun g b hl=>(by cases hl),fun t kv hl=>(by cases hl),h.zH,fun x hx=>(by cases hx)⟩
theorem Du [fM] {n:Nat} {ws:List Nat} {f0:Fr} {a:Act}:∀ (chain:Key) (s:St) (K:St→Bool→Prop),(∀ y∈chain,y.1∈ws)→Kn n ws f0 s a→Im s chain K→
  ∃ s' on,Kn n ws f0 s' a∧K s' on∧(on=true↔Sat a chain)
 | [],s,K,_,h,hk=>⟨s,true,h,hk,by simp [Sat.nil]⟩
 | (g,want) :: r,s,K,hw,h,hk=>by
  have JS:g∈ws:=hw _ List.mem_cons_self
  obtain ⟨s1,on,h1,mz,nJ⟩:=Du r s _ (fun y hy=>hw y (List.mem_cons_of_mem _ hy)) h hk
  cases on with
  | false=>
   refine ⟨s1,false,h1,mz,?_⟩
   simp only [Bool.false_eq_true,false_iff] at nJ ⊢
   exact fun hs=>nJ (Sat.cons.1 hs).2
  | true=>
   have JE:Sat a r:=nJ.1 rfl
   simp only [cond_true] at mz
   cases hv:s1.val [] (.tmp g) with
   | none=>rw [hv] at mz; exact mz.elim
   | some v=>
    rw [hv] at mz
    cases v with
    | bool b=>
     have hg:slot a g=.bool b:=h1.val (Sat.nil a) hv
     simp only [aA] at mz
     cases b with
     | true=>
      refine ⟨_,want,h1.settle JS hg,mz,?_⟩
      rw [Sat.cons,hg]
      simp only [Value.bool.injEq]
      exact ⟨fun e=>⟨e.symm,JE⟩,fun e=>e.1.symm⟩
     | false=>
      refine ⟨_,!want,h1.settle JS hg,mz,?_⟩
      rw [Sat.cons,hg]
      simp only [Value.bool.injEq,Bool.not_eq_true']
      exact ⟨fun e=>⟨e.symm,JE⟩,fun e=>e.1.symm⟩
    | tuple ts=>
     have hg:slot a g=.tuple ts:=h1.val (Sat.nil a) hv
     refine ⟨s1,false,h1,mz,?_⟩
     rw [Sat.cons,hg]
     simp
    | _=>exact mz.elim
end Go.Ev
end
section
set_option linter.unusedVariables false
set_option linter.unusedSimpArgs false
namespace Go.Ev
open Go
variable {P:Program}
def qL (ρ:Operand→Option Value) (e:Operand→Value):Prop:=∀ x u,ρ x=some u→e x=u
theorem Wr {ρ:Operand→Option Value} {e:Operand→Value} (h:qL ρ e):∀ {l:List Operand} {vs:List Value},o7 ρ l=some vs→l.map e=vs
 | [],_,hv=>by cases hv; rfl
 | x :: r,vs,hv=>by
  simp only [o7] at hv
  cases hx:ρ x with
  | none=>rw [hx] at hv; cases hv
  | some u=>
   rw [hx] at hv
   cases hr:o7 ρ r with
   | none=>rw [hr] at hv; cases hv
   | some us=>rw [hr] at hv; cases hv; rw [List.map_cons,h x u hx,Wr h hr]
theorem V1 {ρ:Operand→Option Value} {e:Operand→Value} (h:qL ρ e):∀ {l:List (Nat×Operand)} {vs:List (Nat×Value)},partsOf ρ l=some vs→l.map (fun p=>(p.1,e p.2))=vs
 | [],_,hv=>by cases hv; rfl
 | (i,x) :: r,vs,hv=>by
  simp only [partsOf] at hv
  cases hx:ρ x with
  | none=>rw [hx] at hv; cases hv
  | some u=>
   rw [hx] at hv
   cases hr:partsOf ρ r with
   | none=>rw [hr] at hv; cases hv
   | some us=>rw [hr] at hv; cases hv; rw [List.map_cons,h x u hx,V1 h hr]
theorem s5 {ρ:Operand→Option Value} {e:Operand→Value} (h:qL ρ e) {xs:Array Operand} {vs:List Value} (hv:o7 ρ xs.toList=some vs):xs.map e=⟨vs⟩:=by
 apply Array.ext'
 simp [Wr h hv]
theorem Ws {ρ:Operand→Option Value} {e:Operand→Value} (h:qL ρ e) {xs:Array (Nat×Operand)} {vs:List (Nat×Value)} (hv:partsOf ρ xs.toList=some vs):xs.map (fun (i,x)=>(i,e x))=⟨vs⟩:=by
 apply Array.ext'
 simpa using V1 h hv
theorem ahU (x y:Int):(Op.intCmp .eql x y:Sem Value)=pure (.bool (decide (x=y))):=by
 simp only [Op.intCmp]; congr 2
theorem ahV (x y:Int):(Op.intCmp .neq x y:Sem Value)=pure (.bool (!decide (x=y))):=by
 simp only [Op.intCmp]; congr 2
theorem Wt {op:BinOp} {k k':IntKind} {x y:Int} {v:Value} (h:Em op k x k' y=some v) (t:TypeId) (w:World) :
  (binOp op t (.int k x) (.int k' y)).run P w=.ok v w:=by
 cases op <;> simp only [Em] at h
 case shl=>cases y with
  | ofNat n=>cases h; simp [binOp,Op.shift,shl,show ¬ ((n:Int)<0) by omega]
  | negSucc n=>cases h
 case shr=>cases y with
  | ofNat n=>cases h; simp [binOp,Op.shift,shr,show ¬ ((n:Int)<0) by omega]
  | negSucc n=>cases h
 case quo=>
  cases hk:decide (k=k') with
  | false=>rw [hk] at h; cases h
  | true=>
   have e:=of_decide_eq_true hk
   subst e
   rw [hk] at h
   simp only [cond_true] at h
   cases y with
   | ofNat n=>cases n with
    | zero=>cases h
    | succ n=>cases h; simp [binOp,Op.intDiv,show ¬ ((n:Int)+1=0) by omega]
   | negSucc n=>cases h
 case rem=>
  cases hk:decide (k=k') with
  | false=>rw [hk] at h; cases h
  | true=>
   have e:=of_decide_eq_true hk
   subst e
   rw [hk] at h
   simp only [cond_true] at h
   cases y with
   | ofNat n=>cases n with
    | zero=>cases h
    | succ n=>cases h; simp [binOp,Op.intDiv,show ¬ ((n:Int)+1=0) by omega]
   | negSucc n=>cases h
 all_goals
  cases hk:decide (k=k') with
  | false=>rw [hk] at h; cases h
  | true=>
   have e:=of_decide_eq_true hk
   subst e
   rw [hk] at h
   cases h
   first
    | (simp [binOp,Op.intArith,Op.intBits,iA,rU,oB,vl,ahU,ahV]; done)
    | (simp [binOp,Op.intCmp]; done)
theorem wD {op:BinOp} {t:TypeId} {x y:Operand} {a b:Value} (h1:a≠.nilIface) (h2:∀ cs,a≠.agg cs) (w:World):(eqGuard op t x y a b).run P w=.ok () w:=by
 unfold eqGuard
 cases op <;> first | rfl | (cases a <;> first | rfl | exact absurd rfl h1 | exact absurd rfl (h2 _))
theorem Y1 (a b:ByteArray):(a.toList == b.toList)=decide (a=b):=by
 rw [Bool.eq_iff_iff]
 simp only [beq_iff_eq,decide_eq_true_eq,ByteArray.toList_eq]
 exact ⟨fun h=>ByteArray.ext (Array.toList_inj.mp h),fun h=>h ▸ rfl⟩
theorem V2 {t:TypeId} (hu:P.underlying t=some .bool) (a b:Bool) (w:World):(Op.equal t (.bool a) (.bool b)).run P w=.ok (a == b) w:=by
 have h:∀ d:Nat,(Op.equalIn (d+1) t (.bool a) (.bool b)).run P w=.ok (a == b) w:=fun d=>by simp only [Op.equalIn,Sem.run_bind,run_underlying hu,Result.andThen_ok]; rfl
 exact h 9999
theorem VI {t e:TypeId} (hu:P.underlying t=some (.slice e)) (p:Option Addr) (n c n' c':Nat) (w:World):(Op.equal t (.slice p n c) (.slice none n' c')).run P w=.ok p.isNone w:=by
 have h:∀ d:Nat,(Op.equalIn (d+1) t (.slice p n c) (.slice none n' c')).run P w=.ok p.isNone w:=fun d=>by
  simp only [Op.equalIn,Sem.run_bind,run_underlying hu,Result.andThen_ok]; cases p <;> rfl
 exact h 9999
theorem Wu {t e:TypeId} (hu:P.underlying t=some (.pointer e)) (p:Option Addr) (w:World):(Op.equal t (.pointer p) (.pointer none)).run P w=.ok p.isNone w:=by
 have h:∀ d:Nat,(Op.equalIn (d+1) t (.pointer p) (.pointer none)).run P w=.ok p.isNone w:=fun d=>by
  simp only [Op.equalIn,Sem.run_bind,run_underlying hu,Result.andThen_ok]; cases p <;> rfl
 exact h 9999
theorem Wv {t k e:TypeId} (hu:P.underlying t=some (.map k e)) (p:Option Nat) (w:World):(Op.equal t (.map p) (.map none)).run P w=.ok p.isNone w:=by
 have h:∀ d:Nat,(Op.equalIn (d+1) t (.map p) (.map none)).run P w=.ok p.isNone w:=fun d=>by
  simp only [Op.equalIn,Sem.run_bind,run_underlying hu,Result.andThen_ok]; cases p <;> rfl
 exact h 9999
theorem Ww {op:BinOp} {t:TypeId} {a b v:Value} (h:BI P op t a b=some v) (x y:Operand) (w:World) :
  (do eqGuard op t x y a b; binOp op t a b:Sem Value).run P w=.ok v w:=by
 unfold BI at h
 split at h
 ·rw [Sem.run_bind,wD (by simp) (by simp)]; exact Wt h t w
 ·rename_i a b
  rw [Sem.run_bind,wD (by simp) (by simp),Result.andThen_ok]
  split at h
  ·rename_i hu; cases h; show (Op.equal _ _ _ >>= _).run P w=_; rw [Sem.run_bind,V2 hu]; rfl
  ·rename_i hu; cases h; show (Op.equal _ _ _ >>= _).run P w=_; rw [Sem.run_bind,V2 hu]; rfl
  ·cases h
 ·rename_i a b
  rw [Sem.run_bind,wD (by simp) (by simp),Result.andThen_ok]
  split at h
  ·cases h; simp only [binOp,Op.stringOp,Y1]; rfl
  ·cases h; simp only [binOp,Op.stringOp,Y1]; rfl
  ·cases h
 ·rename_i p n c n' c'
  rw [Sem.run_bind,wD (by simp) (by simp),Result.andThen_ok]
  split at h
  ·rename_i hu; cases h; show (Op.equal _ _ _ >>= _).run P w=_; rw [Sem.run_bind,VI hu]; rfl
  ·rename_i hu; cases h; show (Op.equal _ _ _ >>= _).run P w=_; rw [Sem.run_bind,VI hu]; rfl
  ·cases h
 ·rename_i p
  rw [Sem.run_bind,wD (by simp) (by simp),Result.andThen_ok]
  split at h
  ·rename_i hu; cases h; show (Op.equal _ _ _ >>= _).run P w=_; rw [Sem.run_bind,Wu hu]; rfl
  ·rename_i hu; cases h; show (Op.equal _ _ _ >>= _).run P w=_; rw [Sem.run_bind,Wu hu]; rfl
  ·cases h
 ·rename_i p
  rw [Sem.run_bind,wD (by simp) (by simp),Result.andThen_ok]
  split at h
  ·rename_i hu; cases h; show (Op.equal _ _ _ >>= _).run P w=_; rw [Sem.run_bind,Wv hu]; rfl
  ·rename_i hu; cases h; show (Op.equal _ _ _ >>= _).run P w=_; rw [Sem.run_bind,Wv hu]; rfl
  ·cases h
 ·cases h
theorem aiD:∀ (xs:List Value) (off:Nat) (cells:Array Value),off+xs.length≤cells.size→
  (xs.toArray.zipIdx.foldl (fun cs (c,j)=>cs.setIfInBounds (off+j) c) cells)=⟨En off xs cells.toList⟩:=by
 intro xs off cells h
 have key:∀ (xs:List Value) (j:Nat) (cells:Array Value),off+j+xs.length≤cells.size→
   ((xs.zipIdx j).foldl (fun (cs:Array Value) (p:Value×Nat)=>cs.setIfInBounds (off+p.2) p.1) cells)=⟨En (off+j) xs cells.toList⟩:=by
  intro xs
  induction xs with
  | nil=>intro j cells _; simp [En]
  | cons x r ih=>
   intro j cells h
   simp only [List.length_cons] at h
   simp only [List.zipIdx_cons,List.foldl_cons]
   rw [ih (j+1) _ (by simp; omega)]
   have bZ:off+j<cells.toList.length:=by simp; omega
   congr 1
   simp only [En,Array.toList_setIfInBounds,List.length_cons]
   rw [show off+(j+1)=off+j+1 by omega,List.take_succ_eq_append_getElem (by simpa using bZ)]
   simp only [List.getElem_set_self,List.take_set_of_le (Nat.le_refl _),List.append_assoc,List.cons_append,List.nil_append]
   rw [List.drop_set_of_lt (by omega)]
   congr 4
   omega
 have:=key xs 0 cells (by simpa using h)
 rw [← Array.foldl_toList,Array.toList_zipIdx]
 exact this
theorem IP (place:Nat→Option (Nat×Nat)):∀ (ps:List (Nat×Value)) (cells:List Value) {out:List Value},BT place cells ps=some out→Instr.fill place ⟨cells⟩ ps=some ⟨out⟩
 | [],_,_,h=>by cases h; rfl
 | (i,v) :: r,cells,out,h=>by
  simp only [BT] at h
  simp only [Instr.fill]
  cases hp:place i with
  | none=>rw [hp] at h; cases h
  | some os=>
   obtain ⟨off,size⟩:=os
   rw [hp] at h
   simp only at h ⊢
   cases hc:(Nat.beq v.cells.toList.length size && Nat.ble (off+v.cells.toList.length) cells.length) with
   | false=>rw [hc] at h; cases h
   | true=>
    rw [hc] at h
    simp only [Bool.and_eq_true,beq_eq,Nat.ble_eq,Array.length_toList] at hc
    have h1:(v.cells.size≠size || off+v.cells.size > cells.length)=false:=by
     simp only [Bool.or_eq_false_iff,decide_eq_false_iff_not]
     exact ⟨by simpa using hc.1,by omega⟩
    have h2:(decide (v.cells.size≠size) || decide (off+v.cells.size > (Array.mk cells).size))=false:=by simpa using h1
    rw [if_neg (by rw [h2]; simp)]
    have:=aiD v.cells.toList off ⟨cells⟩ (by simpa using hc.2)
    simp only [Array.toArray_toList] at this
    rw [this]
    exact IP place r _ h
theorem QT {t:TypeId} {i:TypeInfo} (h:P.info? t=some i) (w:World):(typeInfo t).run P w=.ok i w:=by
 simp [typeInfo,program,Sem.run,h]
theorem ajr {t:TypeId} (h:(P.info? t).isSome) (w:World):(Go.sizeOf t).run P w=.ok (Ev.sizeOf P t) w:=by
 cases hi:P.info? t with
 | none=>rw [hi] at h; cases h
 | some i=>simp [Go.sizeOf,QT hi,Ev.sizeOf,hi]
theorem oY {t:TypeId} (h:known P t=true) (w:World):(Go.sizeOf t).run P w=.ok (Ev.sizeOf P t) w:=ajr h w
theorem QU {t:TypeId} (h:s6 P t=true) (w:World):∃ v,(zeroValue t).run P w=.ok v w∧v.cells.toList=zc P t∧(zeroValue t=zeroValue t):=by
 unfold s6 at h
 split at h
 ·rename_i i hi
  cases hz:i.zero with
  | none=>rw [hz] at h; cases h
  | some v=>exact ⟨v,by simp [zeroValue,QT hi,hz],by simp [zc,hi,hz],rfl⟩
 ·cases h
theorem Vj {t:TypeId} (h:s6 P t=true) (w:World) {β:Type} (f:Value→Sem β):∃ v,v.cells=⟨zc P t⟩∧(zeroValue t >>= f).run P w=(f v).run P w:=by
 obtain ⟨v,h1,h2,_⟩:=QU (P:=P) h w
 exact ⟨v,Array.ext' h2,by rw [Sem.run_bind,h1]; rfl⟩
theorem W6 {α β:Type} {f:α→Sem β} {g:α→β}:∀ {l:List α},(∀ x∈l,∀ w,(f x).run P w=.ok (g x) w)→∀ w,(l.mapM f).run P w=.ok (l.map g) w
 | [],_,w=>rfl
 | x :: r,h,w=>by
  rw [List.mapM_cons,Sem.run_bind,h x List.mem_cons_self,Result.andThen_ok,Sem.run_bind,W6 (fun y hy=>h y (List.mem_cons_of_mem _ hy))]
  rfl
theorem agN {α β:Type} {f:α→Sem β} {g:α→β} {xs:Array α} (h:∀ x∈xs.toList,∀ w,(f x).run P w=.ok (g x) w) (w:World):(xs.mapM f).run P w=.ok (xs.map g) w:=by
 rw [Array.mapM_eq_mapM_toList,Sem.run_map,W6 h]
 simp only [Result.andThen_ok]
 congr 1
 apply Array.ext'
 simp
theorem VJ:∀ {fs:List Field} {pl:List (Nat×Nat)},placesOf P fs=some pl→(∀ f∈fs,known P f.type=true)∧pl=fs.map fun f=>(f.offset,Ev.sizeOf P f.type)
 | [],_,h=>by cases h; exact ⟨fun _ h=>(by cases h),rfl⟩
 | f :: r,pl,h=>by
  simp only [placesOf] at h
  cases hk:known P f.type with
  | false=>rw [hk] at h; cases h
  | true=>
   rw [hk] at h
   simp only [cond_true] at h
   split at h
   ·rename_i l hl
    cases h
    obtain ⟨h1,h2⟩:=VJ hl
    refine ⟨fun x hx=>?_,by rw [h2]; rfl⟩
    cases hx with
    | head=>exact hk
    | tail _ hx=>exact h1 x hx
   ·cases h
theorem ajs {t:TypeId} {ps:List (Nat×Value)} {v:Value} (h:RG P t ps=some v) (w:World):(Instr.build t ⟨ps⟩).run P w=.ok v w:=by
 unfold RG at h
 unfold Instr.build
 split at h
 ·rename_i fs hu
  cases hz:s6 P t with
  | false=>rw [hz] at h; cases h
  | true=>
   rw [hz] at h
   simp only [cond_true] at h
   split at h
   ·rename_i pl Ao
    split at h
    ·rename_i cs jo
     cases h
     obtain ⟨hk,anV⟩:=VJ Ao
     obtain ⟨z,vJ,Ap⟩:=Vj hz w (P:=P) (β:=Value) (fun z0=>do
      match ← underlying t with
      | .struct fields=>
       let places ← fields.mapM fun f=>do pure (f.offset,← Go.sizeOf f.type)
       let some cells:=Instr.fill (places[·]?) z0.cells ps | stuck "build: no such field, or a part of the wrong size"
       pure (.agg cells)
      | .array _ elem=>
       let size ← Go.sizeOf elem
       let some cells:=Instr.fill (fun i=>some (i * size,size)) z0.cells ps | stuck "build: a part of the wrong size"
       pure (.agg cells)
      | _=>stuck "build: struct or array type expected")
     refine Eq.trans ?_ (Ap.trans ?_)
     ·rfl
     ·rw [Sem.run_bind,run_underlying hu,Result.andThen_ok]
      simp only []
      rw [Sem.run_bind,agN (g:=fun f=>(f.offset,Ev.sizeOf P f.type)) (fun f hf w=>by simp [oY (hk f hf)]),Result.andThen_ok]
      have hf:Instr.fill (fun x=>(fs.map fun f=>(f.offset,Ev.sizeOf P f.type))[x]?) z.cells ps=some ⟨cs⟩:=by
       rw [vJ]
       refine IP _ ps _ ?_
       rw [← jo,anV]
       congr 1
       funext i
       simp
      rw [hf]
      rfl
    ·cases h
   ·cases h
 ·rename_i n e hu
  cases hz:(s6 P t && known P e) with
  | false=>rw [hz] at h; cases h
  | true=>
   rw [hz] at h
   simp only [Bool.and_eq_true] at hz
   simp only [cond_true] at h
   split at h
   ·rename_i cs jo
    cases h
    obtain ⟨z,vJ,Ap⟩:=Vj hz.1 w (P:=P) (β:=Value) (fun z0=>do
      match ← underlying t with
      | .struct fields=>
       let places ← fields.mapM fun f=>do pure (f.offset,← Go.sizeOf f.type)
       let some cells:=Instr.fill (places[·]?) z0.cells ps | stuck "build: no such field, or a part of the wrong size"
       pure (.agg cells)
      | .array _ elem=>
       let size ← Go.sizeOf elem
       let some cells:=Instr.fill (fun i=>some (i * size,size)) z0.cells ps | stuck "build: a part of the wrong size"
       pure (.agg cells)
      | _=>stuck "build: struct or array type expected")
    refine Eq.trans ?_ (Ap.trans ?_)
    ·rfl
    ·rw [Sem.run_bind,run_underlying hu,Result.andThen_ok]
     simp only []
     rw [Sem.run_bind,oY hz.2,Result.andThen_ok]
     have hf:Instr.fill (fun i=>some (i * Ev.sizeOf P e,Ev.sizeOf P e)) z.cells ps=some ⟨cs⟩:=by
      rw [vJ]
      exact IP _ ps _ jo
     rw [hf]
     rfl
   ·cases h
 ·cases h
end Go.Ev
end
section
set_option linter.unusedVariables false
set_option linter.unusedSimpArgs false
namespace Go.Ev
open Go
variable {P:Program}
theorem Ip {t:TypeId} {u:TypeDesc} (h:P.underlying t=some u) (w:World):(isAgg t).run P w=.ok (tu P t) w:=by
 unfold tu
 rw [h]
 cases u <;> simp [isAgg,run_underlying h]
theorem ajt {t:TypeId} {x v:Value} {f:Nat} (h:RH P t x f=some v) (w:World):(Instr.field t x f).run P w=.ok v w:=by
 unfold RH at h
 split at h
 ·rename_i cs
  split at h
  ·rename_i fs hu
   split at h
   ·rename_i fd hf
    cases hk:(known P fd.type && RF P fd.type) with
    | false=>rw [hk] at h; cases h
    | true=>
     rw [hk] at h
     simp only [Bool.and_eq_true] at hk
     simp only [cond_true] at h
     unfold Instr.field
     rw [Sem.run_bind,run_underlying hu,Result.andThen_ok]
     simp only []
     have FB:fs[f]? = some fd:=by simpa using hf
     rw [FB]
     simp only []
     rw [Sem.run_bind]
     simp only [asAgg,Sem.run_pure,Result.andThen_ok]
     unfold part
     rw [Sem.run_bind]
     cases hu2:P.underlying fd.type with
     | none=>
      have:=hk.2
      simp [RF,hu2] at this
     | some u=>
      rw [Ip hu2,Result.andThen_ok]
      cases ha:tu P fd.type with
      | true=>
       rw [ha] at h
       cases h
       simp only [if_true]
       rw [Sem.run_bind,oY hk.1]
       simp only [Result.andThen_ok,Sem.run_pure]
       congr 2
       apply Array.ext'
       simp [Array.toList_extract,List.extract_eq_take_drop]
      | false=>
       rw [ha] at h
       simp only [cond_false] at h
       have h':cs[fd.offset]? = some v:=by simpa using h
       simp [h']
   ·cases h
  ·cases h
 ·cases h
theorem ae0 {a:Addr} {f:Field} (hk:known P f.type=true) (hs:Nat.beq (Ev.sizeOf P f.type) 0=false) (w:World):(fieldPlace a f).run P w=.ok (a.add f.offset) w:=by
 unfold fieldPlace
 rw [Sem.run_bind,oY hk,Result.andThen_ok,if_neg (fH.1 hs)]
 rfl
theorem Y2 (k:IntKind):∀ (r:List Value) (x:Int) {v:Value},nI.I5 k x r=some v→∀ w,((r.foldlM Builtin.min2 (.int k x):Sem Value)).run P w=.ok v w
 | [],x,v,h,w=>by cases h; rfl
 | y :: r,x,v,h,w=>by
  cases y with
  | int k' y=>
   simp only [nI.I5] at h
   rw [List.foldlM_cons,Sem.run_bind]
   simp only [Builtin.min2,Sem.run_pure,Result.andThen_ok]
   have:(if y<x then y else x)=min x y:=by omega
   rw [this]
   exact Y2 k r _ h w
  | _=>cases h
theorem Y3 (k:IntKind):∀ (r:List Value) (x:Int) {v:Value},nI.I6 k x r=some v→∀ w,((r.foldlM Builtin.max2 (.int k x):Sem Value)).run P w=.ok v w
 | [],x,v,h,w=>by cases h; rfl
 | y :: r,x,v,h,w=>by
  cases y with
  | int k' y=>
   simp only [nI.I6] at h
   rw [List.foldlM_cons,Sem.run_bind]
   simp only [Builtin.max2,Sem.run_pure,Result.andThen_ok]
   have:(if y > x then y else x)=max x y:=by omega
   rw [this]
   exact Y3 k r _ h w
  | _=>cases h
theorem Y4 {ρ:Operand→Option Value} {e:Operand→Value} (hr:qL ρ e) (o:Oper) {v:Value} (h:nI P ρ o.op=some v) (w:World) :
  (execOp e o).run P w=.ok (.value v) w:=by
 obtain ⟨dst,op,ty,ps,af,gd⟩:=o
 simp only at h
 unfold nI at h
 split at h
 ·rw [← hr _ _ h]; rfl
 ·rw [← hr _ _ h]; rfl
 ·rename_i op t x y yt
  split at h
  ·rename_i a b ha hb
   have:=Ww h x y w
   rw [← hr _ _ ha,← hr _ _ hb] at this
   simp only [execOp]
   rw [Sem.run_bind,this]
   rfl
  ·cases h
 ·rename_i op t x
  split at h
  ·rename_i b hb; cases h; simp only [execOp,hr _ _ hb]; rfl
  ·rename_i k n hb; cases h; simp only [execOp,hr _ _ hb]; rfl
  ·rename_i k n hb; cases h; simp only [execOp,hr _ _ hb]; rfl
  ·cases h
 ·rename_i s d x
  split at h
  ·rename_i u k k0 n hs hd hx
   cases h
   simp only [execOp,hr _ _ hx,convert]
   rw [Sem.run_bind,Sem.run_bind,run_underlying hs,Result.andThen_ok,Sem.run_bind,run_underlying hd,Result.andThen_ok]
   rfl
  ·rename_i b hs hd hx
   cases h
   simp only [execOp,hr _ _ hx,convert]
   rw [Sem.run_bind,Sem.run_bind,run_underlying hs,Result.andThen_ok,Sem.run_bind,run_underlying hd,Result.andThen_ok]
   rfl
  ·cases h
 ·rename_i t x
  split at h
  ·cases h
  ·rename_i u hni hu
   cases hx:ρ x with
   | none=>rw [hx] at h; cases h
   | some v0=>
    rw [hx] at h; cases h
    simp only [execOp,hr _ _ hx,Instr.makeInterface]
    rw [Sem.run_bind,Sem.run_bind,run_underlying hu,Result.andThen_ok]
    cases u <;> first | rfl | exact (hni _ rfl).elim
  ·cases h
 ·rename_i fn first cap
  split at h
  ·rename_i va vb ha hb
   cases h
   simp only [execOp,s5 hr ha,s5 hr hb]; rfl
  ·cases h
 ·rename_i t pts
  split at h
  ·rename_i vs hv
   simp only [execOp]
   rw [Ws hr hv,Sem.run_bind,ajs h]; rfl
  ·cases h
 ·rename_i t x f
  split at h
  ·rename_i v0 hx
   simp only [execOp,hr _ _ hx]
   rw [Sem.run_bind,ajt h]; rfl
  ·cases h
 ·rename_i x i
  split at h
  ·rename_i vs hx
   simp only [execOp,hr _ _ hx,Instr.extract]
   have h':vs[i]? = some v:=by simpa using h
   rw [h']; rfl
  ·cases h
 ·rename_i t x f
  split at h
  ·rename_i a hx
   split at h
   ·rename_i fs hu
    split at h
    ·rename_i fd hf
     cases hc:(Nat.beq (Ev.sizeOf P fd.type) 0 || !known P fd.type) with
     | true=>rw [hc] at h; cases h
     | false=>
      rw [hc] at h; cases h
      simp only [Bool.or_eq_false_iff,Bool.not_eq_false'] at hc
      have FB:fs[f]? = some fd:=by simpa using hf
      simp only [execOp,hr _ _ hx,Instr.fieldAt]
      rw [Sem.run_bind,Sem.run_bind,run_underlying hu,Result.andThen_ok]
      simp only [FB]
      rw [Sem.run_bind]
      simp only [Instr.sureAddr,Sem.run_pure,Result.andThen_ok]
      rw [Sem.run_bind,ae0 hc.2 hc.1]; rfl
    ·cases h
   ·cases h
  ·cases h
 ·rename_i xs xU
  split at h
  ·rename_i a n c t hv ht
   split at h
   ·rename_i e0 hu
    cases h
    have j6:=s5 hr hv
    have Aq:xU=#[t]:=Array.ext' ht
    simp only [execOp,resolve,j6,invoke,Sem.run_bind,Sem.run_pure,Result.andThen_ok,builtin,Builtin.len_,Aq]
    simp [run_underlying hu,goInt]
   ·cases h
  ·rename_i b t hv ht
   split at h
   ·rename_i hu
    cases h
    have j6:=s5 hr hv
    have Aq:xU=#[t]:=Array.ext' ht
    simp only [execOp,resolve,j6,invoke,Sem.run_bind,Sem.run_pure,Result.andThen_ok,builtin,Builtin.len_,Aq]
    simp [run_underlying hu,goInt]
   ·cases h
  ·rename_i x0 t _ _ hv ht
   split at h
   ·rename_i n e0 hu
    cases h
    have j6:=s5 hr hv
    have Aq:xU=#[t]:=Array.ext' ht
    simp only [execOp,resolve,j6,invoke,Sem.run_bind,Sem.run_pure,Result.andThen_ok,builtin,Builtin.len_,Aq]
    simp [run_underlying hu,goInt]
   ·cases h
  ·cases h
 ·rename_i xs xU
  split at h
  ·rename_i a n c t hv ht
   split at h
   ·rename_i e0 hu
    cases h
    have j6:=s5 hr hv
    have Aq:xU=#[t]:=Array.ext' ht
    simp only [execOp,resolve,j6,invoke,Sem.run_bind,Sem.run_pure,Result.andThen_ok,builtin,Builtin.cap_,Aq]
    simp [run_underlying hu,goInt]
   ·cases h
  ·cases h
 ·rename_i xs xU
  split at h
  ·rename_i k x r hv
   have j6:=s5 hr hv
   simp only [execOp,resolve,j6,invoke,Sem.run_bind,Sem.run_pure,Result.andThen_ok,builtin,Builtin.min_]
   rw [Y2 k r x h]; rfl
  ·cases h
 ·rename_i xs xU
  split at h
  ·rename_i k x r hv
   have j6:=s5 hr hv
   simp only [execOp,resolve,j6,invoke,Sem.run_bind,Sem.run_pure,Result.andThen_ok,builtin,Builtin.max_]
   rw [Y3 k r x h]; rfl
  ·cases h
 ·cases h
end Go.Ev
end
section
set_option linter.unusedVariables false
set_option linter.unusedSimpArgs false
namespace Go.Ev
open Go
variable {P:Program}
def rI (P:Program) (e:Operand→Value) (o:Oper) (w:World) (K:Value→World→Prop):Prop:=
 ∃ v,(∀ w',(execOp e o).run P w'=.ok (.value v) w')∧K v w
theorem rI.nI {ρ:Operand→Option Value} {e:Operand→Value} (hr:qL ρ e) {o:Oper} {w:World} {K:Value→World→Prop}
  (h:match Ev.nI P ρ o.op with | some v=>K v w | none=>False):rI P e o w K:=by
 split at h
 ·rename_i v hv; exact ⟨v,fun w'=>Y4 hr o hv w',h⟩
 ·exact h.elim
theorem EH {nw:Bool} {k:IntKind} {z:Int} {K:Int→Prop} (h:ar nw k z K):K (k.wrap z):=by
 unfold ar at h
 cases hc:(nw && R3 k) with
 | false=>rw [hc] at h; exact h
 | true=>
  rw [hc] at h
  simp only [Bool.and_eq_true] at hc
  have hk:k=.i64:=by have:=hc.2; cases k <;> simp_all [R3]
  subst hk
  have:IntKind.i64.wrap z=z:=by
   have h1:=h.1
   unfold aF at h1
   simp [IntKind.wrap,IntKind.bits,IntKind.signed]
   split <;> omega
  rw [this]; exact h.2
theorem Y5 {y:Int} {A:Prop} (h:pos y A):0<y∧A:=by
 unfold pos at h
 split at h
 ·exact ⟨by simp only [Int.ofNat_eq_natCast]; omega,h⟩
 ·exact h
theorem Y6 {y:Int} {A:Prop} (h:gU y A):0≤y∧A:=by
 unfold gU at h
 split at h
 ·exact ⟨by simp only [Int.ofNat_eq_natCast]; omega,h⟩
 ·exact h
theorem Ow {k:IntKind} {z:Int} (h0:0≤z) (h1:z≤k.max):k.wrap z=z:=by
 cases k <;> simp only [IntKind.max,IntKind.signed,IntKind.bits] at h1 <;> simp only [IntKind.wrap,IntKind.bits,IntKind.signed] <;> simp at h1 ⊢ <;> omega
theorem alH {m:Mode} {op:BinOp} {k k':IntKind} {x y:Int} {K:Value→Prop} (h:R7 m op k x k' y K) (t:TypeId) :
  ∃ v,(∀ w:World,(binOp op t (.int k x) (.int k' y)).run P w=.ok v w)∧K v:=by
 have kk:∀ {A:Prop},cond (decide (k=k')) A False→k=k'∧A:=fun {A} hA=>by
  cases hk:decide (k=k') with
  | true=>rw [hk] at hA; exact ⟨of_decide_eq_true hk,hA⟩
  | false=>rw [hk] at hA; exact hA.elim
 have rest:(match Em op k x k' y with | some v=>K v | none=>False)→∃ v,(∀ w:World,(binOp op t (.int k x) (.int k' y)).run P w=.ok v w)∧K v:=fun h=>by
  split at h
  ·rename_i v hv; exact ⟨v,fun w=>Wt hv t w,h⟩
  ·exact h.elim
 cases op <;> simp only [R7] at h
 case add=>
  obtain ⟨e,h2⟩:=kk h
  subst e
  exact ⟨_,fun w=>by simp [binOp,Op.intArith],EH h2⟩
 case sub=>
  obtain ⟨e,h2⟩:=kk h
  subst e
  exact ⟨_,fun w=>by simp [binOp,Op.intArith],EH h2⟩
 case mul=>
  obtain ⟨e,h2⟩:=kk h
  subst e
  exact ⟨_,fun w=>by simp [binOp,Op.intArith],EH h2⟩
 case quo=>
  obtain ⟨e,h2⟩:=kk h
  subst e
  clear h
  obtain ⟨hy,h⟩:=Y5 h2
  have gV:¬ y=0:=by omega
  cases hd:m.dv with
  | true=>
   rw [hd] at h
   obtain ⟨⟨h0,h1⟩,hK⟩:=h
   refine ⟨_,fun w=>?_,hK⟩
   have e1:x.tdiv y=x / y:=Int.tdiv_eq_ediv_of_nonneg h0
   have e2:k.wrap (x / y)=x / y:=Ow (Int.ediv_nonneg h0 (by omega)) (Int.le_trans (Int.ediv_le_self y h0) h1)
   simp [binOp,Op.intDiv,gV,e1,e2]
  | false=>
   rw [hd] at h
   exact ⟨_,fun w=>by simp [binOp,Op.intDiv,gV],h⟩
 case rem=>
  obtain ⟨e,h2⟩:=kk h
  subst e
  clear h
  obtain ⟨hy,h⟩:=Y5 h2
  have gV:¬ y=0:=by omega
  cases hd:m.dv with
  | true=>
   rw [hd] at h
   obtain ⟨h0,hK⟩:=h
   refine ⟨_,fun w=>?_,hK⟩
   have e1:x.tmod y=x % y:=Int.tmod_eq_emod_of_nonneg h0
   simp [binOp,Op.intDiv,gV,e1]
  | false=>
   rw [hd] at h
   exact ⟨_,fun w=>by simp [binOp,Op.intDiv,gV],h⟩
 case shl=>obtain ⟨hy,h⟩:=Y6 h; exact ⟨_,fun w=>by simp [binOp,Op.shift,show ¬ y<0 by omega,shl],h⟩
 case shr=>obtain ⟨hy,h⟩:=Y6 h; exact ⟨_,fun w=>by simp [binOp,Op.shift,show ¬ y<0 by omega,shr],h⟩
 all_goals exact rest h
theorem aiE {op:BinOp} {t:TypeId} {x y:Operand} {k:IntKind} {n:Int} {b:Value} (w:World):(eqGuard op t x y (.int k n) b).run P w=.ok () w:=wD (by simp) (by simp) w
theorem Wx {t:TypeId} {ms:Array (String×TypeId)} (hu:P.underlying t=some (.interface ms)) (a:Value) (K:Bool→Prop) (h:fB a K) :
  ∃ z,(∀ w:World,(Op.equal t a .nilIface).run P w=.ok z w)∧K z:=by
 cases a <;> simp only [fB] at h <;> first | exact h.elim | skip
 ·rename_i t' v
  refine ⟨false,fun w=>?_,h⟩
  have hh:∀ d:Nat,(Op.equalIn (d+1) t (.iface t' v) .nilIface).run P w=.ok false w:=fun d=>by simp only [Op.equalIn,Sem.run_bind,run_underlying hu,Result.andThen_ok]; rfl
  exact hh 9999
 ·refine ⟨true,fun w=>?_,h⟩
  have hh:∀ d:Nat,(Op.equalIn (d+1) t .nilIface .nilIface).run P w=.ok true w:=fun d=>by simp only [Op.equalIn,Sem.run_bind,run_underlying hu,Result.andThen_ok]; rfl
  exact hh 9999
theorem V3 {t:TypeId} {ps rs:Array TypeId} {va:Bool} (hu:P.underlying t=some (.func ps rs va)) (a:Value) (K:Bool→Prop) (h:BC a K) :
  ∃ z,(∀ w:World,(Op.equal t a .nilFunc).run P w=.ok z w)∧K z:=by
 cases a <;> simp only [BC] at h <;> first | exact h.elim | skip
 ·rename_i fn f c
  refine ⟨false,fun w=>?_,h⟩
  have hh:∀ d:Nat,(Op.equalIn (d+1) t (.func fn f c) .nilFunc).run P w=.ok false w:=fun d=>by simp only [Op.equalIn,Sem.run_bind,run_underlying hu,Result.andThen_ok]; rfl
  exact hh 9999
 ·refine ⟨true,fun w=>?_,h⟩
  have hh:∀ d:Nat,(Op.equalIn (d+1) t .nilFunc .nilFunc).run P w=.ok true w:=fun d=>by simp only [Op.equalIn,Sem.run_bind,run_underlying hu,Result.andThen_ok]; rfl
  exact hh 9999
theorem zh {e:Operand→Value} {dst:Option Nat} {op:BinOp} {t yt:TypeId} {x y:Operand} {ty:TypeId} {ps:String} {af:Array Edge} {gd:Option (Nat×Bool)} {v:Value} {w w':World}
  (h:(do eqGuard op t x y (e x) (e y); binOp op t (e x) (e y):Sem Value).run P w=.ok v w'):(execOp e ⟨dst,.binOp op t x y yt,ty,ps,af,gd⟩).run P w=.ok (.value v) w':=by
 simp only [execOp]
 rw [Sem.run_bind,h]
 rfl
theorem BK {m:Mode} {op:BinOp} {t:TypeId} {a b:Value} {w:World} {K:Value→World→Prop} {yc:Bool} (h:EF P m op t yc a b w K) (hb:∀ ys,b≠.agg ys) (x y:Operand) (hy:yc=isC y) :
  ∃ v,(∀ w':World,(do eqGuard op t x y a b; binOp op t a b:Sem Value).run P w'=.ok v w')∧K v w:=by
 have rest:(match BI P op t a b with | some v=>K v w | none=>False)→∃ v,(∀ w':World,(do eqGuard op t x y a b; binOp op t a b:Sem Value).run P w'=.ok v w')∧K v w:=fun h=>by
  split at h
  ·rename_i v hv; exact ⟨v,fun w'=>Ww hv x y w',h⟩
  ·exact h.elim
 unfold EF at h
 split at h
 ·
  have Eo:yc=true→∀ w':World,(eqGuard op t x y a .nilIface).run P w'=.ok () w':=fun Ar w'=>by
   have hc:∃ c,y=.const c:=by
    rw [Ar] at hy
    cases y <;> first | exact ⟨_,rfl⟩ | cases hy
   obtain ⟨c,rfl⟩:=hc
   unfold eqGuard
   cases op <;> first | rfl | (cases a <;> first | rfl | (simp; done))
  split at h
  ·rename_i hu
   have Ar:yc=true:=by cases yc <;> first | exact h.elim | rfl
   simp only [Ar,cond_true] at h
   obtain ⟨z,h1,h2⟩:=Wx hu a _ h
   refine ⟨_,fun w'=>?_,h2⟩
   rw [Sem.run_bind,Eo Ar,Result.andThen_ok]
   cases a <;> simp only [fB] at h <;> first | exact h.elim | (show (Op.equal _ _ _ >>= _).run P w'=_; rw [Sem.run_bind,h1]; rfl)
  ·rename_i hu
   have Ar:yc=true:=by cases yc <;> first | exact h.elim | rfl
   simp only [Ar,cond_true] at h
   obtain ⟨z,h1,h2⟩:=Wx hu a _ h
   refine ⟨_,fun w'=>?_,h2⟩
   rw [Sem.run_bind,Eo Ar,Result.andThen_ok]
   cases a <;> simp only [fB] at h <;> first | exact h.elim | (show (Op.equal _ _ _ >>= _).run P w'=_; rw [Sem.run_bind,h1]; rfl)
  ·exact h.elim
 ·have Eo:∀ w':World,(eqGuard op t x y a .nilFunc).run P w'=.ok () w':=fun w'=>by
   unfold eqGuard
   cases op <;> first | rfl | (cases a <;> rfl)
  split at h
  ·rename_i hu
   obtain ⟨z,h1,h2⟩:=V3 hu a _ h
   refine ⟨_,fun w'=>?_,h2⟩
   rw [Sem.run_bind,Eo,Result.andThen_ok]
   cases a <;> simp only [BC] at h <;> first | exact h.elim | (show (Op.equal _ _ _ >>= _).run P w'=_; rw [Sem.run_bind,h1]; rfl)
  ·rename_i hu
   obtain ⟨z,h1,h2⟩:=V3 hu a _ h
   refine ⟨_,fun w'=>?_,h2⟩
   rw [Sem.run_bind,Eo,Result.andThen_ok]
   cases a <;> simp only [BC] at h <;> first | exact h.elim | (show (Op.equal _ _ _ >>= _).run P w'=_; rw [Sem.run_bind,h1]; rfl)
  ·exact h.elim
 ·split at h
  ·obtain ⟨v,h1,h2⟩:=alH h t (P:=P)
   refine ⟨v,fun w'=>?_,h2⟩
   rw [Sem.run_bind,aiE,Result.andThen_ok,h1]
  ·exact h.elim
 ·rename_i ys; exact absurd rfl (hb ys)
 ·split at h
  ·rename_i s1 _
   refine ⟨_,fun w'=>?_,h.2⟩
   rw [Sem.run_bind,wD (by simp) (by simp),Result.andThen_ok]
   simp only [binOp,Op.stringOp]
   rw [if_neg (by simp only [IntKind.max,IntKind.signed,IntKind.bits]; have:=h.1; simp; omega)]
   rfl
  ·exact rest h
  ·exact h.elim
 ·exact rest h
theorem Y7 {i:Int} {n:Nat} {A:Prop} (h:idx i n A):0≤i∧i<(n:Int)∧A:=⟨h.1.1,h.1.2,h.2⟩
theorem alI {b:ByteArray} {i:Int} (h0:0≤i) (h1:i<(b.size:Int)):∃ u,b[i.toNat]? = some u∧(u.toNat:Int)=tS b i:=by
 have bZ:i.toNat<b.size:=by omega
 refine ⟨b[i.toNat],?_,?_⟩
 ·simp [bZ]
 ·unfold tS
  have h2:i.toNat<b.data.toList.length:=by simpa using bZ
  rw [List.getD,List.getElem?_eq_getElem h2]
  rfl
theorem oT {k:IntKind} {i:Int} {y:Nat} {c:BoundsCode} (h0:0≤i) (h1:i≤(y:Int)) (w:World):(Instr.sliceBound (.int k i) y c).run P w=.ok i.toNat w:=by
 simp [Instr.sliceBound,asIntOf,h0,h1]
theorem X5 {e:TypeId} {x:ah} {lo hi mx:Option Value} {K:ah→Prop} (h:JD P e x lo hi mx K) (b:Bool) :
  ∃ s:ah,K s∧∃ l hh m,(∀ w:World,(Instr.sliceBounds b x.n x.c lo hi mx).run P w=.ok (l,hh,m) w)∧s.n=hh - l∧s.c=m - l∧s.a=(if m=l then x.a else x.a.map (·.add (l * Ev.sizeOf P e))):=by
 have zI:∀ a:Option Addr,a.map (·.add (0 * Ev.sizeOf P e))=a:=fun a=>by cases a <;> simp [Addr.add]
 unfold JD at h
 split at h
 ·refine ⟨x,h,0,x.n,x.c,fun w=>by simp [Instr.sliceBounds],rfl,rfl,?_⟩
  rw [zI]; split <;> rfl
 ·rename_i k hh
  obtain ⟨⟨h0,h1⟩,h⟩:=h
  refine ⟨_,h,0,hh.toNat,x.c,fun w=>?_,rfl,rfl,?_⟩
  ·cases b <;> simp [Instr.sliceBounds,oT h0 h1]
  ·rw [zI]; split <;> rfl
 ·rename_i k l
  obtain ⟨⟨h0,h1⟩,h⟩:=h
  refine ⟨_,h,l.toNat,x.n,x.c,fun w=>?_,rfl,rfl,rfl⟩
  cases b <;> simp [Instr.sliceBounds,oT h0 h1]
 ·rename_i k l k' hh
  obtain ⟨⟨h0,h1,h2⟩,h⟩:=h
  refine ⟨_,h,l.toNat,hh.toNat,x.c,fun w=>?_,rfl,rfl,rfl⟩
  have h3:l≤((hh.toNat:Nat):Int):=by omega
  cases b <;> simp [Instr.sliceBounds,oT (show 0≤hh by omega) h2,oT h0 h3]
 ·rename_i k hh k' mm
  obtain ⟨⟨h0,h1,h2⟩,h⟩:=h
  refine ⟨_,h,0,hh.toNat,mm.toNat,fun w=>?_,rfl,rfl,?_⟩
  ·have h3:hh≤((mm.toNat:Nat):Int):=by omega
   cases b <;> simp [Instr.sliceBounds,oT (show 0≤mm by omega) h2,oT h0 h3]
  ·rw [zI]; split <;> rfl
 ·rename_i k l k' hh k2 mm
  obtain ⟨⟨h0,h1,h2,h4⟩,h⟩:=h
  refine ⟨_,h,l.toNat,hh.toNat,mm.toNat,fun w=>?_,rfl,rfl,rfl⟩
  have h3:hh≤((mm.toNat:Nat):Int):=by omega
  have h5:l≤((hh.toNat:Nat):Int):=by omega
  cases b <;> simp [Instr.sliceBounds,oT (show 0≤mm by omega) h4,oT (show 0≤hh by omega) h3,oT h0 h5]
 ·exact h.elim
theorem uK {ρ:Operand→Option Value} {e:Operand→Value} (hr:qL ρ e) {x:Option Operand} {v:Option Value} (h:BJ ρ x=some v):x.map e=v:=by
 cases x with
 | none=>simp only [BJ] at h; cases h; rfl
 | some y=>
  simp only [BJ] at h
  split at h
  ·rename_i u hu; cases h; rw [Option.map_some,hr _ _ hu]
  ·cases h
end Go.Ev
end
section
set_option linter.unusedVariables false
set_option linter.unusedSimpArgs false
namespace Go.Ev
open Go
variable {P:Program}
theorem Wy {s:Sh} {a:Addr} {w:World} {K:Value→Prop} (h:I4 s a w K):∃ v,w.cell? a=some v∧K v:=by
 cases s <;> simp only [I4,an,lZ,fS,l5,ax,ldV] at h
 all_goals first
  | (obtain ⟨n,h1,h2⟩:=h; exact ⟨_,h1,h2⟩)
theorem V4:∀ {l:List Sh} {a:Addr} {i:Nat} {w:World} {K:List Value→Prop},IM l a i w K→
  ∃ vs,vs.length=l.length∧(∀ j v,vs[j]? = some v→w.cell? (a.add (i+j))=some v)∧K vs
 | [],a,i,w,K,h=>⟨[],rfl,fun j v hj=>by simp at hj,h⟩
 | s :: r,a,i,w,K,h=>by
  simp only [IM] at h
  obtain ⟨v,h1,h2⟩:=Wy h
  obtain ⟨vs,h3,h4,h5⟩:=V4 h2
  refine ⟨v :: vs,by simp [h3],fun j u hj=>?_,h5⟩
  cases j with
  | zero=>simp at hj; subst hj; exact h1
  | succ j=>rw [show i+(j+1)=i+1+j by omega]; exact h4 j u (by simpa using hj)
theorem run_loadCells (a:Addr) (w:World):∀ (cs:List Value) (i:Nat) (acc:Array Value),(∀ j v,cs[j]? = some v→w.cell? (a.add (i+j))=some v)→
  (loadCellsFrom a i cs.length acc).run P w=.ok (acc ++ cs.toArray) w
 | [],i,acc,_=>by simp [loadCellsFrom]
 | v :: r,i,acc,h=>by
  simp only [List.length_cons,loadCellsFrom]
  rw [Sem.run_bind]
  have h0:w.cell? (a.add i)=some v:=by simpa using h 0 v (by simp)
  rw [show (load (a.add i)).run P w=.ok v w by simp [h0],Result.andThen_ok]
  rw [run_loadCells a w r (i+1) (acc.push v) (fun j u hj=>by rw [show i+1+j=i+(j+1) by omega]; exact h (j+1) u (by simpa using hj))]
  simp
theorem Wz {a:Addr} {n:Nat} {w w':World} (h:kept a n w w') {j:Nat} {v:Value} (hj:j<n) (hv:w.cell? (a.add j)=some v):w'.cell? (a.add j)=some v:=(h j hj).trans hv
theorem zI (a:Addr):a.add 0=a:=by simp [Addr.add]
theorem gB {b:Bool} {A:Prop} (h:cond b A False):b=true∧A:=by cases b <;> first | exact h.elim | exact ⟨rfl,h⟩
theorem Rq {t:TypeId} {a:Addr} {w:World} {K:Value→Prop} (h:Cj P t a w K) :
  ∃ v,K v∧∀ w',kept a (Ev.sizeOf P t) w w'→(loadVar t a).run P w'=.ok v w':=by
 have row:∀ {u:TypeDesc} {vs:List Value},P.underlying t=some u→tu P t=true→known P t=true→vs.length=Ev.sizeOf P t→(∀ j v,vs[j]? = some v→w.cell? (a.add j)=some v)→
   ∀ w',kept a (Ev.sizeOf P t) w w'→(loadVar t a).run P w'=.ok (.agg ⟨vs⟩) w':=by
  intro u vs hu ha hk hl hc w' hw
  unfold loadVar
  rw [Sem.run_bind,Ip hu,Result.andThen_ok,if_pos ha,Sem.run_bind,oY hk,Result.andThen_ok,Sem.run_bind]
  unfold loadCells
  have:=run_loadCells (P:=P) a w' vs 0 #[] (fun j v hj=>by
   rw [Nat.zero_add]
   have bZ:j<vs.length:=(List.getElem?_eq_some_iff.1 hj).1
   exact Wz hw (by omega) (hc j v hj))
  rw [hl] at this
  rw [this]
  simp
 unfold Cj at h
 split at h
 ·rename_i fs hu
  split at h
  ·rename_i l hl
   obtain ⟨hc,h⟩:=gB h
   simp only [Bool.and_eq_true,beq_eq] at hc
   obtain ⟨vs,h1,h2,h3⟩:=V4 h
   refine ⟨_,h3,row hu (by simp [tu,hu]) hc.1 (h1.trans hc.2) (fun j v hj=>?_)⟩
   have:=h2 j v hj
   rwa [Nat.zero_add] at this
  ·exact h.elim
 ·rename_i n e hu
  obtain ⟨hc,h⟩:=gB h
  obtain ⟨cs,h1,h2,h3⟩:=h
  exact ⟨_,h3,row hu (by simp [tu,hu]) hc h1 h2⟩
 ·rename_i u As tX hu
  obtain ⟨hc,h⟩:=gB h
  obtain ⟨v,h1,h2⟩:=Wy h
  refine ⟨v,h2,fun w' hw=>?_⟩
  have ha:tu P t=false:=by
   unfold tu; rw [hu]
   cases u <;> first | rfl | exact (As _ rfl).elim | exact (As _ _ rfl).elim | exact (tX _ rfl).elim | exact (tX _ _ rfl).elim
  have h0:w'.cell? a=some v:=by
   have:=Wz hw (j:=0) (by rw [beq_eq.1 hc]; omega) (by rw [zI]; exact h1)
   rwa [zI] at this
  unfold loadVar
  rw [Sem.run_bind,Ip hu,Result.andThen_ok,if_neg (by simp [ha])]
  simp [h0]
 ·exact h.elim
theorem run_store {a:Addr} {v u:Value} {w:World} (h1:w.cell? a=some u) (h2:w.frozen? a=false) (h3:ek v=true):(store a v).run P w=.ok () (w.setCell a v):=by
 unfold store
 cases v <;> first | (cases h3; done) | (simp [Sem.run,h1,h2])
theorem akH {v:Value} {A:Prop} (h:aap v A):ek v=true∧A:=by
 cases v <;> first | exact ⟨rfl,h⟩ | exact h.elim
theorem ZW {a:Addr} {v:Value} {w:World} {K:World→Prop} (h:st a v w K):(store a v).run P w=.ok () (w.setCell a v)∧ek v=true∧K (w.setCell a v):=by
 obtain ⟨⟨u,h1⟩,h2,h3⟩:=h
 obtain ⟨h4,h5⟩:=akH h3
 exact ⟨run_store h1 h2 h4,h4,h5⟩
theorem V5:∀ {l:List Value} {a:Addr} {i:Nat} {w:World} {K:World→Prop},o5 l a i w K→∃ w',(storeCells a l i).run P w=.ok () w'∧K w'
 | [],a,i,w,K,h=>⟨w,rfl,h⟩
 | v :: r,a,i,w,K,h=>by
  simp only [o5] at h
  obtain ⟨h1,_,h2⟩:=ZW (P:=P) h
  obtain ⟨w',h3,h4⟩:=V5 h2
  refine ⟨w',?_,h4⟩
  unfold storeCells
  rw [Sem.run_bind,h1]
  exact h3
theorem W7:∀ {l:List Value} {a:Addr} {i:Nat} {w:World},(∀ j,j<l.length→(∃ u,w.cell? (a.add (i+j))=some u)∧w.frozen? (a.add (i+j))=false)→(∀ v∈l,ek v=true)→
  (storeCells a l i).run P w=.ok () (setRow w a i l)
 | [],a,i,w,_,_=>rfl
 | v :: r,a,i,w,h,h1=>by
  obtain ⟨⟨u,h2⟩,h3⟩:=h 0 (by simp)
  rw [Nat.add_zero] at h2 h3
  unfold storeCells setRow
  rw [Sem.run_bind,run_store h2 h3 (h1 v List.mem_cons_self),Result.andThen_ok]
  refine W7 (fun j hj=>?_) (fun v hv=>h1 v (List.mem_cons_of_mem _ hv))
  obtain ⟨⟨u',h4⟩,h5⟩:=h (j+1) (by simp only [List.length_cons]; omega)
  rw [show i+(j+1)=i+1+j by omega] at h4 h5
  refine ⟨?_,by rw [World.frozen?_setCell]; exact h5⟩
  by_cases e:a.add i=a.add (i+1+j)
  ·rw [← e]; exact ⟨_,World.cell?_setCell_same _ _ _ h2⟩
  ·exact ⟨u',by rw [World.cell?_setCell_other _ _ _ _ e]; exact h4⟩
theorem aiF {v:Value} (h:ek v=true):v.cells=#[v]:=by cases v <;> first | rfl | cases h
theorem akI {t:TypeId} {a:Addr} {v:Value} {w:World} {K:World→Prop} (h:SH P t a v w K):∃ w',(storeVar t a v).run P w=.ok () w'∧K w':=by
 unfold SH at h
 obtain ⟨hk,h0⟩:=gB h
 clear h
 have h:=h0
 clear h0
 have go:∀ {l:List Value} {w':World},v.cells=⟨l⟩→l.length=Ev.sizeOf P t→(storeCells a l).run P w=.ok () w'→(storeVar t a v).run P w=.ok () w':=by
  intro l w' hv hl hs
  unfold storeVar
  rw [Sem.run_bind,oY hk,Result.andThen_ok,if_neg (by rw [hv]; simpa using hl)]
  rw [hv]; exact hs
 split at h
 ·split at h
  ·rename_i cs
   obtain ⟨hc,h⟩:=gB h
   obtain ⟨w',h1,h2⟩:=V5 (P:=P) h
   exact ⟨w',go (l:=cs.toList) rfl (beq_eq.1 hc) h1,h2⟩
  ·exact h.elim
 ·split at h
  ·rename_i cs
   obtain ⟨h1,h2,h3,h4⟩:=h
   refine ⟨_,go (l:=cs.toList) rfl h1 (W7 (fun j hj=>?_) h3),h4⟩
   rw [Nat.zero_add]
   exact h2 j (by omega)
  ·exact h.elim
 ·obtain ⟨hc,h⟩:=gB h
  obtain ⟨h1,h2,h3⟩:=ZW (P:=P) h
  refine ⟨_,go (l:=[v]) (by rw [aiF h2]) (beq_eq.1 hc).symm ?_,h3⟩
  unfold storeCells
  rw [Sem.run_bind,zI,h1]; rfl
 ·exact h.elim
def Out (P:Program) (e:Operand→Value) (o:Oper) (w:World) (K:Value→World→Prop):Prop:=
 (∃ v w',(execOp e o).run P w=.ok (.value v) w'∧K v w')∨(∃ w',(execOp e o).run P w=.ok .skip w'∧K undef w')∨
 (∃ f args,(execOp e o).run P w=.ok (.enter f args) w∧Calls P f args w fun x w'=>∃ v,x=.returned v∧K v w')
def JF (P:Program) (e:Operand→Value) (o:Oper) (w:World) (a:Addr) (n:Nat) (K:Value→World→Prop):Prop:=
 ∃ v,(∀ w',kept a n w w'→(execOp e o).run P w'=.ok (.value v) w')∧K v w
theorem kept_refl (a:Addr) (n:Nat) (w:World):kept a n w w:=fun _ _=>rfl
theorem JF.out {e:Operand→Value} {o:Oper} {w:World} {a:Addr} {n:Nat} {K:Value→World→Prop} (h:JF P e o w a n K):Out P e o w K:=
 let ⟨v,h1,h2⟩:=h; .inl ⟨v,w,h1 w (kept_refl a n w),h2⟩
theorem rI.reads {e:Operand→Value} {o:Oper} {w:World} {K:Value→World→Prop} (h:rI P e o w K) (a:Addr):JF P e o w a 0 K:=
 let ⟨v,h1,h2⟩:=h; ⟨v,fun w' _=>h1 w',h2⟩
theorem rI.out {e:Operand→Value} {o:Oper} {w:World} {K:Value→World→Prop} (h:rI P e o w K):Out P e o w K:=(h.reads default).out
structure Good (P:Program):Prop where
 names:∀ (f:Nat) (fn:Func),P.funcs[f]? = some fn→fn.name≠ "runtime.NumGoroutine"
 mixed:P.follows .mixedOrders=true
theorem VK (hP:Good P) {f:Nat} (hb:jB P f=true) (args:Array Value) (w:World):(callFunc f args).run P w=.ok (.enter f args) w:=by
 unfold jB at hb
 unfold callFunc
 rw [Sem.run_bind]
 simp only [program,Sem.run,Result.andThen_ok]
 split at hb
 ·rename_i fn hf
  rw [hf]
  simp only []
  have hn:(fn.name == "runtime.NumGoroutine")=false:=by simpa using hP.names f fn hf
  rw [if_neg (by simp [hn])]
  cases hbd:fn.body with
  | none=>rw [hbd] at hb; cases hb
  | some c=>rfl
 ·cases hb
theorem V6 (t:TypeId) (v:Value) (w:World):(newVar t v).run P w=.ok ⟨w.heap.size,0,none⟩ (w.alloc (.cells v.cells t)):=by
 rfl
theorem V7 (t:TypeId) (cs:Array Value) (w:World):(newRow t cs).run P w=.ok ⟨w.heap.size,0,none⟩ (w.alloc (.cells cs t)):=by
 rfl
theorem zl {s:Sem Value} {w w':World} {v:Value} (h:s.run P w=.ok v w'):((do pure (.value (← s))):Sem Next).run P w=.ok (.value v) w':=by
 rw [Sem.run_bind,h]; rfl
theorem aju {s:Sem Unit} {w w':World} (h:s.run P w=.ok () w'):((do s; pure .skip):Sem Next).run P w=.ok .skip w':=by
 rw [Sem.run_bind,h]; rfl
theorem ahW (n:Nat) (zs:List Value):((Array.range (n * zs.length)).map (fun i=>(Array.mk zs)[i % zs.length]!))=⟨jW n zs⟩:=by
 apply Array.ext'
 simp only [Array.toList_map,Array.toList_range]
 unfold jW
 induction n with
 | zero=>simp
 | succ n ih=>
  rw [Nat.succ_mul,List.range_add,List.map_append,ih,List.replicate_succ',List.flatten_append]
  congr 1
  simp only [List.map_map,List.flatten_cons,List.flatten_nil,List.append_nil]
  apply List.ext_getElem
  ·simp
  ·intro i h1 h2
   simp only [List.length_map,List.length_range] at h1
   simp only [List.getElem_map,List.getElem_range,Function.comp]
   rw [Nat.mul_comm n,Nat.mul_add_mod,Nat.mod_eq_of_lt h1]
   simp [h1]
theorem WA {t:TypeId} (h:I3 P t=true) (n:Nat) (w:World):known P t=true∧∃ z0:Array Value,
  (∀ f:Array Value→Sem Value,(if n * Ev.sizeOf P t=0 then pure #[] >>= f else zeroValue t >>= fun z=>pure z.cells >>= f).run P w=(f z0).run P w)∧
  ((Array.range (n * Ev.sizeOf P t)).map (fun i=>z0[i % z0.size]!))=⟨jW n (zc P t)⟩:=by
 unfold I3 at h
 simp only [Bool.and_eq_true,beq_eq] at h
 have CA:known P t=true:=by
  have:=h.1; unfold s6 at this; unfold known; split at this <;> simp_all
 obtain ⟨zv,vJ,Ap,_⟩:=QU (P:=P) h.1 w
 refine ⟨CA,if n * Ev.sizeOf P t=0 then #[] else ⟨zc P t⟩,fun f=>?_,?_⟩
 ·split
  ·rfl
  ·rw [Sem.run_bind,vJ]
   simp only [Result.andThen_ok]
   have:zv.cells=⟨zc P t⟩:=Array.ext' Ap
   rw [this]; rfl
 ·by_cases h0:n * Ev.sizeOf P t=0
  ·rw [if_pos h0,h0]
   apply Array.ext'
   unfold jW
   rcases Nat.mul_eq_zero.1 h0 with h1 | h1
   ·subst h1; simp
   ·rw [h1] at h
    have:zc P t=[]:=List.length_eq_zero_iff.1 h.2
    rw [this]; simp
  ·rw [if_neg h0]
   have e:=ahW n (zc P t)
   rw [h.2] at e
   have e2:(Array.mk (zc P t)).size=Ev.sizeOf P t:=h.2
   rw [e2]; exact e
theorem Qw {s:Sh} {v:Value} {K:Value→Prop} (h:xo s v K):K v:=by
 cases s <;> simp only [xo,bk,aW,R4,Cz,aT,jY] at h <;> first | exact h | (obtain ⟨_,rfl,h⟩:=h; exact h)
theorem Qx {vs:List Value} {K:Value→List Value→Prop} (h:aD vs K):∃ v r,vs=v :: r∧K v r:=by
 cases vs with
 | nil=>exact h.elim
 | cons v r=>exact ⟨v,r,rfl,h⟩
theorem Ox:∀ {l:List Sh} {vs:List Value} {K:List Value→Prop},Bu l vs K→K vs
 | [],vs,K,h=>by obtain ⟨rfl,h⟩:=h; exact h
 | s :: r,vs,K,h=>by
  simp only [Bu] at h
  obtain ⟨v,r',e,h2⟩:=Qx h
  subst e
  exact Ox (K:=fun vs=>K (v :: vs)) (Qw (K:=fun v=>Bu r r' fun vs=>K (v :: vs)) h2)
theorem Pv:∀ {l:List Sh} {vs:List Value} {K:List Value→Prop},bB.wV l vs K→K vs
 | [],vs,K,h=>by obtain ⟨rfl,h⟩:=h; exact h
 | s :: r,vs,K,h=>by
  cases s
  case cells l=>
   simp only [bB.wV] at h
   obtain ⟨v,r',e,cs,e2,h2⟩:=Qx h
   subst e; subst e2
   exact Pv (K:=fun vs=>K (.agg ⟨cs⟩ :: vs)) (Ox (K:=fun cs=>bB.wV r r' fun vs=>K (.agg ⟨cs⟩ :: vs)) h2)
  all_goals
   simp only [bB.wV] at h
   obtain ⟨v,r',e,h2⟩:=Qx h
   subst e
   exact Pv (K:=fun vs=>K (v :: vs)) (Qw (K:=fun v=>bB.wV r r' fun vs=>K (v :: vs)) h2)
theorem ajv {s:Sh} {v:Value} {K:Value→Prop} (h:bB s v K):K v:=by
 cases s
 case cells l=>obtain ⟨cs,rfl,h⟩:=h; exact Ox h
 case JR l=>obtain ⟨cs,rfl,h⟩:=h; exact Pv h
 all_goals (simp only [bB] at h; exact Qw h)
theorem W8 {dst:Option Nat} {t:TypeId} {v:Value} {K:Value→Prop} (h:EG P dst t v K):K v:=by
 unfold EG at h
 split at h
 ·exact h
 ·split at h
  ·exact h
  ·exact ajv h
section
variable {m:Mode} {ρ:Operand→Option Value} {e:Operand→Value} (hr:qL ρ e)
include hr
theorem ZX {o:Oper} {w:World} {K:Value→World→Prop} (hc:cls P o.op=0) (h:zG P m ρ o w K):rI P e o w K:=by
 obtain ⟨dst,op,ty,ps,af,gd⟩:=o
 simp only at hc
 unfold zG at h
 simp only at h
 split at h
 ·
  rename_i op t x y yt
  split at h
  ·rename_i a b ha hb
   have iP:∀ ys,b≠.agg ys:=fun ys e1=>by
    subst e1
    simp only [cls] at hc
    unfold EF at h
    simp only at h
    split at h
    ·split at h
     ·rename_i hu; rw [hu] at hc; cases hc
     ·exact h
    ·exact h
   obtain ⟨v,h1,h2⟩:=BK h iP x y rfl
   rw [← hr _ _ ha,← hr _ _ hb] at h1
   exact ⟨v,fun w'=>zh (h1 w'),h2⟩
  ·exact h.elim
 ·
  rename_i t x
  split at h
  ·rename_i k n hx
   exact ⟨_,fun w'=>by simp only [execOp,hr _ _ hx]; rfl,EH h⟩
  ·exact h.elim
 ·
  rename_i s d x
  split at h
  ·rename_i k0 k k1 n hs hd hx
   refine ⟨_,fun w'=>?_,EH h⟩
   simp only [execOp,hr _ _ hx,convert]
   rw [Sem.run_bind,Sem.run_bind,run_underlying hs,Result.andThen_ok,Sem.run_bind,run_underlying hd,Result.andThen_ok]
   rfl
  ·rename_i b hs hd hx
   refine ⟨_,fun w'=>?_,h⟩
   simp only [execOp,hr _ _ hx,convert]
   rw [Sem.run_bind,Sem.run_bind,run_underlying hs,Result.andThen_ok,Sem.run_bind,run_underlying hd,Result.andThen_ok]
   rfl
  ·rename_i hs hd hx; simp only [cls,hs,hd] at hc; cases hc
  ·rename_i hs hd hx; simp only [cls,hs,hd] at hc; cases hc
  ·rename_i hs hd hx; simp only [cls,hs,hd] at hc; cases hc
  ·exact h.elim
 ·
  rename_i t x i
  split at h
  ·rename_i b k i hx hi
   split at h
   ·rename_i hu
    obtain ⟨h0,h1,h2⟩:=Y7 h
    obtain ⟨u,h3,h4⟩:=alI h0 h1
    refine ⟨_,fun w'=>?_,h2⟩
    simp only [execOp,hr _ _ hx,hr _ _ hi,Instr.index,asIntOf]
    rw [Sem.run_bind,Sem.run_bind]
    simp only [Sem.run_pure,Result.andThen_ok]
    rw [Sem.run_bind,run_underlying hu]
    simp only [Result.andThen_ok]
    rw [if_pos h0,h3]
    simp [h4]
   ·exact h.elim
  ·rename_i cs k i hx hi
   split at h
   ·rename_i n el hu
    split at h
    ·rename_i k' cz
     obtain ⟨hk,h⟩:=gB h
     simp only [Bool.and_eq_true,beq_eq] at hk
     obtain ⟨h0,h1,z,h2,h3⟩:=Y7 h
     refine ⟨_,fun w'=>?_,h3⟩
     have h4:cs[i.toNat]? = some (.int k' z):=by simpa using h2
     simp only [execOp,hr _ _ hx,hr _ _ hi,Instr.index,asIntOf]
     rw [Sem.run_bind,Sem.run_bind]
     simp only [Sem.run_pure,Result.andThen_ok]
     rw [Sem.run_bind,run_underlying hu]
     simp only [Result.andThen_ok]
     rw [if_pos ⟨h0,h1⟩,Sem.run_bind,oY hk.2,Result.andThen_ok,hk.1,Nat.mul_one]
     unfold part
     rw [Sem.run_bind,Ip cz,Result.andThen_ok,if_neg (by simp [tu,cz]),h4]
     rfl
    ·exact h.elim
   ·exact h.elim
  ·exact h.elim
 ·
  rename_i t x i
  split at h
  ·rename_i a n c k i hx hi
   split at h
   ·rename_i el hu
    obtain ⟨hk,h⟩:=gB h
    obtain ⟨⟨hs,h0,h1⟩,h2⟩:=h
    obtain ⟨a,rfl⟩:=Option.isSome_iff_exists.1 hs
    refine ⟨_,fun w'=>?_,h2⟩
    simp only [execOp,hr _ _ hx,hr _ _ hi,Instr.indexAt,asIntOf]
    rw [Sem.run_bind,Sem.run_bind]
    simp only [Sem.run_pure,Result.andThen_ok]
    rw [Sem.run_bind,run_underlying hu]
    simp only [Result.andThen_ok]
    simp [run_underlying hu,h0,h1,oY hk,Ev.base]
   ·exact h.elim
  ·rename_i a k i hx hi
   split at h
   ·rename_i n el hu
    obtain ⟨hk,h⟩:=gB h
    obtain ⟨⟨h0,h1⟩,h2⟩:=h
    refine ⟨_,fun w'=>?_,h2⟩
    simp only [execOp,hr _ _ hx,hr _ _ hi,Instr.indexAt,asIntOf]
    rw [Sem.run_bind,Sem.run_bind]
    simp only [Sem.run_pure,Result.andThen_ok]
    rw [Sem.run_bind,run_underlying hu]
    simp only [Result.andThen_ok]
    simp [run_underlying hu,h0,h1,oY hk,Instr.sureAddr]
   ·exact h.elim
  ·exact h.elim
 ·
  rename_i t x lo hi mx
  split at h
  ·rename_i a n c Tm At mx' hx oJ Au FC
   split at h
   ·rename_i el hu
    obtain ⟨hk,h⟩:=gB h
    obtain ⟨s,h1,l,hh,mm,h2,h3,h4,h5⟩:=X5 h true
    refine ⟨_,fun w'=>?_,h1⟩
    simp only [execOp,hr _ _ hx,uK hr oJ,uK hr Au,uK hr FC,Instr.sliceAt]
    rw [Sem.run_bind,Sem.run_bind,run_underlying hu]
    simp only [Result.andThen_ok,Instr.slice]
    rw [Sem.run_bind,run_underlying hu]
    simp only [Result.andThen_ok]
    rw [Sem.run_bind,h2,Result.andThen_ok]
    simp only []
    rw [Sem.run_bind,oY hk,Result.andThen_ok,h3,h4,h5]
    rfl
   ·exact h.elim
  ·rename_i a Tm At mx' hx oJ Au FC
   split at h
   ·rename_i n el hu
    obtain ⟨hk,h⟩:=gB h
    obtain ⟨s,h1,l,hh,mm,h2,h3,h4,h5⟩:=X5 h false
    refine ⟨_,fun w'=>?_,h1⟩
    simp only [execOp,hr _ _ hx,uK hr oJ,uK hr Au,uK hr FC,Instr.sliceAt]
    rw [Sem.run_bind,Sem.run_bind,run_underlying hu]
    simp only [Result.andThen_ok]
    rw [Sem.run_bind]
    simp only [Instr.sureAddr,Sem.run_pure,Result.andThen_ok]
    rw [Sem.run_bind,h2,Result.andThen_ok]
    simp only []
    rw [Sem.run_bind,oY hk,Result.andThen_ok,h3,h4,h5]
    simp only [Sem.run_pure,Result.andThen_ok,Option.map_some]
    congr 3
    split <;> rfl
   ·exact h.elim
  ·rename_i b Tm At hx oJ Au FC
   split at h
   ·rename_i hu
    have nL:∃ l hh,(∀ w':World,(Instr.sliceBounds false b.size b.size Tm At none).run P w'=.ok (l,hh,b.size) w')∧K (.string (b.extract l hh)) w:=by
     unfold ZU at h
     split at h
     ·refine ⟨0,b.size,fun w'=>by simp [Instr.sliceBounds],?_⟩
      have:b.extract 0 b.size=b:=by simp
      rw [this]; exact h
     ·rename_i k hh
      obtain ⟨⟨h0,h1⟩,h⟩:=h
      exact ⟨0,hh.toNat,fun w'=>by simp [Instr.sliceBounds,oT h0 h1],h⟩
     ·rename_i k l
      obtain ⟨⟨h0,h1⟩,h⟩:=h
      exact ⟨l.toNat,b.size,fun w'=>by simp [Instr.sliceBounds,oT h0 h1],h⟩
     ·rename_i k l k' hh
      obtain ⟨⟨h0,h1,h2⟩,h⟩:=h
      have h3:l≤((hh.toNat:Nat):Int):=by omega
      exact ⟨l.toNat,hh.toNat,fun w'=>by simp [Instr.sliceBounds,oT (show 0≤hh by omega) h2,oT h0 h3],h⟩
     ·exact h.elim
    obtain ⟨l,hh,h1,h2⟩:=nL
    refine ⟨_,fun w'=>?_,h2⟩
    simp only [execOp,hr _ _ hx,uK hr oJ,uK hr Au,uK hr FC,Instr.sliceAt]
    rw [Sem.run_bind,Sem.run_bind,run_underlying hu]
    simp only [Result.andThen_ok,Instr.slice]
    rw [Sem.run_bind,run_underlying hu]
    simp only [Result.andThen_ok,Option.isSome_none]
    rw [if_neg (by simp),Sem.run_bind,h1]
    rfl
   ·exact h.elim
  ·exact h.elim
 ·
  rename_i x
  split at h
  ·rename_i p hx
   cases p with
   | none=>exact h.elim
   | some a=>exact ⟨_,fun w'=>by simp only [execOp,hr _ _ hx]; rfl,h⟩
  ·exact h.elim
 ·simp only [cls] at hc; cases hc
 ·simp only [cls] at hc; cases hc
 ·simp only [cls] at hc; cases hc
 ·simp only [cls] at hc; cases hc
 ·simp only [cls] at hc; cases hc
 ·simp only [cls] at hc; cases hc
 ·
  rename_i c
  split at h
  ·exact h.elim
  ·rename_i vs hv
   split at h
   all_goals first
    | exact rI.nI hr h
    | (exfalso; rename_i Ck; simp only [cls] at hc; split at hc <;> simp_all; done)
 ·exact rI.nI hr h
theorem Sj {o:Oper} {t:TypeId} {x:Operand} {a:Addr} {w:World} {K:Value→World→Prop} (ho:o.op=.load t x) (hx:ρ x=some (.pointer (some a))) (h:Cj P t a w fun v=>K v w) :
  JF P e o w a (Ev.sizeOf P t) K:=by
 obtain ⟨dst,op,ty,ps,af,gd⟩:=o
 simp only at ho
 subst ho
 obtain ⟨v,h1,h2⟩:=Rq h
 refine ⟨v,fun w' hw=>?_,h1⟩
 simp only [execOp,hr _ _ hx,Instr.loadAt]
 rw [Sem.run_bind,Sem.run_bind]
 simp only [Instr.sureAddr,Sem.run_pure,Result.andThen_ok]
 rw [h2 w' hw]
 rfl
theorem ajw (hP:Good P) {o:Oper} {w:World} {K:Value→World→Prop} (h:zG P m ρ o w K):Out P e o w K:=by
 by_cases hc:cls P o.op=0
 ·exact (ZX hr hc h).out
 obtain ⟨dst,op,ty,ps,af,gd⟩:=o
 simp only at hc
 unfold zG at h
 simp only at h
 split at h
 ·
  rename_i op t x y yt
  split at h
  ·rename_i a b ha hb
   have h':=h
   unfold EF at h
   split at h
   ·obtain ⟨v,h1,h2⟩:=BK h' (by simp) x y rfl
    rw [← hr _ _ ha,← hr _ _ hb] at h1
    exact .inl ⟨v,w,zh (h1 w),h2⟩
   ·obtain ⟨v,h1,h2⟩:=BK h' (by simp) x y rfl
    rw [← hr _ _ ha,← hr _ _ hb] at h1
    exact .inl ⟨v,w,zh (h1 w),h2⟩
   ·obtain ⟨v,h1,h2⟩:=BK h' (by simp) x y rfl
    rw [← hr _ _ ha,← hr _ _ hb] at h1
    exact .inl ⟨v,w,zh (h1 w),h2⟩
   ·rename_i ys
    split at h
    ·rename_i xs
     split at h
     ·obtain ⟨v,w',h1,b,h2,h3⟩:=h
      subst h2
      have hg:∀ (x y:Operand) (w:World),(eqGuard op t x y (.agg xs) (.agg ys)).run P w=(eqGuard op t (.tmp 0) (.tmp 0) (.agg xs) (.agg ys)).run P w:=fun x y w=>by
       unfold eqGuard; cases op <;> rfl
      refine .inl ⟨_,w',zh ?_,h3⟩
      rw [hr _ _ ha,hr _ _ hb,Sem.run_bind,hg,← Sem.run_bind]
      exact h1
     ·exact h.elim
    ·exact h.elim
   ·obtain ⟨v,h1,h2⟩:=BK h' (by simp) x y rfl
    rw [← hr _ _ ha,← hr _ _ hb] at h1
    exact .inl ⟨v,w,zh (h1 w),h2⟩
   ·rename_i ark arl arn anW aro
    obtain ⟨v,h1,h2⟩:=BK h' (fun ys e1=>anW ys e1) x y rfl
    rw [← hr _ _ ha,← hr _ _ hb] at h1
    exact .inl ⟨v,w,zh (h1 w),h2⟩
  ·exact h.elim
 ·simp only [cls] at hc; exact absurd trivial hc
 ·
  rename_i s d x
  split at h
  ·rename_i hs hd hx; simp only [cls,hs,hd] at hc; exact absurd trivial hc
  ·rename_i hs hd hx; simp only [cls,hs,hd] at hc; exact absurd trivial hc
  ·rename_i el b hs hd hx
   split at h
   ·rename_i hu
    obtain ⟨v,w',h1,s',h2,h3⟩:=h
    subst h2
    refine .inl ⟨_,w',?_,h3⟩
    simp only [execOp,hr _ _ hx]
    refine zl ?_
    unfold convert
    rw [Sem.run_bind,run_underlying hs,Result.andThen_ok,Sem.run_bind,run_underlying hd,Result.andThen_ok]
    simp only []
    rw [Sem.run_bind,run_underlying hu,Result.andThen_ok]
    exact h1
   ·exact h.elim
  ·rename_i e0 el a n c hs hd hx
   split at h
   ·rename_i hu
    obtain ⟨gl,h⟩:=gB h
    unfold X3 at h
    split at h
    ·rename_i a
     obtain ⟨w',h1,h2⟩:=h
     refine .inl ⟨_,w',?_,h2⟩
     simp only [execOp,hr _ _ hx]
     refine zl ?_
     unfold convert
     rw [Sem.run_bind,run_underlying hs,Result.andThen_ok,Sem.run_bind,run_underlying hd,Result.andThen_ok]
     simp only []
     rw [Sem.run_bind,run_underlying hu,Result.andThen_ok]
     have:(s == d)=true:=by simpa using beq_eq.1 gl
     rw [this]
     simp only []
     rw [Sem.run_bind,h1]
     rfl
    ·exact h.elim
   ·exact h.elim
  ·rename_i el a n c hs hd hx
   split at h
   ·rename_i hu
    obtain ⟨v,w',h1,s',h2,h3⟩:=h
    subst h2
    refine .inl ⟨_,w',?_,h3⟩
    simp only [execOp,hr _ _ hx]
    refine zl ?_
    unfold convert
    rw [Sem.run_bind,run_underlying hs,Result.andThen_ok,Sem.run_bind,run_underlying hd,Result.andThen_ok]
    simp only []
    rw [Sem.run_bind,run_underlying hu,Result.andThen_ok]
    exact h1
   ·exact h.elim
  ·exact h.elim
 ·simp only [cls] at hc; exact absurd trivial hc
 ·simp only [cls] at hc; exact absurd trivial hc
 ·simp only [cls] at hc; exact absurd trivial hc
 ·simp only [cls] at hc; exact absurd trivial hc
 ·
  split at h
  ·rename_i t x _ a hx
   exact (Sj hr (o:=⟨dst,_,ty,ps,af,gd⟩) rfl hx h).out
  ·exact h.elim
 ·
  rename_i t x y
  split at h
  ·rename_i a v hx hy
   obtain ⟨w',h1,h2⟩:=akI h
   refine .inr (.inl ⟨w',?_,h2⟩)
   simp only [execOp,hr _ _ hx,hr _ _ hy]
   refine aju ?_
   simp only [Instr.storeAt,Instr.sureAddr]
   exact h1
  ·exact h.elim
 ·
  rename_i t
  obtain ⟨hz,h⟩:=gB h
  refine .inl ⟨_,_,?_,h⟩
  simp only [execOp]
  refine zl ?_
  unfold Instr.alloc
  obtain ⟨zv,vJ,Ap,_⟩:=QU (P:=P) hz w
  rw [Sem.run_bind,vJ]
  simp only [Result.andThen_ok]
  have:zv.cells=⟨zc P t⟩:=Array.ext' Ap
  rw [Sem.run_bind,V6,this]; rfl
 ·
  rename_i t x
  split at h
  ·rename_i v hx
   refine .inl ⟨_,_,?_,h⟩
   simp only [execOp,hr _ _ hx]
   refine zl ?_
   simp only [Instr.box]
   rw [Sem.run_bind,V6]; rfl
  ·exact h.elim
 ·
  rename_i t n pts
  split at h
  ·rename_i el vs hu hv
   split at h
   ·rename_i cs jo
    obtain ⟨hk,h⟩:=gB h
    simp only [Bool.and_eq_true,Nat.ble_eq] at hk
    refine .inl ⟨_,_,?_,h⟩
    simp only [execOp,Ws hr hv]
    refine zl ?_
    unfold Instr.buildSlice
    obtain ⟨CA,z0,hz,iU⟩:=WA hk.2 n w
    rw [Sem.run_bind,run_underlying hu,Result.andThen_ok]
    simp only []
    rw [Sem.run_bind,oY CA,Result.andThen_ok,if_neg (by omega),hz]
    simp only [iU]
    rw [IP _ _ _ jo]
    simp only []
    rw [Sem.run_bind,V7]; rfl
   ·exact h.elim
  ·exact h.elim
 ·
  rename_i t l c
  split at h
  ·rename_i el k l' k' c' hu hl vK
   obtain ⟨hz,h⟩:=gB h
   obtain ⟨⟨h0,h1,h2,h3⟩,h4⟩:=h
   refine .inl ⟨_,_,?_,h4⟩
   simp only [execOp,hr _ _ hl,hr _ _ vK]
   refine zl ?_
   unfold Instr.makeSlice
   obtain ⟨CA,z0,hz,iU⟩:=WA hz c'.toNat w
   cases hi:P.info? el with
   | none=>simp [known,hi] at CA
   | some i=>
    have hb:Ev.bytesOf P el=i.bytes:=by simp [Ev.bytesOf,hi]
    have wl:IntKind.i64.wrap l'=l':=Ow h0 (by simp only [IntKind.max,IntKind.signed,IntKind.bits]; simp; omega)
    have wc:IntKind.i64.wrap c'=c':=Ow (by omega) (by simp only [IntKind.max,IntKind.signed,IntKind.bits]; simp; omega)
    rw [Sem.run_bind,run_underlying hu,Result.andThen_ok]
    simp only []
    rw [Sem.run_bind]
    simp only [asInt,asIntOf,pure_bind,Sem.run_pure,Result.andThen_ok]
    rw [Sem.run_bind,QT hi,Result.andThen_ok]
    simp only [wl,wc]
    rw [hb] at h3
    have Sk:((decide (c'<0) || decide ((i.bytes:Int) * c' > 2 ^ 48)) || decide (l'<0) || decide (l' > c'))=false:=by
     simp only [Bool.or_eq_false_iff,decide_eq_false_iff_not]
     omega
    rw [if_neg (by rw [Sk]; simp)]
    rw [Sem.run_bind]
    have oA:(askRoom (c'.toNat * i.bytes)).run P w=.ok () w:=by unfold askRoom; split <;> rfl
    rw [oA,Result.andThen_ok,Sem.run_bind,oY CA,Result.andThen_ok]
    refine Eq.trans (hz fun zero=>newRow el ((Array.range (c'.toNat * Ev.sizeOf P el)).map (fun x=>zero[x % zero.size]!)) >>= fun a=>pure (.slice (some a) l'.toNat c'.toNat)) ?_
    simp only [iU]
    rw [Sem.run_bind,V7]; rfl
  ·exact h.elim
 ·
  rename_i c
  split at h
  ·exact h.elim
  ·rename_i vs hv
   have j6:=s5 hr hv
   have enter:∀ {f:Nat} {args:List Value},jB P f=true→(az P f args w fun v w'=>EG P dst ty v fun v'=>K v' w')→(execOp e ⟨dst,.call c,ty,ps,af,gd⟩).run P w=(callFunc f ⟨args⟩).run P w→
     Out P e ⟨dst,.call c,ty,ps,af,gd⟩ w K:=by
    intro f args hb hk EZ
    exact .inr (.inr ⟨f,⟨args⟩,by rw [EZ,VK hP hb],hk.mono fun x w' ⟨v,h1,h2⟩=>⟨v,h1,W8 h2⟩⟩)
   split at h
   ·rename_i Ck
    obtain ⟨v,w',h1,s',h2,h3⟩:=h
    subst h2
    refine .inl ⟨_,w',?_,h3⟩
    simp only [execOp,resolve,j6,Ck,invoke,Sem.run_bind,Sem.run_pure,Result.andThen_ok,builtin]
    simp only [Array.toArray_toList] at h1
    rw [h1]; rfl
   ·rename_i Ck
    obtain ⟨v,w',h1,s',h2,h3⟩:=h
    subst h2
    refine .inl ⟨_,w',?_,h3⟩
    simp only [execOp,resolve,j6,Ck,invoke,Sem.run_bind,Sem.run_pure,Result.andThen_ok,builtin]
    simp only [Array.toArray_toList] at h1
    rw [h1]; rfl
   ·rename_i g Ck
    split at h
    ·rename_i gv hg
     unfold lN at h
     split at h
     ·rename_i f first cap
      obtain ⟨hb,h⟩:=gB h
      refine enter hb h ?_
      simp only [execOp,resolve,j6,Ck,hr _ _ hg,Deferred.ofValue,invoke,Sem.run_bind,Sem.run_pure,Result.andThen_ok]
      congr 2
      apply Array.ext'
      simp
     ·exact h.elim
    ·exact h.elim
   ·exact (rI.nI hr h).out
 ·exact (rI.nI hr h).out
end
end Go.Ev
end
section
set_option linter.unusedVariables false
set_option linter.unusedSimpArgs false
namespace Go.Ev
open Go
variable {P:Program} {n:Nat} {ws:List Nat} {f0:Fr} {ops:Array Oper}
theorem Kn.snd [fM] {s:St} {a:Act} (h:Kn n ws f0 s a) {k:Key} (hs:Sat a k):qL (s.val k) a.eval:=fun _ _ hv=>h.val hs hv
theorem Oy {o:Oper} {a:Act} (h:o.guard=none):Region.wanted o (yielded ops a.tmps)=true:=by simp [Region.wanted,h]
theorem Oz {o:Oper} {a:Act} {j g:Nat} {b:Bool} (h:o.guard=some (j,b)) (hg:(ops.toList[j]?).bind (·.dst)=some g) :
  Region.wanted o (yielded ops a.tmps)=true↔slot a g=.bool b:=by
 simp only [Region.wanted,h,yielded]
 have qM:(ops[j]?).bind (·.dst)=some g:=by simpa using hg
 rw [qM]
 simp only [Option.bind_some,slot,Array.getD_eq_getD_getElem?]
 cases ht:a.tmps[g]? with
 | none=>simp [undef]
 | some v=>cases v <;> simp
def YR (P:Program) (ops:Array Oper) (o:Oper) (v:Value) (a:Act) (w:World) (rd:Rd):Prop:=
 (Region.wanted o (yielded ops a.tmps)=true∧∀ w',(∀ c∈rd,kept c.2.1 c.2.2 w w')→(execOp a.eval o).run P w'=.ok (.value v) w')∨
 (Region.wanted o (yielded ops a.tmps)=false∧v=undef)
theorem W9 {a:Act} {c x y:Operand} {t:Bool} (hc:a.eval c=.bool t) (dst:Option Nat) (ty:TypeId) (ps:String) (af:Array Edge) (gd:Option (Nat×Bool)) (w:World) :
  (execOp a.eval ⟨dst,.pick c x y,ty,ps,af,gd⟩).run P w=.ok (.value (if t then a.eval x else a.eval y)) w:=by
 simp only [execOp,hc]; rfl
def kB (c:Operand) (b:Bool):Key:=match c with | .tmp t=>[(t,b)] | _=>[]
theorem IC {a:Act} {c:Operand} {t:Bool} (hc:a.eval c=.bool t):Sat a (kB c t):=by
 cases c <;> simp only [kB] <;> first | exact Sat.nil a | (refine Sat.cons.2 ⟨?_,Sat.nil a⟩; exact hc)
theorem V8 {a:Act} {k l:Key} (h1:Sat a k) (h2:Sat a l):Sat a (k ++ l):=fun x hx=>by
 rcases List.mem_append.1 hx with h | h
 ·exact h1 x h
 ·exact h2 x h
theorem VL [fM] {m:Mode} {o:Oper} {s:St} {a:Act} {w:World} {K:St→World→Prop} (hk:Kn n ws f0 s a) (hd:∀ d,o.dst=some d→d<n∧d∈ws) (hc:cls P o.op≤1) (h:tB P m o s w K) :
  ∃ v s',(∀ w',(∀ t x A,o.op=.load t x→s.val [] x=some (.pointer (some A))→kept A (Ev.sizeOf P t) w w')→(execOp a.eval o).run P w'=.ok (.value v) w')∧Kn n ws f0 s' (a.put o.dst v)∧K s' w:=by
 have hr:qL (s.val []) a.eval:=hk.snd (Sat.nil a)
 obtain ⟨dst,op,ty,ps,af,gd⟩:=o
 unfold tB at h
 simp only at h hc hd
 split at h
 ·rename_i c x y
  unfold Y0 at h
  split at h
  ·rename_i t FD
   have SL:=hr _ _ FD
   have ht:∀ {u:Value},s.val (kB c true) x=some u→t=true→a.eval x=u:=fun hu e=>hk.val (e ▸ IC SL) hu
   have hf:∀ {u:Value},s.val (kB c false) y=some u→t=false→a.eval y=u:=fun hu e=>hk.val (e ▸ IC SL) hu
   have fin:∀ {u:Value},(if t then a.eval x else a.eval y)=u→K (s.put dst (some u)) w→
     ∃ v s',(∀ w',(∀ t' x' A,Op.pick c x y=.load t' x'→s.val [] x'=some (.pointer (some A))→kept A (Ev.sizeOf P t') w w')→(execOp a.eval ⟨dst,.pick c x y,ty,ps,af,gd⟩).run P w'=.ok (.value v) w')∧Kn n ws f0 s' (a.put dst v)∧K s' w:=by
    intro u hu hK
    exact ⟨u,_,fun w' _=>by rw [W9 SL,hu],hk.put hd (fun x hx=>by cases hx; rfl),hK⟩
   split at h
   ·rename_i bx by' h1 h2
    refine fin ?_ h
    cases t with
    | true=>simp only [if_true,cond_true]; exact ht h1 rfl
    | false=>simp only [Bool.false_eq_true,if_false,cond_false]; exact hf h2 rfl
   ·rename_i v h1 h2
    cases t with
    | true=>exact fin (by simp only [if_true]; exact ht h1 rfl) h
    | false=>exact h.elim
   ·rename_i v h1 h2
    cases t with
    | true=>exact h.elim
    | false=>exact fin (by simp only [Bool.false_eq_true,if_false]; exact hf h2 rfl) h
   ·rename_i u v _ h1 h2
    cases t with
    | true=>exact fin (by simp only [if_true]; exact ht h1 rfl) h
    | false=>exact fin (by simp only [Bool.false_eq_true,if_false]; exact hf h2 rfl) h
   ·exact h.elim
  ·exact h.elim
 ·rename_i x
  exact ⟨a.eval x,_,fun w' _=>rfl,hk.put hd (fun u hu=>hr _ _ hu),h⟩
 ·rename_i x
  exact ⟨a.eval x,_,fun w' _=>rfl,hk.put hd (fun u hu=>hr _ _ hu),h⟩
 ·rename_i As tX Av
  by_cases h0:cls P op=0
  ·obtain ⟨v,h1,h2⟩:=ZX hr (o:=⟨dst,op,ty,ps,af,gd⟩) h0 h
   exact ⟨v,_,fun w' _=>h1 w',hk.put hd (fun x hx=>by cases hx; rfl),h2⟩
  ·have h1:cls P op=1:=by omega
   have hl:∃ t x,op=.load t x:=by
    unfold cls at h1
    split at h1 <;> first | exact ⟨_,_,rfl⟩ | cases h1 | (split at h1 <;> cases h1)
   obtain ⟨t,x,rfl⟩:=hl
   unfold zG at h
   simp only at h
   split at h
   ·rename_i A hx
    obtain ⟨v,h2,h3⟩:=Sj hr (o:=⟨dst,.load t x,ty,ps,af,gd⟩) rfl hx h
    exact ⟨v,_,fun w' hw=>h2 w' (hw t x A rfl hx),hk.put hd (fun x hx=>by cases hx; rfl),h3⟩
   ·exact h.elim
theorem ID [fM] (hP:Good P) {m:Mode} {o:Oper} {s:St} {a:Act} {w:World} {K:St→World→Prop} {Q:Exit→Act→World→Prop} (hk:Kn n ws f0 s a) (hd:∀ d,o.dst=some d→d<n∧d∈ws)
  (h:tB P m o s w K):o.wp P a w (fun a' w'=>∃ s',Kn n ws f0 s' a'∧K s' w') Q:=by
 by_cases hc:cls P o.op≤1
 ·obtain ⟨v,s',h1,h2,h3⟩:=VL hk hd hc h
  unfold Oper.wp
  rw [h1 w (fun t x A _ _=>kept_refl _ _ _)]
  exact ⟨s',h2,h3⟩
 ·have hr:qL (s.val []) a.eval:=hk.snd (Sat.nil a)
  have h':zG P m (s.val []) o w fun v w'=>K (s.put o.dst (some v)) w':=by
   unfold tB at h
   split at h
   ·rename_i ho; rw [ho] at hc; simp [cls] at hc
   ·rename_i ho; rw [ho] at hc; simp [cls] at hc
   ·rename_i ho; rw [ho] at hc; simp [cls] at hc
   ·exact h
  unfold Oper.wp
  rcases ajw hr hP h' with ⟨v,w',h1,h2⟩ | ⟨w',h1,h2⟩ | ⟨f,args,h1,h2⟩
  ·rw [h1]; exact ⟨_,hk.put hd (fun x hx=>by cases hx; rfl),h2⟩
  ·rw [h1]; exact ⟨_,hk.put hd (fun x hx=>by cases hx; rfl),h2⟩
  ·rw [h1]
   refine Calls.mono h2 fun e w' ⟨v,h3,h4⟩=>?_
   subst h3
   exact ⟨_,hk.put hd (fun x hx=>by cases hx; rfl),h4⟩
theorem Vx [fM] {s:St} {a:Act} (hk:Kn n ws f0 s a) {o:Oper} {j g:Nat} {want:Bool} (hg:o.guard=some (j,want)) (hd:(ops.toList[j]?).bind (·.dst)=some g) :
  Region.wanted o (yielded ops a.tmps)=true↔Sat a ((g,want) :: (match dL g s.cd with | some (k,_)=>k | none=>[])):=by
 rw [Oz hg hd,Sat.cons]
 refine ⟨fun h=>⟨h,?_⟩,fun h=>h.1⟩
 cases hl:dL g s.cd with
 | none=>exact Sat.nil a
 | some kv=>
  obtain ⟨k,v⟩:=kv
  simp only
  have:=hk.cd g k v hl
  by_cases hs:Sat a k
  ·exact hs
  ·have h2:=this.2 hs
   rw [h] at h2; cases h2
theorem ahX [fM] {s:St} {a:Act} (hk:Kn n ws f0 s a) {k:Key} (hs:Sat a k) {c x y:Operand} {v:Value} (h:Rn (s.val k c) (s.val (kB c true ++ k) x) (s.val (kB c false ++ k) y)=some v)
  (dst:Option Nat) (ty:TypeId) (ps:String) (af:Array Edge) (gd:Option (Nat×Bool)) (w:World):(execOp a.eval ⟨dst,.pick c x y,ty,ps,af,gd⟩).run P w=.ok (.value v) w:=by
 unfold Rn at h
 split at h
 ·rename_i t bx by' h1 h2 h3
  have FD:a.eval c=.bool t:=hk.val hs h1
  cases h
  rw [W9 FD]
  cases t with
  | true=>rw [if_pos rfl,hk.val (V8 (IC FD) hs) h2]; rfl
  | false=>rw [if_neg (by simp),hk.val (V8 (IC FD) hs) h3]; rfl
 ·cases h
theorem Xh [fM] {s:St} {a:Act} (hk:Kn n ws f0 s a) {k:Key} (hs:Sat a k) {o:Oper} {v:Value} (h:R8 P s k o=some v) (w:World):(execOp a.eval o).run P w=.ok (.value v) w:=by
 obtain ⟨dst,op,ty,ps,af,gd⟩:=o
 unfold R8 at h
 simp only at h
 split at h
 ·exact ahX hk hs h dst ty ps af gd w
 ·exact Y4 (hk.snd hs) ⟨dst,_,ty,ps,af,gd⟩ h w
theorem Xj [fM] {s:St} {a:Act} (hk:Kn n ws f0 s a) (vo:∀ o∈ops.toList,∀ d,o.dst=some d→d<n∧d∈ws) {j g:Nat} {want:Bool} (jq:(ops.toList[j]?).bind (·.dst)=some g) :
  ∀ y∈((g,want) :: (match dL g s.cd with | some (k,_)=>k | none=>[]):Key),y.1∈ws:=by
 intro y hy
 cases hy with
 | head=>
  cases hj:ops.toList[j]? with
  | none=>rw [hj] at jq; cases jq
  | some oj=>rw [hj] at jq; exact (vo oj (List.mem_of_getElem? hj) g jq).2
 | tail _ hy=>
  cases hl:dL g s.cd with
  | none=>rw [hl] at hy; cases hy
  | some kv=>
   obtain ⟨k,v⟩:=kv
   rw [hl] at hy
   exact (hk.ins _ (wR hl)).2 y hy
theorem V9 [fM] (vo:∀ o∈ops.toList,∀ d,o.dst=some d→d<n∧d∈ws) {m:Mode} {i:Nat} {o:Oper} {s:St} {a:Act} {w:World} {K:St→World→Prop} (hk:Kn n ws f0 s a) (hd:∀ d,o.dst=some d→d<n∧d∈ws) (hc:cls P o.op≤1) (h:xp P m ops o s w K) :
  ∃ v s',YR P ops o v a w (uQ P ops.toList s i o)∧Kn n ws f0 s' (a.put o.dst v)∧K s' w:=by
 have quiet:∀ {s':St},Kn n ws f0 s' a→tB P m o s' w K→Region.wanted o (yielded ops a.tmps)=true→
   (∀ t x A,o.op=.load t x→s'.val [] x=some (.pointer (some A))→(i,A,Ev.sizeOf P t)∈uQ P ops.toList s i o)→
   ∃ v s',YR P ops o v a w (uQ P ops.toList s i o)∧Kn n ws f0 s' (a.put o.dst v)∧K s' w:=by
  intro s' fE EZ hw SM
  obtain ⟨v,s2,h1,h2,h3⟩:=VL fE hd hc EZ
  exact ⟨v,s2,.inl ⟨hw,fun w' BY=>h1 w' fun t x A ho hv=>BY _ (SM t x A ho hv)⟩,h2,h3⟩
 unfold xp at h
 split at h
 ·rename_i hg
  refine quiet hk h (Oy hg) fun t x A ho hv=>?_
  unfold uQ
  rw [ho,hg]
  simp only [hv]
  exact List.mem_singleton.2 rfl
 ·rename_i j want hg
  split at h
  ·exact h.elim
  ·rename_i g jq
   split at h
   ·rename_i b hl
    have hb:=hk.lt g b hl
    have hw:=Oz (ops:=ops) (a:=a) hg jq
    cases hs:zz b want with
    | true=>
     rw [hs] at h
     have e:=Bw.1 hs
     subst e
     refine quiet hk h (hw.2 hb) fun t x A ho hv=>?_
     unfold uQ
     rw [ho,hg]
     simp only [jq,hl,hv]
     exact List.mem_singleton.2 rfl
    | false=>
     rw [hs] at h
     have gV:¬ Region.wanted o (yielded ops a.tmps)=true:=fun hh=>by
      have:=hw.1 hh
      rw [hb] at this
      cases this
      simp [Bw.2] at hs
     exact ⟨undef,_,.inr ⟨by simpa using gV,rfl⟩,hk.put hd (fun x hx=>by cases hx; rfl),h⟩
   ·rename_i hl
    have k9:=Vx (ops:=ops) hk hg jq
    have nM:=Xj (want:=want) hk vo jq
    cases he:early o.op with
    | true=>
     rw [he] at h
     simp only [cond_true] at h
     split at h
     ·rename_i v hv
      by_cases hs:Region.wanted o (yielded ops a.tmps)=true
      ·exact ⟨v,_,.inl ⟨hs,fun w' _=>Xh hk (k9.1 hs) hv w'⟩,hk.nB hd nM (fun _=>rfl) (fun hn=>absurd (k9.1 hs) hn),h⟩
      ·exact ⟨undef,_,.inr ⟨by simpa using hs,rfl⟩,hk.nB hd nM (fun hh=>absurd (k9.2 hh) hs) (fun _=>rfl),h⟩
     ·obtain ⟨s',on,fE,h1,h2⟩:=Du _ s _ nM hk h
      cases on with
      | true=>
       exact quiet fE h1 (k9.2 (h2.1 rfl)) fun t x A ho hv=>by rw [ho] at he; cases he
      | false=>
       have hs:¬ Region.wanted o (yielded ops a.tmps)=true:=fun hh=>by have:=h2.2 (k9.1 hh); cases this
       exact ⟨undef,_,.inr ⟨by simpa using hs,rfl⟩,fE.put hd (fun x hx=>by cases hx; rfl),h1⟩
    | false=>
     rw [he] at h
     simp only [cond_false] at h
     split at h
     ·rename_i t x ho
      split at h
      ·rename_i A hx
       by_cases hs:Region.wanted o (yielded ops a.tmps)=true
       ·obtain ⟨v,h1,h2⟩:=Sj (hk.snd (k9.1 hs)) (o:=o) (K:=fun v w=>K (s.nB o.dst _ v) w) ho hx h
        refine ⟨v,_,.inl ⟨hs,fun w' BY=>h1 w' (BY (i,A,Ev.sizeOf P t) ?_)⟩,hk.nB hd nM (fun _=>rfl) (fun hn=>absurd (k9.1 hs) hn),h2⟩
        unfold uQ
        rw [ho,hg]
        simp only [jq,hl,hx]
        exact List.mem_singleton.2 rfl
       ·obtain ⟨v,h1,h2⟩:=Rq h
        exact ⟨undef,_,.inr ⟨by simpa using hs,rfl⟩,hk.nB hd nM (fun hh=>absurd (k9.2 hh) hs) (fun _=>rfl),h1⟩
      ·exact h.elim
     ·rename_i Tn
      obtain ⟨s',on,fE,h1,h2⟩:=Du _ s _ nM hk h
      cases on with
      | true=>
       exact quiet fE h1 (k9.2 (h2.1 rfl)) fun t x A ho hv=>absurd ho (Tn t x)
      | false=>
       have hs:¬ Region.wanted o (yielded ops a.tmps)=true:=fun hh=>by have:=h2.2 (k9.1 hh); cases this
       exact ⟨undef,_,.inr ⟨by simpa using hs,rfl⟩,fE.put hd (fun x hx=>by cases hx; rfl),h1⟩
theorem X6 [fM] (hP:Good P) (vo:∀ o∈ops.toList,∀ d,o.dst=some d→d<n∧d∈ws) {m:Mode} {o:Oper} {s:St} {a:Act} {w:World} {K:St→World→Prop} {Q:Exit→Act→World→Prop} (hk:Kn n ws f0 s a) (hd:∀ d,o.dst=some d→d<n∧d∈ws)
  (h:xp P m ops o s w K):if Region.wanted o (yielded ops a.tmps) then o.wp P a w (fun a' w'=>∃ s',Kn n ws f0 s' a'∧K s' w') Q else ∃ s',Kn n ws f0 s' (a.put o.dst undef)∧K s' w:=by
 by_cases hc:cls P o.op≤1
 ·obtain ⟨v,s',h1,h2,h3⟩:=V9 (i:=0) vo hk hd hc h
  rcases h1 with ⟨hw,h4⟩ | ⟨hw,rfl⟩
  ·rw [if_pos hw]
   unfold Oper.wp
   rw [h4 w (fun c _=>kept_refl _ _ _)]
   exact ⟨s',h2,h3⟩
  ·rw [if_neg (by simp [hw])]
   exact ⟨s',h2,h3⟩
 ·unfold xp at h
  split at h
  ·rename_i hg
   rw [if_pos (Oy hg)]
   exact ID hP hk hd h
  ·rename_i j want hg
   split at h
   ·exact h.elim
   ·rename_i g jq
    split at h
    ·rename_i b hl
     have hb:=hk.lt g b hl
     have hw:=Oz (ops:=ops) (a:=a) hg jq
     cases hs:zz b want with
     | true=>
      rw [hs] at h
      have e:=Bw.1 hs
      subst e
      rw [if_pos (hw.2 hb)]
      exact ID hP hk hd h
     | false=>
      rw [hs] at h
      rw [if_neg (fun hh=>by
       have:=hw.1 hh
       rw [hb] at this
       cases this
       simp [Bw.2] at hs)]
      exact ⟨_,hk.put hd (fun x hx=>by cases hx; rfl),h⟩
    ·rename_i hl
     have k9:=Vx (ops:=ops) hk hg jq
     have nM:=Xj (want:=want) hk vo jq
     cases he:early o.op with
     | true=>
      rw [he] at h
      simp only [cond_true] at h
      split at h
      ·rename_i v hv
       by_cases hs:Region.wanted o (yielded ops a.tmps)=true
       ·rw [if_pos hs]
        unfold Oper.wp
        rw [Xh hk (k9.1 hs) hv w]
        exact ⟨_,hk.nB hd nM (fun _=>rfl) (fun hn=>absurd (k9.1 hs) hn),h⟩
       ·rw [if_neg hs]
        exact ⟨_,hk.nB hd nM (fun hh=>absurd (k9.2 hh) hs) (fun _=>rfl),h⟩
      ·obtain ⟨s',on,fE,h1,h2⟩:=Du _ s _ nM hk h
       cases on with
       | true=>
        rw [if_pos (k9.2 (h2.1 rfl))]
        exact ID hP fE hd h1
       | false=>
        rw [if_neg (fun hh=>by have:=h2.2 (k9.1 hh); cases this)]
        exact ⟨_,fE.put hd (fun x hx=>by cases hx; rfl),h1⟩
     | false=>
      rw [he] at h
      simp only [cond_false] at h
      split at h
      ·rename_i t x ho; rw [ho] at hc; simp [cls] at hc
      ·obtain ⟨s',on,fE,h1,h2⟩:=Du _ s _ nM hk h
       cases on with
       | true=>
        rw [if_pos (k9.2 (h2.1 rfl))]
        exact ID hP fE hd h1
       | false=>
        rw [if_neg (fun hh=>by have:=h2.2 (k9.1 hh); cases this)]
        exact ⟨_,fE.put hd (fun x hx=>by cases hx; rfl),h1⟩
theorem Ep [fM] (hP:Good P) (vo:∀ o∈ops.toList,∀ d,o.dst=some d→d<n∧d∈ws) {m:Mode} {K:Fr→World→Prop} {Q:Exit→Act→World→Prop} (hQ:∀ fr a w,Kn n ws f0 ⟨fr,[],[]⟩ a→K fr w→Q .normal a w) :
  ∀ (l:List Oper) (s:St) (a:Act) (w:World),(∀ o∈l,∀ d,o.dst=some d→d<n∧d∈ws)→Kn n ws f0 s a→vI P m ops l s w K→wpList P ops Q l a w
 | [],s,a,w,_,hk,h=>wpList_nil (hQ s.fr a w hk.out h)
 | o :: r,s,a,w,hd,hk,h=>by
  simp only [vI] at h
  have:=X6 (ops:=ops) (Q:=Q) hP vo hk (hd o List.mem_cons_self) h
  refine wpList_step fun K' hK'=>?_
  have go:∀ a' w',(∃ s',Kn n ws f0 s' a'∧vI P m ops r s' w' K)→K' a' w':=fun a' w' ⟨s',h1,h2⟩=>
   hK' a' w' (Ep hP vo hQ r s' a' w' (fun o ho=>hd o (List.mem_cons_of_mem _ ho)) h1 h2)
  split
  ·rename_i hw
   rw [if_pos hw] at this
   exact Oper.wp_mono go this
  ·rename_i hw
   rw [if_neg hw] at this
   exact go _ _ this
end Go.Ev
end
section
set_option linter.unusedVariables false
set_option linter.unusedSimpArgs false
namespace Go.Ev
open Go
variable {P:Program} {n:Nat} {ws:List Nat} {f0:Fr} {ops:Array Oper}
theorem uM {x:Nat} {l:List Nat}:kO x l=true↔x∈l:=by
 induction l with
 | nil=>simp [kO]
 | cons y r ih=>
  simp only [kO]
  cases h:Nat.beq x y with
  | true=>simp [beq_eq.1 h]
  | false=>have:=fH.1 h; simp [ih,this]
theorem WB {o:Oper} {j:Nat}:j∈after o↔∃ e∈o.after,Region.binds .any e=true∧e.on=j:=by
 unfold after
 simp only [List.mem_filterMap,Array.mem_toList_iff]
 constructor
 ·rintro ⟨e,he,h⟩
  cases hb:Region.binds .any e with
  | true=>rw [hb] at h; cases h; exact ⟨e,he,hb,rfl⟩
  | false=>rw [hb] at h; cases h
 ·rintro ⟨e,he,hb,rfl⟩
  exact ⟨e,he,by rw [hb]; rfl⟩
theorem WC {dn l:List Nat}:BU dn l=true↔∀ j∈l,j∈dn:=by
 induction l with
 | nil=>simp [BU]
 | cons y r ih=>
  simp only [BU]
  cases h:kO y dn with
  | true=>have:=uM.1 h; simp [ih,this]
  | false=>have:y∉dn:=fun hm=>by rw [uM.2 hm] at h; cases h
           simp [this]
structure qN (ops:Array Oper) (dn:List Nat) (listed:Array Bool):Prop where
 size:listed.size=ops.size
 iff:∀ j,j<ops.size→(listed.getD j false=true↔j∈dn)
 lt:∀ j∈dn,j<ops.size
 closed:∀ (j:Nat) (o:Oper),ops[j]? = some o→j∈dn→∀ i∈after o,i∈dn
theorem qN.WD {dn:List Nat} {listed:Array Bool} (h:qN ops dn listed) {j:Nat} (hj:j<ops.size):listed.getD j true=listed.getD j false:=by
 have:j<listed.size:=by rw [h.size]; exact hj
 simp [this]
theorem Xk {dn:List Nat}:∀ {l:List Oper} {k i:Nat} {o:Oper},(i,o)∈lI ops.toList dn k l↔(∃ j,i=k+j∧l[j]? = some o)∧i∉dn∧∀ x∈after o,x∈dn
 | [],k,i,o=>by simp [lI]
 | o' :: r,k,i,o=>by
  have ih:=Xk (dn:=dn) (l:=r) (k:=k+1) (i:=i) (o:=o)
  have split:(∃ j,i=k+j∧(o' :: r)[j]? = some o)↔(i=k∧o'=o)∨(∃ j,i=k+1+j∧r[j]? = some o):=by
   constructor
   ·rintro ⟨j,h1,h2⟩
    cases j with
    | zero=>simp at h2; exact .inl ⟨by omega,h2⟩
    | succ j=>exact .inr ⟨j,by omega,by simpa using h2⟩
   ·rintro (⟨h1,h2⟩ | ⟨j,h1,h2⟩)
    ·exact ⟨0,by omega,by simp [h2]⟩
    ·exact ⟨j+1,by omega,by simpa using h2⟩
  simp only [lI]
  cases h1:kO k dn with
  | true=>
   have hk:=uM.1 h1
   simp only [cond_true,ih,split]
   constructor
   ·rintro ⟨h,h2⟩; exact ⟨.inr h,h2⟩
   ·rintro ⟨h | h,h2,h3⟩
    ·exact absurd (h.1 ▸ hk) h2
    ·exact ⟨h,h2,h3⟩
  | false=>
   have hk:k∉dn:=fun hm=>by rw [uM.2 hm] at h1; cases h1
   simp only [cond_false]
   cases h2:BU dn (after o') with
   | true=>
    have hf:=WC.1 h2
    simp only [cond_true,List.mem_cons,Prod.mk.injEq,ih,split]
    constructor
    ·rintro (⟨rfl,rfl⟩ | ⟨h,h3⟩)
     ·exact ⟨.inl ⟨rfl,rfl⟩,hk,hf⟩
     ·exact ⟨.inr h,h3⟩
    ·rintro ⟨⟨h3,h4⟩ | h,h5⟩
     ·exact .inl ⟨h3,h4.symm⟩
     ·exact .inr ⟨h,h5⟩
   | false=>
    simp only [cond_false,ih,split]
    constructor
    ·rintro ⟨h,h3⟩; exact ⟨.inr h,h3⟩
    ·rintro ⟨⟨h3,h4⟩ | h,h5,h6⟩
     ·subst h4
      rw [WC.2 h6] at h2; cases h2
     ·exact ⟨h,h5,h6⟩
theorem qu {dn:List Nat} {i:Nat} {o:Oper}:(i,o)∈lI ops.toList dn 0 ops.toList↔ops[i]? = some o∧i∉dn∧∀ x∈after o,x∈dn:=by
 rw [Xk]
 constructor
 ·rintro ⟨⟨j,h1,h2⟩,h3⟩
  rw [Nat.zero_add] at h1
  subst h1
  exact ⟨by simpa using h2,h3⟩
 ·rintro ⟨h1,h2⟩
  exact ⟨⟨i,(Nat.zero_add i).symm,by simpa using h1⟩,h2⟩
theorem ajx {dn:List Nat} {listed:Array Bool} (h:qN ops dn listed) {j:Nat} (hj:listed.getD j false=true):j<ops.size∧j∈dn:=by
 have bZ:j<ops.size:=by
  rcases Nat.lt_or_ge j listed.size with h' | h'
  ·rw [← h.size]; exact h'
  ·simp [Array.getElem?_eq_none h'] at hj
 exact ⟨bZ,(h.iff j bZ).1 hj⟩
theorem yS {dn:List Nat} {listed:Array Bool} (h:qN ops dn listed) {i:Nat}:i∈Region.ready .any ops listed↔∃ o,(i,o)∈lI ops.toList dn 0 ops.toList:=by
 rw [mem_ready]
 constructor
 ·rintro ⟨h0,o,ho,lV⟩
  have bZ:i<ops.size:=(Array.getElem?_eq_some_iff.1 ho).1
  refine ⟨o,qu.2 ⟨ho,fun hm=>?_,fun x hx=>?_⟩⟩
  ·rw [h.WD bZ,(h.iff i bZ).2 hm] at h0; cases h0
  ·obtain ⟨e,he,hb,rfl⟩:=WB.1 hx
   exact (ajx h (lV e he hb)).2
 ·rintro ⟨o,ho⟩
  obtain ⟨h1,h2,h3⟩:=qu.1 ho
  have bZ:i<ops.size:=(Array.getElem?_eq_some_iff.1 h1).1
  refine ⟨?_,o,h1,fun e he hb=>?_⟩
  ·rw [h.WD bZ]
   cases hh:listed.getD i false with
   | false=>rfl
   | true=>exact absurd ((h.iff i bZ).1 hh) h2
  ·have hx:=h3 e.on (WB.2 ⟨e,he,hb,rfl⟩)
   exact (h.iff _ (h.lt _ hx)).2 hx
theorem qN.set {dn:List Nat} {listed:Array Bool} (h:qN ops dn listed) {i:Nat} {o:Oper} (ho:(i,o)∈lI ops.toList dn 0 ops.toList):qN ops (i :: dn) (listed.setIfInBounds i true):=by
 obtain ⟨h1,h2,h3⟩:=qu.1 ho
 have bZ:i<ops.size:=(Array.getElem?_eq_some_iff.1 h1).1
 refine ⟨by simp [h.size],fun j hj=>?_,fun j hj=>?_,fun j oj xV hm x hx=>?_⟩
 ·by_cases e:i=j
  ·subst e
   have:i<listed.size:=by rw [h.size]; exact bZ
   simp [this]
  ·rw [getD_set_ne false e,h.iff j hj]
   simp [Ne.symm e]
 ·cases hj with
  | head=>exact bZ
  | tail _ hm=>exact h.lt j hm
 ·cases hm with
  | head=>
   rw [h1] at xV; cases xV
   exact List.mem_cons_of_mem _ (h3 x hx)
  | tail _ hm=>exact List.mem_cons_of_mem _ (h.closed j oj xV hm x hx)
theorem Wa {acc:List Nat} {i:Nat}:∀ {l:List Nat},Nat.testBit (xq acc l) i=true→∃ x∈l,i=x∨Nat.testBit (acc.getD x 0) i=true
 | [],h=>by simp [xq] at h
 | y :: r,h=>by
  simp only [xq] at h
  have h':Nat.testBit (2 ^ y ||| acc.getD y 0 ||| xq acc r) i=true:=h
  rw [Nat.testBit_or,Nat.testBit_or] at h'
  simp only [Bool.or_eq_true] at h'
  rcases h' with (h1 | h1) | h1
  ·rw [Nat.testBit_two_pow] at h1
   exact ⟨y,List.mem_cons_self,.inl (of_decide_eq_true h1).symm⟩
  ·exact ⟨y,List.mem_cons_self,.inr h1⟩
  ·obtain ⟨x,hx,h2⟩:=Wa h1
   exact ⟨x,List.mem_cons_of_mem _ hx,h2⟩
theorem WE:∀ (l:List Oper) (acc:List Nat) (j:Nat),(j<acc.length→(lP l acc).getD j 0=acc.getD j 0)∧
  (∀ k o,j=acc.length+k→l[k]? = some o→∃ zJ,(∀ x,x<zJ.length→zJ.getD x 0=(lP l acc).getD x 0)∧zJ.length=j∧(lP l acc).getD j 0=xq zJ (after o))
 | [],acc,j=>⟨fun _=>rfl,fun k o _ h=>by simp at h⟩
 | o' :: r,acc,j=>by
  have ih:=WE r (acc ++ [xq acc (after o')])
  simp only [lP]
  refine ⟨fun hj=>?_,fun k o hj hk=>?_⟩
  ·rw [(ih j).1 (by simp; omega)]
   simp [List.getD_eq_getElem?_getD,List.getElem?_append_left hj]
  ·cases k with
   | zero=>
    simp at hk; subst hk
    refine ⟨acc,fun x hx=>?_,by omega,?_⟩
    ·rw [(ih x).1 (by simp; omega)]
     simp [List.getD_eq_getElem?_getD,List.getElem?_append_left hx]
    ·rw [(ih j).1 (by simp; omega)]
     subst hj
     simp [List.getD_eq_getElem?_getD]
   | succ k=>exact (ih j).2 k o (by simp; omega) (by simpa using hk)
theorem aiG {dn:List Nat} {listed:Array Bool} (h:qN ops dn listed) {i:Nat}:∀ (j:Nat) (o:Oper),ops[j]? = some o→(∀ x∈after o,x∈dn)→Nat.testBit ((lP ops.toList []).getD j 0) i=true→i∈dn:=by
 intro j
 induction j using Nat.strongRecOn with
 | _ j ih=>
  intro o ho lV hb
  obtain ⟨zJ,h1,h2,h3⟩:=(WE ops.toList [] j).2 j o (by simp) (by simpa using ho)
  rw [h3] at hb
  obtain ⟨x,hx,FE⟩:=Wa hb
  have To:=lV x hx
  rcases FE with rfl | FE
  ·exact To
  ·have bZ:x<zJ.length:=by
    rcases Nat.lt_or_ge x zJ.length with h' | h'
    ·exact h'
    ·simp [List.getD_eq_getElem?_getD,List.getElem?_eq_none h'] at FE
   rw [h1 x bZ] at FE
   have jr:=h.lt x To
   exact ih x (by omega) ops[x] (Array.getElem?_eq_getElem jr) (h.closed x ops[x] (Array.getElem?_eq_getElem jr) To) FE
def Q0 (K:Act→World→Prop):Exit→Act→World→Prop:=fun e a w=>match e with | .normal=>K a w | _=>False
def xF (P:Program) (ops:Array Oper) (Q:Act→World→Prop) (mk:List Nat):Nat→Array Bool→Rd→Act→World→Prop
 | 0,listed,_,a,w=>Region.ready .any ops listed=[]∧Q a w
 | f+1,listed,C,a,w=>(Region.ready .any ops listed=[]→Q a w)∧∀ i∈Region.ready .any ops listed,
   wpOp P ops (Q0 Q) i (fun a' w'=>(∀ c∈C,Nat.testBit (mk.getD i 0) c.1=false→kept c.2.1 c.2.2 w w')∧xF P ops Q mk f (listed.setIfInBounds i true) C a' w') a w
theorem QV {Q:Act→World→Prop} {mk:List Nat}:∀ {f:Nat} {listed:Array Bool} {C:Rd} {a:Act} {w:World},xF P ops Q mk f listed C a w→wpAny P .any ops (Q0 Q) f listed a w
 | 0,_,_,_,_,h=>h
 | _+1,_,_,_,_,h=>⟨h.1,fun i hi=>wpOp_mono (fun _ _ h=>QV h.2) (h.2 i hi)⟩
theorem Qy {Q:Act→World→Prop} {mk:List Nat}:∀ {f:Nat} {listed:Array Bool} {C C':Rd} {a:Act} {w:World},(∀ c∈C',c∈C)→xF P ops Q mk f listed C a w→xF P ops Q mk f listed C' a w
 | 0,_,_,_,_,_,_,h=>h
 | _+1,_,_,_,_,_,hs,h=>⟨h.1,fun i hi=>wpOp_mono (fun _ _ h=>⟨fun c hc hb=>h.1 c (hs c hc) hb,Qy hs h.2⟩) (h.2 i hi)⟩
theorem YR.wpOp {i:Nat} {o:Oper} {v:Value} {a:Act} {w:World} {rd:Rd} {Q:Exit→Act→World→Prop} (hi:ops[i]? = some o) (hy:YR P ops o v a w rd) {K:Act→World→Prop} (h:K (a.put o.dst v) w):wpOp P ops Q i K a w:=by
 unfold Go.wpOp
 simp only [hi]
 rcases hy with ⟨hw,hv⟩ | ⟨hw,rfl⟩
 ·simp only [hw,if_true,Oper.wp,hv w (fun c _=>kept_refl _ _ _),Oper.upon]; exact .inl h
 ·simp only [hw,Bool.false_eq_true,if_false]; exact h
theorem ahY {a:Addr} {n:Nat} {w w1 w2:World} (h:kept a n w w1) (h':kept a n w1 w2):kept a n w w2:=fun j hj=>(h' j hj).trans (h j hj)
theorem YR.of_same {o:Oper} {v:Value} {a a':Act} {w w':World} {rd:Rd} (hy:YR P ops o v a w rd) (he:execOp a'.eval o=execOp a.eval o)
  (hw:Region.wanted o (yielded ops a'.tmps)=Region.wanted o (yielded ops a.tmps)) (hk:∀ c∈rd,kept c.2.1 c.2.2 w w'):YR P ops o v a' w' rd:=by
 unfold YR at *
 rw [he,hw]
 rcases hy with ⟨h1,h2⟩ | h
 ·exact .inl ⟨h1,fun w2 h3=>h2 w2 fun c hc=>ahY (hk c hc) (h3 c hc)⟩
 ·exact .inr h
theorem aiH {j:Nat} {oi oj:Oper} {v:Value} {rd:Rd} {Q:Act→World→Prop} (hj:ops[j]? = some oj) (vL:oi.apart ops oj=true)
  (hsi:∀ cs b,oi.op≠.select cs b) (hsj:∀ cs b,oj.op≠.select cs b) {K:Act→World→Prop} {a:Act} {w:World}
  (hy:YR P ops oi v a w rd) (BY:∀ a' w',K a' w'→∀ c∈rd,kept c.2.1 c.2.2 w w') (h:wpOp P ops (Q0 Q) j K (a.put oi.dst v) w) :
  wpOp P ops (Q0 Q) j (fun a' w'=>YR P ops oi v a' w' rd∧K (a'.put oi.dst v) w') a w:=by
 obtain ⟨h1,h2,h3⟩:=Oper.apart_spec vL
 have keep:∀ (u:Value) (w':World),(∀ c∈rd,kept c.2.1 c.2.2 w w')→YR P ops oi v (a.put oj.dst u) w' rd:=fun u w' hk=>
  hy.of_same (execOp_put oi hsi a oj.dst u h3) (wanted_put oi a oj.dst u h3) hk
 have fin:∀ u w',K ((a.put oi.dst v).put oj.dst u) w'→YR P ops oi v (a.put oj.dst u) w' rd∧K ((a.put oj.dst u).put oi.dst v) w':=fun u w' hK=>
  ⟨keep u w' (BY _ _ hK),by rw [← Act.put_comm a v u h2]; exact hK⟩
 unfold wpOp at *
 simp only [hj] at *
 rw [wanted_put oj a oi.dst v h1] at h
 split
 ·rename_i hw
  simp only [hw,if_true] at h
  rcases h with h | ⟨ZY,am9⟩
  case inr=>exact .inr ⟨by unfold Oper.asks at *; rw [execOp_put oj hsj a oi.dst v h1] at ZY; exact ZY,am9⟩
  refine .inl ?_
  unfold Oper.wp at *
  rw [execOp_put oj hsj a oi.dst v h1] at h
  generalize (execOp a.eval oj).run P w=r at *
  cases r with
  | ok n w'=>
   cases n <;> simp only [Oper.upon] at h ⊢
   case value u=>exact fin u w' h
   case skip=>exact fin _ w' h
   case defer d=>
    have hk:=BY _ _ h
    refine ⟨(keep undef w' hk).of_same (by cases oj.dst <;> rfl) (by cases oj.dst <;> rfl) (fun c _=>kept_refl _ _ _),?_⟩
    rw [← Act.put_comm _ v undef h2,← Act.put_defers]
    exact h
   case enter f args=>
    refine Calls.mono h fun e fu he=>?_
    cases e with
    | returned u=>exact fin u fu he
    | panicked c=>exact he
    | outgrown=>exact he
   case row row args=>exact Rows.mono h fun u fu he=>fin u fu he
  | halt x w'=>
   cases x <;> simp only [Oper.upon] at h ⊢
   case panic u=>exact h
 ·rename_i hw
  simp only [hw] at h
  exact fin _ w h
theorem Xl:∀ {l:List Oper},zA l=true→∀ o∈l,∀ cs b,o.op≠.select cs b
 | [],_,_,h=>by cases h
 | x :: r,h,o,ho=>by
  simp only [zA] at h
  intro cs b e
  cases ho with
  | head=>rw [e] at h; cases h
  | tail _ ho=>
   have hr:zA r=true:=by split at h <;> first | cases h | exact h
   exact Xl hr o ho cs b e
theorem Xm (o:Oper):slotsOf ops.toList o=o.looksAt ops:=by
 unfold slotsOf Oper.looksAt
 congr 1
 cases o.guard with
 | none=>rfl
 | some g=>simp
theorem afL (d:Nat) (l:List Nat):kO d l=l.contains d:=by
 rw [Bool.eq_iff_iff,uM]; simp
theorem aiI {x y:Oper} (h:I7 ops.toList x y=true):x.apart ops y=true:=by
 unfold I7 at h
 unfold Oper.apart
 rw [Xm,Xm] at h
 cases hx:x.dst <;> cases hy:y.dst <;> simp only [hx,hy,afL] at h ⊢
 ·exact h
 ·exact h
 ·rename_i d
  cases hc:(Oper.looksAt ops y).contains d with
  | true=>rw [hc] at h; cases h
  | false=>rfl
 ·rename_i d e
  cases hc:(Oper.looksAt ops y).contains d with
  | true=>rw [hc] at h; cases h
  | false=>
   rw [hc] at h
   simp only [cond_false,Bool.and_eq_true,Bool.not_eq_true',fH] at h
   simp only [Bool.not_false,Bool.true_and,Bool.and_eq_true,Bool.not_eq_true']
   exact ⟨by simp; exact fun e'=>h.1 e'.symm,h.2⟩
theorem VM {i:Nat} {o:Oper}:∀ {l:List Oper} {k:Nat},Bv ops.toList i o k l=true→∀ j x,l[j]? = some x→i=k+j∨i∈after x∨(k+j)∈after o∨o.apart ops x=true
 | [],_,_,j,x,hx=>by simp at hx
 | y :: r,k,h,j,x,hx=>by
  simp only [Bv] at h
  cases hc:(Nat.beq i k || kO i (after y) || kO k (after o) || I7 ops.toList o y) with
  | false=>rw [hc] at h; cases h
  | true=>
   rw [hc] at h
   cases j with
   | zero=>
    simp at hx; subst hx
    simp only [Bool.or_eq_true,beq_eq,uM] at hc
    rcases hc with ((h1 | h1) | h1) | h1
    ·exact .inl (by omega)
    ·exact .inr (.inl h1)
    ·exact .inr (.inr (.inl (by simpa using h1)))
    ·exact .inr (.inr (.inr (aiI h1)))
   | succ j=>
    have:=VM h j x (by simpa using hx)
    rwa [show k+1+j=k+(j+1) by omega] at this
theorem VN:∀ {l:List Oper} {k:Nat},yX ops.toList k l=true→∀ i o,l[i]? = some o→Bv ops.toList (k+i) o 0 ops.toList=true
 | [],_,_,i,o,ho=>by simp at ho
 | y :: r,k,h,i,o,ho=>by
  simp only [yX] at h
  cases hc:Bv ops.toList k y 0 ops.toList with
  | false=>rw [hc] at h; cases h
  | true=>
   rw [hc] at h
   cases i with
   | zero=>simp at ho; subst ho; exact hc
   | succ i=>
    have:=VN h i o (by simpa using ho)
    rwa [show k+1+i=k+(i+1) by omega] at this
theorem ajy {dn:List Nat} (vL:yX ops.toList 0 ops.toList=true) {i j:Nat} {oi oj:Oper} (hi:(i,oi)∈lI ops.toList dn 0 ops.toList) (hj:ops[j]? = some oj) (gV:j≠i)
  (Tp:j∉dn) (dx:i∉after oj):oi.apart ops oj=true:=by
 obtain ⟨h1,h2,h3⟩:=qu.1 hi
 have iU:=VN vL i oi (by simpa using h1)
 rw [Nat.zero_add] at iU
 have:=VM iU j oj (by simpa using hj)
 rw [Nat.zero_add] at this
 rcases this with h | h | h | h
 ·exact absurd h.symm gV
 ·exact absurd h dx
 ·exact absurd (h3 j h) Tp
 ·exact h
theorem aiJ {dn:List Nat} {i j:Nat} {o:Oper} (h:(i,o)∈lI ops.toList dn 0 ops.toList) (gV:i≠j):(i,o)∈lI ops.toList (j :: dn) 0 ops.toList:=by
 obtain ⟨h1,h2,h3⟩:=qu.1 h
 exact qu.2 ⟨h1,by simp [gV,h2],fun x hx=>List.mem_cons_of_mem _ (h3 x hx)⟩
theorem ahZ {Q:Act→World→Prop} (E0:zA ops.toList=true) (vL:yX ops.toList 0 ops.toList=true) {i:Nat} {oi:Oper} {v:Value} {rd:Rd} (hrd:∀ c∈rd,c.1=i) :
  ∀ (f:Nat) (listed:Array Bool) (dn:List Nat) (C:Rd) (a:Act) (w:World),qN ops dn listed→(i,oi)∈lI ops.toList dn 0 ops.toList→YR P ops oi v a w rd→
   xF P ops Q (lP ops.toList []) f (listed.setIfInBounds i true) (rd ++ C) (a.put oi.dst v) w→xF P ops Q (lP ops.toList []) (f+1) listed C a w:=by
 have cS:∀ (j:Nat) (o:Oper),ops[j]? = some o→∀ cs b,o.op≠.select cs b:=fun j o ho=>Xl E0 o (by
  have:=List.mem_of_getElem? (l:=ops.toList) (i:=j) (a:=o) (by simpa using ho)
  exact this)
 intro f
 induction f with
 | zero=>
  intro listed dn C a w hl hi hy H
  have FF:=(yS hl).2 ⟨oi,hi⟩
  refine ⟨fun h=>(by rw [h] at FF; cases FF),fun j hj=>?_⟩
  by_cases xW:j=i
  ·subst xW
   exact hy.wpOp (qu.1 hi).1 ⟨fun c _ _=>kept_refl _ _ _,Qy (fun c hc=>List.mem_append_right _ hc) H⟩
  ·have:=ready_mono hj xW
   rw [H.1] at this
   cases this
 | succ f ih=>
  intro listed dn C a w hl hi hy H
  have FF:=(yS hl).2 ⟨oi,hi⟩
  refine ⟨fun h=>(by rw [h] at FF; cases FF),fun j hj=>?_⟩
  by_cases xW:j=i
  ·subst xW
   exact hy.wpOp (qu.1 hi).1 ⟨fun c _ _=>kept_refl _ _ _,Qy (fun c hc=>List.mem_append_right _ hc) H⟩
  ·have h1:=H.2 j (ready_mono hj xW)
   obtain ⟨oj,hjt⟩:=(yS hl).1 hj
   obtain ⟨xV,Tp,hja⟩:=qu.1 hjt
   obtain ⟨hoi,ey,hia⟩:=qu.1 hi
   have dx:i∉after oj:=fun hm=>ey (hja i hm)
   have anX:Nat.testBit ((lP ops.toList []).getD j 0) i=false:=by
    cases hb:Nat.testBit ((lP ops.toList []).getD j 0) i with
    | false=>rfl
    | true=>exact absurd (aiG hl j oj xV hja hb) ey
   have h2:=aiH xV (ajy vL hi xV xW Tp dx) (cS i oi hoi) (cS j oj xV) hy (fun a' w' hK c hc=>hK.1 c (List.mem_append_left _ hc) (by rw [hrd c hc]; exact anX)) h1
   refine wpOp_mono (fun a' w' h3=>⟨fun c hc hb=>h3.2.1 c (List.mem_append_right _ hc) hb,?_⟩) h2
   refine ih (listed.setIfInBounds j true) (j :: dn) C a' w' (hl.set hjt) (aiJ hi (Ne.symm xW)) h3.1 ?_
   rw [Array.setIfInBounds_comm _ _ xW]
   exact h3.2.2
theorem Pw {mask:Nat} {w w':World} {A:Prop}:∀ {C:Rd},BD mask w w' A C→(∀ c∈C,Nat.testBit mask c.1=false→kept c.2.1 c.2.2 w w')∧A
 | [],h=>⟨fun _ h=>(by cases h),h⟩
 | (i,a,n) :: r,h=>by
  simp only [BD] at h
  cases hb:Nat.testBit mask i with
  | true=>
   rw [hb] at h
   obtain ⟨h1,h2⟩:=Pw h
   refine ⟨fun c hc FG=>?_,h2⟩
   cases hc with
   | head=>rw [hb] at FG; cases FG
   | tail _ hc=>exact h1 c hc FG
  | false=>
   rw [hb] at h
   obtain ⟨h0,h⟩:=h
   obtain ⟨h1,h2⟩:=Pw h
   refine ⟨fun c hc FG=>?_,h2⟩
   cases hc with
   | head=>exact h0
   | tail _ hc=>exact h1 c hc FG
theorem ah0 {s:St} {i:Nat} {o:Oper}:∀ c∈uQ P ops.toList s i o,c.1=i:=by
 intro c hc
 unfold uQ at hc
 split at hc
 ·split at hc
  ·rw [List.mem_singleton.1 hc]
  ·cases hc
 ·cases hc
theorem Vk:∀ {l:List (Nat×Oper)} {i:Nat} {o:Oper},HR P l=some (i,o)→(i,o)∈l∧cls P o.op≤1
 | [],_,_,h=>by cases h
 | (j,x) :: r,i,o,h=>by
  simp only [HR] at h
  cases hb:Nat.ble (cls P x.op) 1 with
  | true=>rw [hb] at h; cases h; exact ⟨List.mem_cons_self,Nat.le_of_ble_eq_true hb⟩
  | false=>rw [hb] at h; obtain ⟨h1,h2⟩:=Vk h; exact ⟨List.mem_cons_of_mem _ h1,h2⟩
theorem X7 {A:Nat×Oper→Prop}:∀ {l:List (Nat×Oper)},SI A l→∀ x∈l,A x
 | [],_,_,h=>by cases h
 | [x],h,y,hy=>by
  cases hy with
  | head=>exact h
  | tail _ hy=>cases hy
 | x :: z :: r,h,y,hy=>by
  cases hy with
  | head=>exact h.1
  | tail _ hy=>exact X7 (l:=z :: r) h.2 y hy
theorem I9 [fM] (hP:Good P) {m:Mode} {K:Fr→World→Prop} {Q:Act→World→Prop} (hQ:∀ fr a w,Kn n ws f0 ⟨fr,[],[]⟩ a→K fr w→Q a w)
  (E0:zA ops.toList=true) (vL:yX ops.toList 0 ops.toList=true) (hd:∀ o∈ops.toList,∀ d,o.dst=some d→d<n∧d∈ws) :
  ∀ (f:Nat) (dn:List Nat) (C:Rd) (s:St) (a:Act) (w:World) (listed:Array Bool),qN ops dn listed→Kn n ws f0 s a→Al P m ops (lP ops.toList []) f dn C s w K→
   xF P ops Q (lP ops.toList []) f listed C a w
 | 0,dn,C,s,a,w,listed,hl,hk,h=>by
  simp only [Al] at h
  split at h
  ·rename_i ht
   refine ⟨List.eq_nil_iff_forall_not_mem.2 fun i hi=>?_,hQ s.fr a w hk.out h⟩
   obtain ⟨o,ho⟩:=(yS hl).1 hi
   rw [ht] at ho; cases ho
  ·exact h.elim
 | f+1,dn,C,s,a,w,listed,hl,hk,h=>by
  simp only [Al] at h
  split at h
  ·rename_i ht
   have qD:Region.ready .any ops listed=[]:=List.eq_nil_iff_forall_not_mem.2 fun i hi=>by
    obtain ⟨o,ho⟩:=(yS hl).1 hi
    rw [ht] at ho; cases ho
   exact ⟨fun _=>hQ s.fr a w hk.out h,fun i hi=>by rw [qD] at hi; cases hi⟩
  ·rename_i x r ht
   have X8:∀ {i:Nat} {o:Oper},(i,o)∈lI ops.toList dn 0 ops.toList→∀ d,o.dst=some d→d<n∧d∈ws:=fun {i o} ho=>
    hd o (List.mem_of_getElem? (l:=ops.toList) (i:=i) (by simpa using (qu.1 ho).1))
   split at h
   ·rename_i i o hq
    obtain ⟨hm,hc⟩:=Vk hq
    rw [← ht] at hm
    obtain ⟨v,s',h1,h2,h3⟩:=V9 (i:=i) hd hk (X8 hm) hc h
    have:=I9 hP hQ E0 vL hd f (i :: dn) _ s' _ w _ (hl.set hm) h2 h3
    exact ahZ E0 vL ah0 f listed dn C a w hl hm h1 this
   ·rw [← ht] at h
    refine ⟨fun qD=>?_,fun i hi=>?_⟩
    ·exfalso
     have hx:x∈lI ops.toList dn 0 ops.toList:=by rw [ht]; exact List.mem_cons_self
     have:=(yS hl).2 ⟨x.2,by simpa using hx⟩
     rw [qD] at this; cases this
    ·obtain ⟨o,ho⟩:=(yS hl).1 hi
     have h1:=X7 h (i,o) ho
     have h2:=X6 (ops:=ops) (Q:=Q0 Q) hP hd hk (X8 ho) h1
     unfold wpOp
     rw [(qu.1 ho).1]
     simp only
     have go:∀ a' w',(∃ s',Kn n ws f0 s' a'∧BD ((lP ops.toList []).getD i 0) w w' (Al P m ops (lP ops.toList []) f (i :: dn) C s' w' K) C)→
       (∀ c∈C,Nat.testBit ((lP ops.toList []).getD i 0) c.1=false→kept c.2.1 c.2.2 w w')∧xF P ops Q (lP ops.toList []) f (listed.setIfInBounds i true) C a' w':=fun a' w' ⟨s',h3,h4⟩=>by
      obtain ⟨h5,h6⟩:=Pw h4
      exact ⟨h5,I9 hP hQ E0 vL hd f (i :: dn) C s' a' w' _ (hl.set ho) h3 h6⟩
     split
     ·rename_i hw
      rw [if_pos hw] at h2
      exact .inl (Oper.wp_mono go h2)
     ·rename_i hw
      rw [if_neg hw] at h2
      exact go _ _ h2
theorem Y8 [fM] (hP:Good P) {m:Mode} {draw:Bool} {id:Nat} {fr:Fr} {a:Act} {w:World} {K:Fr→World→Prop} {Q:Exit→Act→World→Prop} (hQ:∀ fr a w,Kn n ws f0 ⟨fr,[],[]⟩ a→K fr w→Q .normal a w)
  (hd:∀ o∈ops.toList,∀ d,o.dst=some d→d<n∧d∈ws) (hk:Kn n ws f0 ⟨fr,[],[]⟩ a) (h:Am P m ops draw fr w K):(Code.region id ops draw).wp P Q a w:=by
 unfold Am at h
 cases draw with
 | false=>
  exact wp_region_list (Ep hP hd hQ _ _ a w hd hk h)
 | true=>
  obtain ⟨hc,h⟩:=gB h
  simp only [Bool.and_eq_true] at hc
  have hl:qN ops [] (Array.replicate ops.size false):=⟨by simp,fun j hj=>(by simp [hj]),fun j hj=>(by cases hj),fun j o _ hm=>(by cases hm)⟩
  have h1:=I9 hP (Q:=fun a w=>Q .normal a w) (fun fr a w h1 h2=>hQ fr a w h1 h2) hc.1 hc.2 hd _ [] [] _ a w.drew _ hl hk h
  have h2:(Code.region id ops true).wp P (Q0 fun a w=>Q .normal a w) a w:=wp_region_any hP.mixed (by
   have:=QV h1
   rw [Array.length_toList] at this
   exact this)
  exact wp_mono h2 fun e a w hq=>by cases e <;> first | exact hq | exact hq.elim
end Go.Ev
end
section
set_option linter.unusedVariables false
set_option linter.unusedSimpArgs false
namespace Go.Ev
open Go
variable {P:Program} {n:Nat} {m:Mode} {J L:qJ}
structure KF [fM] (n:Nat) (fr:Fr) (a:Act):Prop where
 size:a.tmps.size=n
 defers:a.defers=fM.ds
 fr:∀ t v,look t fr=some v→slot a t=v
theorem KF.kn [fM] {fr:Fr} {a:Act} (h:KF n fr a) (ws:List Nat):Kn n ws fr ⟨fr,[],[]⟩ a:=
 ⟨h.size,h.defers,fun t v hl _=>h.fr t v hl,fun t k v hl=>(by cases hl),List.nodup_nil,fun g b hl=>(by cases hl),fun t kv hl=>(by cases hl),fun _ _=>rfl,fun x hx=>(by cases hx)⟩
theorem Kn.kf [fM] {ws:List Nat} {f0 fr:Fr} {a:Act} (h:Kn n ws f0 ⟨fr,[],[]⟩ a):KF n fr a:=⟨h.size,h.defers,fun t v hl=>h.fr t v hl rfl⟩
theorem By:∀ {l:List Oper} {d:Nat},d∈pG l↔∃ o∈l,o.dst=some d
 | [],d=>by simp [pG]
 | o :: r,d=>by
  simp only [pG]
  cases ho:o.dst with
  | none=>simp [By (l:=r),ho]
  | some x=>
   simp only [List.mem_cons,By (l:=r)]
   constructor
   ·rintro (rfl | ⟨o',h1,h2⟩)
    ·exact ⟨o,.inl rfl,ho⟩
    ·exact ⟨o',.inr h1,h2⟩
   ·rintro ⟨o',h1 | h1,h2⟩
    ·subst h1; rw [ho] at h2; cases h2; exact .inl rfl
    ·exact .inr ⟨o',h1,h2⟩
def E7 (ws:List Nat) (f g:Fr):Prop:=∀ t,t∉ws→look t g=look t f
set_option linter.unusedVariables false
theorem VO (t:Nat) (f g:Fr):look t (f ++ g)=if t∈f.map (·.1) then look t f else look t g:=by
 induction f with
 | nil=>simp
 | cons y r ih=>
  obtain ⟨s,v⟩:=y
  simp only [List.cons_append,look]
  cases hb:Nat.beq s t with
  | true=>simp [beq_eq.1 hb]
  | false=>
   have:t≠s:=fun e=>fH.1 hb e.symm
   simp only [cond_false,ih,List.map_cons,List.mem_cons,this,false_or]
theorem Px (ws:List Nat) (t:Nat):∀ (f:Fr),look t (strip ws f)=if t∈ws then none else look t f
 | []=>by simp [strip,look]
 | (s,v) :: r=>by
  have ih:=Px ws t r
  simp only [strip]
  cases hw:kO s ws with
  | true=>
   simp only [cond_true,ih,look]
   cases hb:Nat.beq s t with
   | true=>have:=uM.1 hw; rw [beq_eq.1 hb] at this; simp [this]
   | false=>rfl
  | false=>
   simp only [cond_false,look]
   cases hb:Nat.beq s t with
   | true=>
    have:t∉ws:=fun hm=>by rw [← beq_eq.1 hb] at hm; rw [uM.2 hm] at hw; cases hw
    simp [this]
   | false=>simpa using ih
theorem VP (fr:Fr):∀ ls:List (Nat×Sh),(carry fr ls).map (·.1)=ls.map (·.1)
 | []=>rfl
 | (t,s) :: r=>by simp [carry,VP fr r]
theorem Wc (fr:Fr) (t:Nat):∀ ls:List (Nat×Sh),t∈ls.map (·.1)→look t (carry fr ls)=look t fr
 | [],h=>by cases h
 | (s,x) :: r,h=>by
  simp only [carry,look]
  cases hb:Nat.beq s t with
  | true=>rw [beq_eq.1 hb]; rfl
  | false=>
   have:t≠s:=fun e=>fH.1 hb e.symm
   simp [this] at h
   exact Wc fr t r (by simpa using h)
theorem wS {ws:List Nat}:∀ {ls:List (Nat×Sh)},xB ls ws=true→∀ t∈ls.map (·.1),t∈ws
 | [],_,t,h=>by cases h
 | (s,x) :: r,h,t,ht=>by
  simp only [xB] at h
  cases hw:kO s ws with
  | true=>
   rw [hw] at h
   rcases List.mem_cons.1 ht with h1 | h1
   ·rw [h1]; exact uM.1 hw
   ·exact wS h t h1
  | false=>rw [hw] at h; cases h
theorem Vl {s:Sh} {F:Value→Prop} (h:∀ v,F v):IN s F:=by
 cases s <;> simp only [IN] <;> intros <;> exact h _
theorem UN:∀ {l:List Sh} {F:List Value→Prop},(∀ v,F v)→Qu l F
 | [],F,h=>h []
 | s :: r,F,h=>Vl fun v=>UN fun vs=>h (v :: vs)
theorem ahk {s:Sh} {F:Value→Prop} (h:∀ v,F v):R6 s F:=by
 cases s
 case cells l=>exact UN fun vs=>h _
 all_goals (simp only [R6]; exact Vl h)
theorem wE:∀ {ls:List (Nat×Sh)} {F:Fr→Prop},(∀ fr:Fr,fr.map (·.1)=ls.map (·.1)→F fr)→zB ls F
 | [],F,h=>h [] rfl
 | (t,s) :: r,F,h=>ahk fun v=>wE fun fr hf=>h _ (by simp [hf])
theorem s7 [fM] {ws:List Nat} {f f':Fr} {ls:List (Nat×Sh)} {a:Act} (h:KF n f' a) (hs:∀ t,t∉ws→look t f'=look t f):KF n (carry f' ls ++ strip ws f) a:=by
 refine ⟨h.size,h.defers,fun t v hl=>?_⟩
 rw [VO,VP] at hl
 split at hl
 ·rename_i hm
  rw [Wc f' t ls hm] at hl
  exact h.fr t v hl
 ·rw [Px] at hl
  split at hl
  ·cases hl
  ·rename_i hw
   exact h.fr t v ((hs t hw).trans hl)
theorem yT {ws:List Nat} {f fr:Fr} {ls:List (Nat×Sh)} (hf:fr.map (·.1)=ls.map (·.1)) (ey:∀ t∈ls.map (·.1),t∈ws) {t:Nat} (ht:t∉ws):look t (fr ++ strip ws f)=look t f:=by
 rw [VO,hf,if_neg (fun hm=>ht (ey t hm)),Px,if_neg ht]
def Jq (P:Program) (c:Code) (Q:Exit→Act→World→Prop) (a:Act) (w:World):Prop:=
 ∀ (b:Frame) (k:List Item) (cs:List Frame),∃ e a' w',Q e a' w'∧Arrives P (lone (b.at a (.code c :: .inLoop c :: k)) cs w) b k cs e a' w'
theorem ajz {c:Code} {Q:Exit→Act→World→Prop} {a:Act} {w:World} (h:c.wp P (Exit.then (Jq P c Q) Q) a w):Jq P c Q a w:=by
 intro b k cs
 obtain ⟨e,a₁,w₁,hq,iL⟩:=h b (.inLoop c :: k) cs
 cases e with
 | normal=>
  obtain ⟨e₂,a₂,w₂,EI,D3⟩:=hq b k cs
  exact ⟨e₂,a₂,w₂,EI,.of_steps (Steps.trans iL (.one step_inLoop)) D3⟩
 | exit id=>exact ⟨_,a₁,w₁,hq,.pass (x:=.inLoop c) rfl (fun _ _=>.inl (by simp)) iL⟩
 | goto l=>exact ⟨_,a₁,w₁,hq,.pass (x:=.inLoop c) rfl (fun _ _=>.inl (by simp)) iL⟩
 | ret=>exact ⟨_,a₁,w₁,hq,.pass (x:=.inLoop c) rfl (fun _ _=>.inl (by simp)) iL⟩
 | panic ch=>exact ⟨_,a₁,w₁,hq,.pass (x:=.inLoop c) rfl (fun _ _=>.inl (by simp)) iL⟩
 | outgrown=>exact ⟨_,a₁,w₁,hq,.pass (x:=.inLoop c) rfl (fun _ _=>.inl (by simp)) iL⟩
theorem akJ {c:Code} {Q:Exit→Act→World→Prop} {a:Act} {w:World} (h:Jq P c Q a w):(Code.loop c).wp P Q a w:=by
 intro b k cs
 obtain ⟨e,a',w',hq,iL⟩:=h b k cs
 exact ⟨e,a',w',hq,.of_steps (.one step_loop) iL⟩
theorem ry [fM] (hP:Good P):∀ (c:Code),(∀ d∈writes c,d<n)→∀ {fr:Fr} {a:Act} {w:World} {Q':pI} {Q:Exit→Act→World→Prop},KF n fr a→
  (∀ e aO a' w',KF n aO a'→E7 (writes c) fr aO→Q' e aO w'→Q e a' w')→fL P m J L c fr w Q'→c.wp P Q a w
 | .skip,_,fr,a,w,Q',Q,hk,hq,h=>wp_skip (hq _ _ _ _ hk (fun _ _=>rfl) h)
 | .exit id,_,fr,a,w,Q',Q,hk,hq,h=>wp_exit (hq _ _ _ _ hk (fun _ _=>rfl) h)
 | .ret,_,fr,a,w,Q',Q,hk,hq,h=>wp_ret (hq _ _ _ _ hk (fun _ _=>rfl) h)
 | .region id ops draw,hw,fr,a,w,Q',Q,hk,hq,h=>by
  refine Y8 (n:=n) (ws:=pG ops.toList) (f0:=fr) (m:=m) hP (K:=fun aO w'=>Q' .normal aO w') (fun aO a' w' h1 h2=>hq .normal aO a' w' h1.kf (fun t ht=>h1.zH t ht) h2) (fun o ho d hd=>?_) (hk.kn _) h
  have:d∈pG ops.toList:=By.2 ⟨o,ho,hd⟩
  exact ⟨hw d this,this⟩
 | .cond c x y,hw,fr,a,w,Q',Q,hk,hq,h=>by
  simp only [fL] at h
  split at h
  ·rename_i t ht
   have hc:=(hk.kn []).val (Sat.nil a) ht
   have hx:∀ d∈writes x,d<n:=fun d hd=>hw d (List.mem_append_left _ hd)
   have hy:∀ d∈writes y,d<n:=fun d hd=>hw d (List.mem_append_right _ hd)
   refine wp_cond hc ?_
   cases t with
   | true=>
    exact ry hP x hx hk (fun e aO a' w' h1 h2 h3=>hq e aO a' w' h1 (fun t ht=>h2 t (fun hm=>ht (List.mem_append_left _ hm))) h3) h
   | false=>
    exact ry hP y hy hk (fun e aO a' w' h1 h2 h3=>hq e aO a' w' h1 (fun t ht=>h2 t (fun hm=>ht (List.mem_append_right _ hm))) h3) h
  ·exact h.elim
 | .block id c,hw,fr,a,w,Q',Q,hk,hq,h=>by
  refine wp_block (ry hP c hw hk (fun e aO a' w' h1 h2 h3=>?_) h)
  cases e with
  | exit i=>
   simp only [DX] at h3
   simp only [Exit.inBlock]
   cases hb:Nat.beq i id with
   | true=>rw [hb] at h3; rw [if_pos (beq_eq.1 hb)]; exact hq _ _ _ _ h1 h2 h3
   | false=>rw [hb] at h3; rw [if_neg (fH.1 hb)]; exact hq _ _ _ _ h1 h2 h3
  | _=>exact hq _ _ _ _ h1 h2 h3
 | .seq x y,hw,fr,a,w,Q',Q,hk,hq,h=>by
  have hx:∀ d∈writes x,d<n:=fun d hd=>hw d (List.mem_append_left _ hd)
  have hy:∀ d∈writes y,d<n:=fun d hd=>hw d (List.mem_append_right _ hd)
  simp only [fL] at h
  refine wp_seq ?_
  split at h
  ·refine ry hP x hx hk (fun e aO a' w' h1 h2 h3=>?_) h
   have off:∀ e,Q' e aO w'→Q e a' w':=fun e h4=>hq e aO a' w' h1 (fun t ht=>h2 t (fun hm=>ht (List.mem_append_left _ hm))) h4
   cases e with
   | normal=>
    exact ry hP y hy h1 (fun e gI a2 w2 h4 h5 h6=>hq e gI a2 w2 h4 (fun t ht=>
     (h5 t (fun hm=>ht (List.mem_append_right _ hm))).trans (h2 t (fun hm=>ht (List.mem_append_left _ hm)))) h6) h3
   | _=>exact off _ h3
  ·rename_i ls CB
   obtain ⟨ey,h⟩:=gB h
   have ey:=wS ey
   have h':=h (fun gm w'=>∀ a',KF n (gm ++ strip (writes x) fr) a'→y.wp P Q a' w') (wE fun gm hf w' Aw a' fE=>
    ry hP y hy fE (fun e gI a2 w2 h4 h5 h6=>hq e gI a2 w2 h4 (fun t ht=>
     (h5 t (fun hm=>ht (List.mem_append_right _ hm))).trans (yT hf ey (fun hm=>ht (List.mem_append_left _ hm)))) h6) Aw)
   refine ry hP x hx hk (fun e aO a' w' h1 h2 h3=>?_) h'
   have off:∀ e,Q' e aO w'→Q e a' w':=fun e h4=>hq e aO a' w' h1 (fun t ht=>h2 t (fun hm=>ht (List.mem_append_left _ hm))) h4
   cases e with
   | normal=>exact h3 a' (s7 h1 h2)
   | _=>exact off _ h3
 | .loop c,hw,fr,a,w,Q',Q,hk,hq,h=>by
  simp only [fL] at h
  split at h
  ·exact h.elim
  ·rename_i ls CB
   obtain ⟨ey,h⟩:=gB h
   have ey:=wS ey
   have h':=h (fun gm w'=>∀ a',KF n (gm ++ strip (writes c) fr) a'→Jq P c Q a' w') (wE fun gm hf w' vK a' fE=>ajz (
    ry hP c hw fE (fun e gI a2 w2 h4 h5 h6=>by
     have same:∀ t,t∉writes c→look t gI=look t fr:=fun t ht=>(h5 t ht).trans (yT hf ey ht)
     have off:∀ e,Q' e gI w2→Q e a2 w2:=fun e h7=>hq e gI a2 w2 h4 same h7
     cases e with
     | normal=>exact h6 a2 (s7 h4 same)
     | _=>exact off _ h6) vK))
   exact akJ (h' a (s7 hk (fun _ _=>rfl)))
 | .rangeFunc ..,_,_,_,_,_,_,_,_,h=>(by simp only [fL] at h)
 | .scope c,hw,fr,a,w,Q',Q,hk,hq,h=>by
  simp only [fL] at h
  refine wp_scope_straight (ry hP c hw hk (fun e aO a' w' h1 h2 h3=>?_) h)
  cases e with
  | goto l=>exact h3.elim
  | _=>exact hq _ _ _ _ h1 h2 h3
 | .label l,hw,fr,a,w,Q',Q,hk,hq,h=>by
  simp only [fL] at h
  exact wp_label (hq _ _ _ _ hk (fun _ _=>rfl) h)
 | .goto _,_,_,_,_,_,_,_,_,h=>(by simp only [fL] at h)
 | .refuse _,_,_,_,_,_,_,_,_,h=>(by simp only [fL] at h)
theorem Qz [fM] {fr:Fr} {a:Act} (hk:KF n fr a) {w:World}:∀ {l:List ResultVar} {K:List Value→Prop},uR P fr w l K→
  ∃ vs,vs.length=l.length∧(l.mapM fun | .tmp t=>pure (a.tmps.getD t undef) | .cell x t=>do loadVar t (← asAddr (a.tmps.getD x undef)):Sem (List Value)).run P w=.ok vs w∧K vs
 | [],K,h=>⟨[],rfl,rfl,h⟩
 | .tmp t :: r,K,h=>by
  simp only [uR] at h
  split at h
  ·rename_i v hv
   obtain ⟨vs,h1,h2,h3⟩:=Qz hk h
   refine ⟨v :: vs,by simp [h1],?_,h3⟩
   have hs:a.tmps.getD t undef=v:=hk.fr t v hv
   rw [List.mapM_cons,Sem.run_bind]
   simp only [Sem.run_pure,Result.andThen_ok]
   rw [Sem.run_bind,h2,hs]; rfl
  ·exact h.elim
 | .cell t ty :: r,K,h=>by
  simp only [uR] at h
  split at h
  ·rename_i p hv
   obtain ⟨v,h0,h1⟩:=Rq h
   obtain ⟨vs,h2,h3,h4⟩:=Qz hk h0
   refine ⟨v :: vs,by simp [h2],?_,h4⟩
   have hs:a.tmps.getD t undef=.pointer (some p):=hk.fr t _ hv
   rw [List.mapM_cons,Sem.run_bind]
   show ((asAddr (a.tmps.getD t undef) >>= fun p=>loadVar ty p).run P w).andThen _=_
   have e1:(asAddr (a.tmps.getD t undef) >>= fun p=>loadVar ty p).run P w=.ok v w:=by rw [hs]; exact h1 w (kept_refl _ _ _)
   rw [e1,Result.andThen_ok,Sem.run_bind,h3]; rfl
  ·exact h.elim
theorem Bl [fM] {fn:Func} {fr:Fr} {a:Act} (hk:KF n fr a) {w:World} {R:Value→World→Prop} (h:uR P fr w fn.results.toList (I8 R w)) :
  ∃ v,(results fn a.tmps).run P w=.ok v w∧R v w:=by
 obtain ⟨vs,h1,h2,h3⟩:=Qz hk h
 have hm:(fn.results.mapM fun | .tmp t=>pure (a.tmps.getD t undef) | .cell x t=>do loadVar t (← asAddr (a.tmps.getD x undef)):Sem (Array Value)).run P w=.ok ⟨vs⟩ w:=by
  rw [Array.mapM_eq_mapM_toList,Sem.run_map,h2]; rfl
 refine ⟨if h:(Array.mk vs).size=1 then (Array.mk vs)[0] else .tuple ⟨vs⟩,?_,?_⟩
 ·unfold results
  rw [Sem.run_bind]
  exact (congrArg (fun r=>Result.andThen r fun (vs:Array Value) w'=>Sem.run P (pure (if h:vs.size=1 then vs[0] else .tuple vs)) w') hm).trans rfl
 ·match vs,h3 with
  | [],h3=>exact h3
  | [v],h3=>exact h3
  | v :: u :: r,h3=>exact h3
theorem Iq:∀ {l:List Value} {i t:Nat} {v:Value},look t (vm i l)=some v→i≤t∧l[t - i]? = some v
 | [],_,_,_,h=>by cases h
 | x :: r,i,t,v,h=>by
  simp only [vm,look] at h
  cases hb:Nat.beq i t with
  | true=>
   rw [hb] at h; cases h
   have:=beq_eq.1 hb
   exact ⟨by omega,by simp [this]⟩
  | false=>
   rw [hb] at h
   have gV:=fH.1 hb
   obtain ⟨h1,h2⟩:=Iq h
   refine ⟨by omega,?_⟩
   rw [show t - i=(t - (i+1))+1 by omega]
   simpa using h2
theorem Is {n:Nat}:∀ {l:List Nat},BX n l=true→∀ d∈l,d<n
 | [],_,d,h=>by cases h
 | x :: r,h,d,hd=>by
  simp only [BX] at h
  cases hb:Nat.blt x n with
  | true=>
   rw [hb] at h
   rcases List.mem_cons.1 hd with h1 | h1
   ·rw [h1]; exact Nat.le_of_ble_eq_true hb
   ·exact Is h d h1
  | false=>rw [hb] at h; cases h
theorem aL (hP:Good P) {f:FuncId} {fn:Func} (hf:P.funcs[f]? = some fn) {args:List Value} (EJ:Nat.ble args.length fn.ntmps=true) {w:World} {R:Value→World→Prop}
  (h:aK P m J L fn args w R):Ok P f args w R:=by
 have hlen:args.length≤fn.ntmps:=Nat.le_of_ble_eq_true EJ
 unfold aK at h
 split at h
 ·rename_i c hc
  obtain ⟨bZ,h⟩:=gB h
  refine calls_of_wp hf hc (ry (n:=fn.ntmps) (m:=m) (J:=J) (L:=L) hP c (Is bZ) (fr:=vm 0 args) ⟨?_,rfl,fun t v hl=>?_⟩ (fun e aO a' w' hk _ hq=>?_) h)
  ·simp; omega
  ·obtain ⟨_,h2⟩:=Iq hl
   have h3:args[t]? = some v:=by simpa using h2
   have h4:t<args.length:=(List.getElem?_eq_some_iff.1 h3).1
   show Array.getD _ t undef=v
   rw [Array.getD_eq_getD_getElem?,Array.getElem?_append_left (by simpa using h4)]
   simp [h3]
  ·cases e with
   | normal=>
    obtain ⟨v,h1,h2⟩:=Bl (fn:=fn) hk hq
    exact ⟨hk.defers,v,h1,v,rfl,h2⟩
   | ret=>
    obtain ⟨v,h1,h2⟩:=Bl (fn:=fn) hk hq
    exact ⟨hk.defers,v,h1,v,rfl,h2⟩
   | _=>exact hq.elim
 ·exact h.elim
#print axioms aL
end Go.Ev
end
section
set_option linter.unusedVariables false
set_option linter.unusedSimpArgs false
namespace Go.Ev
open Go Go.RowKit
variable {P:Program}
structure Mod (S:List Nat) (w w':World):Prop where
 os:w'.os=w.os
 tape:w'.tape=w.tape
 output:w'.output=w.output
 size:w.heap.size≤w'.heap.size
 block:∀ k,k<w.heap.size→k∉S→w'.heap[k]? = w.heap[k]?
theorem Mod.refl (S:List Nat) (w:World):Mod S w w:=⟨rfl,rfl,rfl,Nat.le_refl _,fun _ _ _=>rfl⟩
theorem Mod.trans' {S T:List Nat} {w w1 w2:World} (h:Mod S w w1) (k:Mod T w1 w2) (hT:∀ b∈T,b∈S∨w.heap.size≤b):Mod S w w2:=
 ⟨k.os.trans h.os,k.tape.trans h.tape,k.output.trans h.output,Nat.le_trans h.size k.size,fun b hb hn=>
  (k.block b (Nat.lt_of_lt_of_le hb h.size) (fun hm=>(hT b hm).elim hn (fun h1=>by omega))).trans (h.block b hb hn)⟩
theorem Mod.trans {S:List Nat} {w w1 w2:World} (h:Mod S w w1) (k:Mod S w1 w2):Mod S w w2:=h.trans' k fun _ hb=>.inl hb
theorem Mod.then {S:List Nat} {w w1 w2:World} (h:Mod S w w1) (k:Mod [] w1 w2):Mod S w w2:=h.trans' k fun _ hb=>by cases hb
theorem Mod.mono {S T:List Nat} {w w':World} (h:Mod S w w') (hs:∀ b∈S,b∈T):Mod T w w':=
 ⟨h.os,h.tape,h.output,h.size,fun b hb hn=>h.block b hb fun hm=>hn (hs b hm)⟩
theorem Mod.of_nil {T:List Nat} {w w':World} (h:Mod [] w w'):Mod T w w':=h.mono fun _ hb=>by cases hb
theorem Mod.drew (S:List Nat) (w:World):Mod S w w.drew:=⟨rfl,rfl,rfl,Nat.le_refl _,fun _ _ _=>rfl⟩
theorem Mod.alloc (S:List Nat) (w:World) (o:Obj):Mod S w (w.alloc o):=⟨rfl,rfl,rfl,by simp,fun k hk _=>Below.heap_alloc _ _ _ hk⟩
theorem Mod.setCell (w:World) (a:Addr) (v:Value):Mod [a.block] w (w.setCell a v):=
 ⟨rfl,rfl,rfl,by simp,fun k _ hn=>Below.heap_setCell _ _ _ _ (fun e=>hn (by simp [e]))⟩
theorem Mod.grown {w w':World} {row:Option Nat} (h:w.grownBy w' row):Mod row.toList w w':=
 ⟨h.os,h.tape,h.output,h.size,fun k hk hn=>h.block k hk (fun e=>hn (by rw [← e]; simp))⟩
theorem Mod.below {w w':World} (h:Mod [] w w'):Below w.heap.size w w':=⟨h.os,h.tape,h.output,h.size,fun k hk=>h.block k hk (by simp)⟩
theorem Mod.cell? {S:List Nat} {w w':World} (h:Mod S w w') {a:Addr} (ha:a.block<w.heap.size) (hn:a.block∉S):w'.cell? a=w.cell? a:=
 World.cell?_of_block (h.block _ ha hn)
theorem Mod.cell {S:List Nat} {w w':World} (h:Mod S w w') {a:Addr} {v:Value} (hv:w.cell? a=some v) (hn:a.block∉S):w'.cell? a=some v:=
 (h.cell? (World.block_lt_of_cell? _ _ hv) hn).trans hv
theorem Mod.o9 {w w':World} (h:Mod [] w w') {a:Addr} {v:Value} (hv:w.cell? a=some v):w'.cell? a=some v:=h.cell hv (by simp)
theorem D6 {S:List Nat} {w w':World} (h:Mod S w w') {a:Addr} {n:Nat} (ha:a.block<w.heap.size) (hn:a.block∉S):kept a n w w':=fun j _=>by
 have:(a.add j).block=a.block:=by unfold Addr.add; split <;> rfl
 exact h.cell? (this ▸ ha) (this ▸ hn)
theorem yY {w w':World} (h:Mod [] w w') {a:Addr} {n:Nat} {v:Value} (ha:w.cell? a=some v):kept a n w w':=D6 h (World.block_lt_of_cell? _ _ ha) (by simp)
def bX (w:World) (b:Nat) (cs:List Value) (t:TypeId):Prop:=w.heap[b]? = some (.cells ⟨cs⟩ t (0,0))
section
variable {w w':World} {b:Nat} {cs:List Value} {t:TypeId}
theorem bX.lt (h:bX w b cs t):b<w.heap.size:=(Array.getElem?_eq_some_iff.1 h).1
theorem bX.cell (h:bX w b cs t) (i:Nat):w.cell? ⟨b,i,none⟩=cs[i]?:=by
 unfold bX at h; simp [World.cell?,h]
theorem bX.frozen (h:bX w b cs t) (i:Nat):w.frozen? ⟨b,i,none⟩=false:=by
 unfold bX at h; simp [World.frozen?,h]
theorem bX.mod {S:List Nat} (h:bX w b cs t) (hm:Mod S w w') (hn:b∉S):bX w' b cs t:=(hm.block b h.lt hn).trans h
theorem bX.aG (h:bX w b cs t) (hm:Mod [] w w'):bX w' b cs t:=h.mod hm (by simp)
theorem bX.new (w:World) (cs:List Value) (t:TypeId):bX (w.alloc (.cells ⟨cs⟩ t)) w.heap.size cs t:=by
 unfold bX World.alloc; simp
theorem bX.set (h:bX w b cs t) (i:Nat) (v:Value):bX (w.setCell ⟨b,i,none⟩ v) b (cs.set i v) t:=by
 unfold bX at *
 simp only [World.setCell,Array.getElem?_modify,if_true,h,Option.map_some]
 simp
end
theorem tw (b o n:Nat):Addr.add ⟨b,o,none⟩ n=⟨b,o+n,none⟩:=by
 unfold Addr.add; split <;> simp_all
theorem jK (a:Addr) (n:Nat):(a.add n).block=a.block:=by unfold Addr.add; split <;> rfl
theorem add_add (a:Addr) (m n:Nat):(a.add m).add n=a.add (m+n):=by
 unfold Addr.add
 split <;> split <;> simp_all <;> omega
theorem bU {b:Bool} {A B:Prop} (h1:b=true→A) (h2:b=false→B):aA b A B:=by cases b <;> first | exact h2 rfl | exact h1 rfl
theorem ite_true {b:Bool} {A B:Prop} (hb:b=true) (h:A):aA b A B:=by rw [hb]; exact h
theorem ite_false {b:Bool} {A B:Prop} (hb:b=false) (h:B):aA b A B:=by rw [hb]; exact h
theorem aB {f:FuncId} {args:List Value} {w:World} {R K:Value→World→Prop} (h:Ok P f args w R) (hk:∀ v w',R v w'→K v w'):az P f args w K:=
 Calls.mono h fun _ _ ⟨v,h1,h2⟩=>⟨v,h1,hk v _ h2⟩
theorem Ok.mono {f:FuncId} {args:List Value} {w:World} {R K:Value→World→Prop} (h:Ok P f args w R) (hk:∀ v w',R v w'→K v w'):Ok P f args w K:=aB h hk
theorem qv {t:TypeId} {cs:List Value} {w:World} {K:Addr→World→Prop} (h:∀ b w',b=w.heap.size→bX w' b cs t→Mod [] w w'→w'.heap.size=w.heap.size+1→K ⟨b,0,none⟩ w'):nw t cs w K:=
 h _ _ rfl (bX.new w cs t) (Mod.alloc _ _ _) (by simp)
theorem ana {a:Addr} {u v:Value} {w:World} {K:World→Prop} (h1:w.cell? a=some u) (h2:w.frozen? a=false) (h3:ek v=true) (h:K (w.setCell a v)):st a v w K:=
 ⟨⟨u,h1⟩,h2,by cases v <;> first | exact h | cases h3⟩
theorem RI {b i:Nat} {v:Value} {w:World} {cs:List Value} {t:TypeId} {K:World→Prop} (hb:bX w b cs t) (hi:i<cs.length) (h3:ek v=true)
  (h:∀ w',bX w' b (cs.set i v) t→Mod [b] w w'→w'.heap.size=w.heap.size→K w'):st ⟨b,i,none⟩ v w K:=
 ana (u:=cs[i]) (by rw [hb.cell]; simp [hi]) (hb.frozen i) h3 (h _ (hb.set i v) (Mod.setCell w ⟨b,i,none⟩ v) (by simp))
theorem Wd {t:TypeId} {b:Nat}:∀ (l:List Value) (cs:List Value) (w:World) (o:Nat),bX w b cs t→o+l.length≤cs.length→
  bX (setRow w ⟨b,0,none⟩ o l) b (cs.take o ++ (l ++ cs.drop (o+l.length))) t∧Mod [b] w (setRow w ⟨b,0,none⟩ o l)∧(setRow w ⟨b,0,none⟩ o l).heap.size=w.heap.size
 | [],cs,w,o,hb,_=>by simp [setRow]; exact ⟨hb,Mod.refl _ _⟩
 | v :: r,cs,w,o,hb,hl=>by
  simp only [List.length_cons] at hl
  have h1:=hb.set o v
  obtain ⟨h2,h3,h4⟩:=Wd r (cs.set o v) (w.setCell ⟨b,o,none⟩ v) (o+1) h1 (by simp; omega)
  simp only [setRow]
  rw [tw,Nat.zero_add]
  refine ⟨?_,(Mod.setCell w ⟨b,o,none⟩ v).trans h3,by rw [h4]; simp⟩
  have e:(cs.set o v).take (o+1) ++ (r ++ (cs.set o v).drop (o+1+r.length))=cs.take o ++ (v :: r ++ cs.drop (o+(v :: r).length)):=by
   have bZ:o<cs.length:=by omega
   rw [List.take_succ_eq_append_getElem (by simpa using bZ)]
   simp only [List.getElem_set_self,List.take_set_of_le (Nat.le_refl _),List.append_assoc,List.cons_append,List.nil_append,List.length_cons]
   rw [List.drop_set_of_lt (by omega),show o+1+r.length=o+(r.length+1) by omega]
  rw [← e]; exact h2
theorem X9 {n b:Nat} {l cs:List Value} {w:World} {t:TypeId} {K:World→Prop} (hb:bX w b cs t) (hl:l.length=n) (hn:n≤cs.length) (h1:∀ v∈l,ek v=true)
  (h:∀ w',bX w' b (l ++ cs.drop n) t→Mod [b] w w'→w'.heap.size=w.heap.size→K w'):kR n ⟨b,0,none⟩ l w K:=by
 obtain ⟨h2,h3,h4⟩:=Wd l cs w 0 hb (by omega)
 refine ⟨hl,fun i hi=>?_,h1,h _ ?_ h3 h4⟩
 ·rw [tw,Nat.zero_add]
  exact ⟨⟨cs[i]'(by omega),by rw [hb.cell]; simp [show i<cs.length by omega]⟩,hb.frozen i⟩
 ·rw [← hl]; simpa using h2
theorem Yh {n b:Nat} {cs:List Value} {w:World} {t:TypeId} {K:List Value→Prop} (hb:bX w b cs t) (hn:n≤cs.length) (h:K (cs.take n)):iD n ⟨b,0,none⟩ w K:=
 ⟨cs.take n,(by simp; omega),fun i v hv=>(by
  rw [tw,Nat.zero_add,hb.cell]
  rw [List.getElem?_take] at hv
  split at hv
  ·exact hv
  ·cases hv),h⟩
structure Sl (w:World) (s:ah) (sz:Nat) (vs:List Value):Prop where
 len:vs.length=s.n * sz
 cap:s.n≤s.c
 pre:0<s.n→s.a.isSome=true
 cell:∀ i v,vs[i]? = some v→w.cell? ((base s.a).add i)=some v
def off (S:List Nat) (s:ah):Prop:=0<s.n→∀ a,s.a=some a→a.block∉S
theorem jX (s:ah):off [] s:=fun _ _ _=>by simp
theorem Sl.mod {w w':World} {s:ah} {sz:Nat} {vs:List Value} (h:Sl w s sz vs) {S:List Nat} (hm:Mod S w w') (hn:off S s):Sl w' s sz vs:=by
 refine ⟨h.len,h.cap,h.pre,fun i v hv=>?_⟩
 have h1:=h.cell i v hv
 refine hm.cell h1 ?_
 rw [jK]
 have h0:0<s.n:=by
  rcases Nat.eq_zero_or_pos s.n with e | e
  ·have:=h.len; rw [e,Nat.zero_mul] at this
   have:=List.length_eq_zero_iff.1 this; rw [this] at hv; simp at hv
  ·exact e
 obtain ⟨a,ha⟩:=Option.isSome_iff_exists.1 (h.pre h0)
 rw [ha]; exact hn h0 a ha
theorem Sl.aG {w w':World} {s:ah} {sz:Nat} {vs:List Value} (h:Sl w s sz vs) (hm:Mod [] w w'):Sl w' s sz vs:=h.mod hm (jX s)
theorem Sl.block {w:World} {s:ah} {sz:Nat} {vs:List Value} (h:Sl w s sz vs) (jQ:0<sz) (h0:0<s.n) {a:Addr} (ha:s.a=some a):a.block<w.heap.size:=by
 have hl:0<vs.length:=by rw [h.len]; exact Nat.mul_pos h0 jQ
 have h1:=h.cell 0 vs[0] (by simp [hl])
 have:=World.block_lt_of_cell? _ _ h1
 rw [jK,ha] at this
 exact this
theorem Sl.akK {w:World} {s:ah} {sz:Nat} {vs:List Value} (h:Sl w s sz vs) (jQ:0<sz) {S:List Nat} (hS:∀ b∈S,w.heap.size≤b):off S s:=fun h0 a ha hb=>by
 have:=h.block jQ h0 ha
 have:=hS _ hb
 omega
theorem Sl.nil (w:World) (sz:Nat):Sl w ⟨none,0,0⟩ sz []:=⟨by simp,by simp,by simp,by simp⟩
def aar (w:World) (s:ah) (k:IntKind) (xs:List Int):Prop:=Sl w s 1 (xs.map (Value.int k))∧∀ x∈xs,k.min≤x∧x≤k.max
def aas (P:Program) (t e:TypeId) (sz bytes:Nat):Bool:=
 (match P.underlying t with | some (.slice e')=>Nat.beq e' e | _=>false) &&
 (match P.info? e with | some i=>Nat.beq i.size sz && Nat.beq i.bytes bytes && (match i.zero with | some z=>Nat.beq z.cells.toList.length sz | none=>false) | none=>false) && Nat.ble 1 sz
structure fh (P:Program) (t e:TypeId) (sz bytes:Nat):Prop where
 rV:P.underlying t=some (.slice e)
 pos:0<sz
 info:∃ i z,P.info? e=some i∧i.zero=some z∧i.size=sz∧i.bytes=bytes∧z.cells.size=sz
theorem fh.of {t e:TypeId} {sz bytes:Nat} (h:aas P t e sz bytes=true):fh P t e sz bytes:=by
 unfold aas at h
 simp only [Bool.and_eq_true] at h
 obtain ⟨⟨h1,h2⟩,h3⟩:=h
 refine ⟨?_,Nat.le_of_ble_eq_true h3,?_⟩
 ·split at h1
  ·rename_i e' he; rw [he,beq_eq.1 h1]
  ·cases h1
 ·split at h2
  ·rename_i i hi
   simp only [Bool.and_eq_true,beq_eq] at h2
   obtain ⟨⟨h4,h5⟩,h6⟩:=h2
   split at h6
   ·rename_i z hz; exact ⟨i,z,hi,hz,h4,h5,by simpa using beq_eq.1 h6⟩
   ·cases h6
  ·cases h2
def Own (w:World) (lo:Nat) (e:TypeId) (sz:Nat) (s:ah) (vs:List Value):Prop:=w.ownsRow lo e sz s.v s.n vs
def ah.row (s:ah):List Nat:=match s.a with | some a=>[a.block] | none=>[]
theorem Own.sl {w:World} {lo:Nat} {e:TypeId} {sz:Nat} {s:ah} {vs:List Value} (h:Own w lo e sz s vs):Sl w s sz vs:=by
 obtain ⟨a,n,c⟩:=s
 obtain ⟨hl,h1 | ⟨g,cap,cur,h1,h2,h3,h4,h5,h6,h7⟩⟩:=h
 ·obtain ⟨h1,h2⟩:=h1
  simp only [ah.v,Value.slice.injEq] at h1
  obtain ⟨rfl,rfl,rfl⟩:=h1
  simp only [Nat.zero_mul] at hl
  have:=List.length_eq_zero_iff.1 hl
  subst this
  exact Sl.nil w sz
 ·simp only [ah.v,Value.slice.injEq] at h1
  obtain ⟨rfl,-,rfl⟩:=h1
  refine ⟨hl,h4,fun _=>rfl,fun i v hv=>?_⟩
  show w.cell? (Addr.add ⟨g,0,none⟩ i)=some v
  rw [tw,Nat.zero_add]
  unfold World.cell?
  simp only [h3]
  rw [← h7] at hv
  rw [List.getElem?_take] at hv
  split at hv
  ·simpa using hv
  ·cases hv
theorem Own.nil (w:World) (lo:Nat) (e:TypeId) (sz:Nat):Own w lo e sz ⟨none,0,0⟩ []:=World.ownsRow_nil w lo e sz
theorem Own.Er {w:World} {lo:Nat} {e:TypeId} {sz:Nat} {s:ah} {vs:List Value} (h:Own w lo e sz s vs):∀ b∈s.row,lo≤b∧b<w.heap.size:=by
 intro b hb
 obtain ⟨a,n,c⟩:=s
 unfold ah.row at hb
 cases a with
 | none=>cases hb
 | some a=>
  have iP:b=a.block:=by simpa using hb
  have:=World.ownsRow.lt h a.block rfl
  rw [iP]; exact this
theorem akL {t ty e:TypeId} {sz bytes lo:Nat} {s x:ah} {vs us:List Value} {w:World} (cz:fh P t e sz bytes) (hs:Own w lo e sz s vs) (hx:Sl w x sz us)
  (h1:∀ u∈us,ek u=true) (hb:(s.n+x.n) * bytes≤140737488355328) (hm:s.n+x.n≤maxLen) (oJ:lo≤w.heap.size) :
  ∃ s':ah,∃ w',(Builtin.append_ #[t,t] ty #[s.v,x.v]).run P w=.ok s'.v w'∧Own w' lo e sz s' (vs ++ us)∧Mod s.row w w'∧s'.n=s.n+x.n∧(∀ b∈s'.row,b∈s.row∨w.heap.size≤b):=by
 obtain ⟨i,z,hi,hz,jQ,oK,jR⟩:=cz.info
 have CC:∀ u∈us,u.oneCell'=true:=fun u hu=>by
  have:=h1 u hu
  cases u <;> first | rfl | cases this
 obtain ⟨xa,xn,xc⟩:=x
 cases xa with
 | none=>
  have h0:xn=0:=by
   rcases Nat.eq_zero_or_pos xn with e | e
   ·exact e
   ·cases hx.pre e
  have h2:=hx.cap
  subst h0
  have hu:us=[]:=List.eq_nil_of_length_eq_zero (by simpa using hx.len)
  subst hu
  have hr:(Builtin.append_ #[t,t] ty #[s.v,.slice none 0 xc]).run P w=.ok s.v w:=by
   obtain ⟨sa,sn,sc⟩:=s
   rcases hs.2 with ⟨hv,hn⟩ | ⟨g,cap,cur,hv,_,_,CD,_⟩
   ·simp only [ah.v,Value.slice.injEq] at hv
    obtain ⟨rfl,rfl,rfl⟩:=hv
    simp [ah.v,Builtin.append_,run_underlying cz.rV,Go.sizeOf,Go.typeInfo,hi,Builtin.lenOf,Builtin.firstCells]
   ·simp only [ah.v,Value.slice.injEq] at hv
    obtain ⟨rfl,-,rfl⟩:=hv
    simp [ah.v,Builtin.append_,run_underlying cz.rV,Go.sizeOf,Go.typeInfo,hi,Builtin.lenOf,Builtin.firstCells,CD,storeCells]
  exact ⟨s,w,hr,by simpa using hs,Mod.refl _ _,by simp,fun b hb=>.inl hb⟩
 | some xa=>
  obtain ⟨sa,sn,sc⟩:=s
  have bV:us.length=xn * sz:=hx.len
  have tY:∀ j u,us[j]? = some u→w.cell? (xa.add j)=some u:=hx.cell
  rcases hs.2 with ⟨hv,hn⟩ | ⟨g,cap,cur,hv,hlg,hg,CD,vM,jo,BZ⟩
  ·simp only [ah.v,Value.slice.injEq] at hv
   obtain ⟨rfl,rfl,rfl⟩:=hv
   have vN:vs=[]:=List.eq_nil_of_length_eq_zero (by simpa using hs.1)
   subst vN
   obtain ⟨v',w',hr,ho,hg,hi⟩:=run_append_own (P:=P) w w.heap.size t ty e i z sz bytes cz.rV hi hz jQ oK jR cz.pos (.slice none 0 0) 0 [] (World.ownsRow_nil w _ e sz) xa xn xc us bV tY CC
    (by simpa using hm) (by simpa using hb) (Nat.le_refl _)
   have aat:Mod [] w w':=⟨hg.os,hg.tape,hg.output,hg.size,fun k hk _=>hg.block k hk (by simp [Value.ownBlock])⟩
   simp only [Nat.zero_add] at ho
   rcases ho.2 with ⟨rfl,h0⟩ | ⟨g,cap,cur,rfl,h3,h4,h5⟩
   ·subst h0
    exact ⟨⟨none,0,0⟩,w',hr,⟨ho.1,.inl ⟨rfl,rfl⟩⟩,aat.of_nil,rfl,by simp [ah.row]⟩
   ·exact ⟨⟨some ⟨g,0,none⟩,xn,cap⟩,w',hr,⟨ho.1,.inr ⟨g,cap,cur,rfl,Nat.le_trans oJ h3,h4,h5⟩⟩,aat.of_nil,by simp,fun b hb=>by
     simp only [ah.row,List.mem_singleton] at hb; subst hb; exact .inr h3⟩
  ·simp only [ah.v,Value.slice.injEq] at hv
   obtain ⟨rfl,-,rfl⟩:=hv
   have anY:∀ {w'},w.grownBy w' (some g)→Mod (ah.row ⟨some ⟨g,0,none⟩,sn,sc⟩) w w':=fun hg=>by simpa [ah.row] using Mod.grown hg
   by_cases oA:sn+xn≤sc
   ·obtain ⟨w',hr,ho,hg⟩:=run_append_fits (P:=P) w lo t ty e i sz cz.rV hi jQ g sn sc vs hs xa xn xc us bV tY CC oA
    exact ⟨⟨some ⟨g,0,none⟩,sn+xn,sc⟩,w',hr,ho,anY hg,rfl,fun b hb=>.inl hb⟩
   ·have holds:∀ j u,vs[j]? = some u→w.cell? ((⟨g,0,none⟩:Addr).add j)=some u:=World.ownsRow.cells (g:=g) hs rfl
    subst jQ oK
    have FH:sn+xn≤9223372036854775807:=by have h:sn+xn≤maxLen:=hm; simp only [maxLen] at h; omega
    have hr:=run_append_grow (P:=P) w t ty e i z cz.rV hi hz ⟨g,0,none⟩ sn sc vs hs.1 holds xa xn xc us bV tY (by omega) (by omega) (growslice_fits (by omega) hb)
    have vO:=grownCap_ge w (sn+xn) sc e
    have vM:grownCap w (sn+xn) sc e≤maxLen:=grownCap_le_maxLen w (sn+xn) sc e hm
    have hlen:(vs ++ us).length=(sn+xn) * i.size:=by rw [List.length_append,hs.1,bV,Nat.add_mul]
    refine ⟨⟨some ⟨w.heap.size,0,none⟩,sn+xn,grownCap w (sn+xn) sc e⟩,_,hr,⟨hlen,.inr ⟨w.heap.size,_,_,rfl,oJ,heap_alloc_new w.drew _,vO,vM,?_,?_⟩⟩,(Mod.drew _ w).trans (Mod.alloc _ w.drew _),rfl,?_⟩
    ·simp only [Array.size_append,List.size_toArray,size_zeroCells,jR,hs.1,bV,← Nat.add_mul]
     congr 1
     omega
    ·simp only [Array.toList_append,List.append_assoc]
     rw [← List.append_assoc,← hlen]
     exact List.take_left
    ·intro b hb
     simp only [ah.row,List.mem_singleton] at hb
     exact .inr (by omega)
theorem akM {t ty e:TypeId} {sz bytes lo:Nat} {s x:ah} {vs us:List Value} {w:World} {K:ah→World→Prop} (cz:fh P t e sz bytes) (hs:Own w lo e sz s vs) (hx:Sl w x sz us)
  (h1:∀ u∈us,ek u=true) (hb:(s.n+x.n) * bytes≤140737488355328) (hm:s.n+x.n≤9223372036854775807) (oJ:lo≤w.heap.size)
  (hk:∀ s' w',Own w' lo e sz s' (vs ++ us)→Mod s.row w w'→s'.n=s.n+x.n→(∀ b∈s'.row,b∈s.row∨w.heap.size≤b)→K s' w'):cG P [t,t] ty [s.v,x.v] w K:=by
 obtain ⟨s',w',hr,h2,h3,h4,h5⟩:=akL (ty:=ty) cz hs hx h1 hb (by simp only [maxLen]; omega) oJ
 exact ⟨_,w',hr,s',rfl,hk s' w' h2 h3 h4 h5⟩
end Go.Ev
end
section
set_option linter.unusedVariables false
set_option linter.unusedSimpArgs false
namespace Go.Ev
open Go Go.RowKit Go.ChangeShapes Go.WideShapes Go.ChangeAt
variable {H:Type} {enc:TypeId×Value→H} {P:Program}
theorem adL {W W':World} (hb:Below W.heap.size W W') (may:MemPlace→Prop):W.keptBut W' may:=by
 refine ⟨hb.os,hb.output,fun i hi=>?_⟩
 rw [hb.block i hi]
 cases W.heap[i]? with
 | none=>rfl
 | some o=>cases o <;> simp
def Es (P:Program) (ts:List TypeId):Bool:=ts.all fun t=>P.readableRec t && decide (t<P.types.size)
theorem Vm (hl:laidOutB P=true) {W W':World} (hb:Below W.heap.size W W'):∀ {ts:List TypeId} {vs:List Value} {ds:List (DataW H)} {ps:List MemPlace},Es P ts=true→
  DataW.TrodAll enc P W 0 (fun _=>true) true ts vs ds ps→DataW.TrodAll enc P W' 0 (fun b=>decide (b<W.heap.size)) true ts vs ds ps
 | [],[],[],_,_,h=>h
 | t :: ts,v :: vs,d :: ds,ps,ht,h=>by
  have bZ:=DataW.TrodAll.lt h
  obtain ⟨p,q,h1,h2,rfl⟩:=h
  simp only [Es,List.all_cons,Bool.and_eq_true,decide_eq_true_eq] at ht
  exact ⟨p,q,Below.trod hl ht.1.1 ht.1.2 h1 hb (fun x hx=>bZ x (List.mem_append_left _ hx)),Vm hl hb (by simpa [Es] using ht.2) h2,rfl⟩
 | [],[],_ :: _,_,_,h=>h.elim
 | [],_ :: _,_,_,_,h=>by cases ‹List (DataW H)› <;> exact h.elim
 | _ :: _,[],_,_,_,h=>by cases ‹List (DataW H)› <;> exact h.elim
 | _ :: _,_ :: _,[],_,_,h=>h.elim
theorem ajA {f:Func} {s:ChangeSpec} {apart fresh handsOn:Bool} {W W':World} {args:Array Value} {ds gs:List (DataW H)} {before:List MemPlace} {tb:TypeId}
  (hW:DataW.Whole enc P f.params.toList s.vars apart W args.toList ds gs before) (hb:Below W.heap.size W W') (hl:laidOutB P=true) (ht:Es P f.params.toList=true) (hr:f.resultTypes=#[tb]) (anb:P.underlying tb=some .bool)
  (hv:s.vars=[]) (hf:s.fn H ds={ results:=[.lit (.bool true)],args:=ds }):s.post enc P f apart fresh handsOn false W args (.bool true) W':=by
 have Tq:=hW
 obtain ⟨p,q,h1,h2,h3,h4,h5⟩:=hW
 rw [hv] at h2
 obtain ⟨rfl,rfl⟩:=trodVars_none h2
 refine ⟨ds,[],before,[],p,[],Tq,?_,?_,?_,adL hb _,fun h=>by cases h⟩
 ·rw [List.append_nil,hf,hr]
  exact trodAll_cons_mk (shut_bool anb _) trodAll_mk0
 ·rw [List.append_nil,hf]
  exact Vm hl hb ht h1
 ·rw [List.append_nil,hf,hv]
  rfl
end Go.Ev
end
section
set_option linter.unusedVariables false
set_option linter.unusedSimpArgs false
namespace Go.Proofs.YtgjoehgomjgckaaGreatDoor
open Go Go.Ev
@[reducible] noncomputable def Pr:Program:=Tryz.prog
abbrev UD:FuncId:=5
abbrev Hf:FuncId:=8
abbrev AQ:FuncId:=9
abbrev uH:FuncId:=10
abbrev gA:FuncId:=11
abbrev DL:FuncId:=14
abbrev Nz:FuncId:=16
abbrev GU:FuncId:=17
abbrev C8:FuncId:=18
abbrev K9:FuncId:=19
abbrev Dm:FuncId:=20
abbrev NA:FuncId:=22
abbrev OA:FuncId:=24
abbrev LM:FuncId:=25
abbrev oU:FuncId:=26
abbrev MI:FuncId:=27
abbrev Mm:FuncId:=28
abbrev DM:FuncId:=29
abbrev HC:FuncId:=32
abbrev A9:FuncId:=33
abbrev HD:FuncId:=34
abbrev lD:FuncId:=35
abbrev Dw:FuncId:=36
abbrev NB:FuncId:=37
abbrev NC:FuncId:=39
abbrev OB:FuncId:=46
abbrev Mn:FuncId:=47
abbrev ND:FuncId:=48
abbrev OC:FuncId:=49
abbrev QA:FuncId:=50
abbrev yC:FuncId:=51
abbrev NF:FuncId:=52
abbrev LC:FuncId:=53
abbrev K4:FuncId:=54
abbrev Lh:FuncId:=55
abbrev Lj:FuncId:=56
abbrev Ll:FuncId:=57
abbrev LN:FuncId:=58
abbrev Lw:FuncId:=59
abbrev Lm:FuncId:=60
abbrev Bm:FuncId:=67
abbrev Dq:FuncId:=68
abbrev AY:FuncId:=69
abbrev Ht:FuncId:=70
abbrev Dx:FuncId:=71
abbrev sY:FuncId:=72
abbrev Kz:FuncId:=73
abbrev MJ:FuncId:=74
abbrev sQ:FuncId:=75
abbrev GI:FuncId:=76
abbrev KE:FuncId:=77
abbrev KJ:FuncId:=78
abbrev AO:FuncId:=79
abbrev GF:FuncId:=80
abbrev Bn:FuncId:=81
abbrev MK:FuncId:=97
abbrev Hg:FuncId:=98
abbrev OD:FuncId:=99
abbrev OE:FuncId:=100
abbrev OF:FuncId:=101
abbrev DE:FuncId:=102
abbrev Bz:FuncId:=103
abbrev C2:FuncId:=104
abbrev ML:FuncId:=105
abbrev Mo:FuncId:=106
abbrev yE:FuncId:=107
abbrev LO:FuncId:=108
abbrev G6:FuncId:=109
abbrev LP:FuncId:=110
abbrev MM:FuncId:=111
abbrev HS:FuncId:=112
abbrev Hh:FuncId:=113
abbrev OG:FuncId:=114
abbrev OH:FuncId:=115
abbrev LQ:FuncId:=116
abbrev NG:FuncId:=117
abbrev G7:FuncId:=118
abbrev MN:FuncId:=119
abbrev Py:FuncId:=120
abbrev G0:FuncId:=123
abbrev G1:FuncId:=124
abbrev Hi:FuncId:=125
abbrev OI:FuncId:=126
abbrev uL:FuncId:=127
abbrev Pz:FuncId:=128
abbrev C1:FuncId:=129
abbrev PA:FuncId:=145
abbrev NH:FuncId:=146
abbrev LU:FuncId:=147
abbrev GK:FuncId:=148
abbrev Uu:FuncId:=149
abbrev Mp:FuncId:=150
abbrev qn:FuncId:=151
abbrev wA:FuncId:=152
abbrev Dr:FuncId:=153
abbrev yF:FuncId:=154
abbrev wB:FuncId:=155
abbrev G4:FuncId:=156
abbrev Hu:FuncId:=157
abbrev kX:FuncId:=158
abbrev DF:FuncId:=159
abbrev G5:FuncId:=160
abbrev Dn:FuncId:=161
abbrev PB:FuncId:=162
abbrev Mq:FuncId:=163
abbrev PC:FuncId:=164
abbrev Hj:FuncId:=165
abbrev sR:FuncId:=166
abbrev AZ:FuncId:=167
abbrev OJ:FuncId:=168
abbrev Kx:FuncId:=169
abbrev Lx:FuncId:=170
abbrev QW:FuncId:=171
abbrev HT:FuncId:=172
abbrev KV:FuncId:=180
abbrev PD:FuncId:=181
abbrev MO:FuncId:=182
abbrev HE:FuncId:=183
abbrev mM:FuncId:=184
abbrev HG:FuncId:=185
abbrev Hl:FuncId:=186
abbrev PE:FuncId:=187
abbrev Dh:FuncId:=188
abbrev HU:FuncId:=189
abbrev Dj:FuncId:=190
abbrev DG:FuncId:=191
abbrev KB:FuncId:=192
abbrev LV:FuncId:=193
abbrev uN:FuncId:=204
abbrev PF:FuncId:=205
abbrev KM:FuncId:=206
abbrev Bh:FuncId:=207
abbrev It:FuncId:=208
abbrev oW:FuncId:=209
abbrev Bo:FuncId:=210
abbrev Ho:FuncId:=211
abbrev PG:FuncId:=212
abbrev DH:FuncId:=213
abbrev Bp:FuncId:=214
abbrev Bq:FuncId:=215
abbrev Dy:FuncId:=216
abbrev Br:FuncId:=217
abbrev HV:FuncId:=218
abbrev yM:FuncId:=219
abbrev MP:FuncId:=220
abbrev Hv:FuncId:=221
abbrev C5:FuncId:=222
abbrev C6:FuncId:=223
abbrev UE:FuncId:=225
abbrev Iu:FuncId:=245
abbrev KS:FuncId:=246
abbrev KP:FuncId:=247
abbrev AR:FuncId:=248
abbrev uI:FuncId:=249
abbrev G8:FuncId:=250
abbrev HH:FuncId:=251
abbrev HX:FuncId:=252
abbrev GO:FuncId:=253
abbrev DI:FuncId:=254
abbrev NI:FuncId:=255
abbrev OK:FuncId:=256
abbrev MQ:FuncId:=257
abbrev HI:FuncId:=258
abbrev OL:FuncId:=259
abbrev OM:FuncId:=260
abbrev HY:FuncId:=261
abbrev UY:FuncId:=262
abbrev C7:FuncId:=263
abbrev GQ:FuncId:=264
abbrev C3:FuncId:=281
abbrev PI:FuncId:=282
abbrev Hz:FuncId:=283
abbrev wT:FuncId:=284
abbrev PJ:FuncId:=285
abbrev yD:FuncId:=286
abbrev ON:FuncId:=287
abbrev LD:FuncId:=288
abbrev GM:FuncId:=294
abbrev Mr:FuncId:=295
abbrev MR:FuncId:=296
abbrev NJ:FuncId:=297
abbrev OO:FuncId:=298
abbrev NK:FuncId:=299
abbrev Ms:FuncId:=300
abbrev wF:FuncId:=301
abbrev bD:TypeId:=3
abbrev lJ:TypeId:=4
abbrev bh:TypeId:=5
abbrev yZ:TypeId:=9
abbrev KT:TypeId:=22
abbrev bJ:TypeId:=23
abbrev kZ:TypeId:=25
abbrev mN:TypeId:=27
abbrev sU:TypeId:=30
abbrev sV:TypeId:=31
abbrev sX:TypeId:=32
abbrev l8:TypeId:=33
abbrev aN:TypeId:=35
abbrev qq:TypeId:=37
abbrev bF:TypeId:=39
abbrev akN:TypeId:=41
abbrev sS:TypeId:=51
abbrev aV:TypeId:=53
abbrev cI:TypeId:=55
abbrev dJ:TypeId:=62
abbrev cJ:TypeId:=65
abbrev wG:TypeId:=82
abbrev jy:TypeId:=85
abbrev UO:TypeId:=87
abbrev oX:TypeId:=89
abbrev dF:TypeId:=96
abbrev Vn:TypeId:=114
abbrev fk:TypeId:=158
abbrev acM:TypeId:=183
abbrev Bj:TypeId:=218
abbrev DV:TypeId:=238
abbrev rm:TypeId:=250
abbrev iq:TypeId:=263
abbrev fA:TypeId:=266
abbrev HJ:TypeId:=276
abbrev OP:TypeId:=296
abbrev dQ:TypeId:=298
abbrev LW:TypeId:=312
abbrev DN:TypeId:=321
end Go.Proofs.YtgjoehgomjgckaaGreatDoor
end
