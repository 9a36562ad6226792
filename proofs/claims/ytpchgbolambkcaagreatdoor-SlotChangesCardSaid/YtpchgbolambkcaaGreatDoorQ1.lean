/- Texts of this claim, packed and shortened. -/
import Derived.Tactics
import Derived.Orders
import Derived.Below
import Derived.Laws.Entries
import Derived.Laws.Small
import Derived.Laws.Strings
import Derived.Laws.Slices
import Derived.Scope
import Derived.Control
import Derived.Laws.OwnMore
import Derived.Laws.MakeOwn
import Derived.WalkKit
import Derived.ProofKit
import Derived.OpenShut
import Derived.Carry
import Derived.ChangeOld
import Derived.Deep.DeepHandedRow
import Derived.Test.YtpchgbolambkcaaGreatDoorProg
import Derived.KernelRfl
section
set_option linter.unusedVariables false
set_option linter.unusedSimpArgs false
namespace Go.Ev
open Go
structure Mode where
 nw:Bool
 dv:Bool
def aH (x:Int):Prop:=-9223372036854775808≤x∧x≤9223372036854775807
def lt {A:Type} (x:A) (K:A→Prop):Prop:=K x
structure ah where
 a:Option Addr
 n:Nat
 c:Nat
@[reducible] def ah.v (s:ah):Value:=.slice s.a s.n s.c
def az (b:Bool) (A B:Prop):Prop:=Bool.rec B A b
def S3:IntKind→Bool | .i64=>true | _=>false
def ar (nw:Bool) (k:IntKind) (z:Int) (K:Int→Prop):Prop:=cond (nw && S3 k) (aH z∧K z) (K (k.wrap z))
def pos (y:Int) (A:Prop):Prop:=match y with | .ofNat (_+1)=>A | _=>0<y∧A
def lD (y:Int) (A:Prop):Prop:=match y with | .ofNat _=>A | _=>0≤y∧A
def shl (k:IntKind) (x y:Int):Int:=k.wrap (x * 2 ^ (min y.toNat k.bits))
def shr (k:IntKind) (x y:Int):Int:=x.fdiv (2 ^ (min y.toNat k.bits))
def vI (k:IntKind) (x y:Int):Int:=k.wrap (BitVec.ofInt k.bits x &&& BitVec.ofInt k.bits y).toNat
def rC (k:IntKind) (x y:Int):Int:=k.wrap (BitVec.ofInt k.bits x ||| BitVec.ofInt k.bits y).toNat
def Tu (k:IntKind) (x y:Int):Int:=k.wrap (BitVec.ofInt k.bits x ^^^ BitVec.ofInt k.bits y).toNat
def wX (k:IntKind) (x y:Int):Int:=k.wrap (BitVec.ofInt k.bits x &&& ~~~ BitVec.ofInt k.bits y).toNat
def an2 (k:IntKind) (x:Int):Int:=Tu k (if k.signed then -1 else k.max) x
def dF (v:Value) (K:Bool→Prop):Prop:=match v with | .nilIface=>K true | .iface _ _=>K false | _=>False
def CN (v:Value) (K:Bool→Prop):Prop:=match v with | .nilFunc=>K true | .func _ _ _=>K false | _=>False
def cK (p:Option Addr) (K:Addr→Prop):Prop:=match p with | some a=>K a | none=>False
def base (a:Option Addr):Addr:=a.getD ⟨0,0,none⟩
def idx (i:Int) (n:Nat) (A:Prop):Prop:=(0≤i∧i<(n:Int))∧A
def aZ (a:Option Addr) (i:Int) (n:Nat) (A:Prop):Prop:=(a.isSome=true∧0≤i∧i<(n:Int))∧A
def vR (b:ByteArray) (i:Int):Int:=(b.data.toList.getD i.toNat 0).toNat
def atI (k:IntKind) (cs:List Value) (i:Int) (n:Nat) (K:Int→Prop):Prop:=idx i n (∃ z,cs[i.toNat]? = some (.int k z)∧K z)
def sub (a:Option Addr) (l m sz:Nat):Option Addr:=if m=l then a else a.map (·.add (l * sz))
def au (k:IntKind) (a:Addr) (w:World) (K:Int→Prop):Prop:=∃ n,w.cell? a=some (.int k n)∧K n
def nq (a:Addr) (w:World) (K:Bool→Prop):Prop:=∃ b,w.cell? a=some (.bool b)∧K b
def dR (a:Addr) (w:World) (K:ByteArray→Prop):Prop:=∃ b,w.cell? a=some (.string b)∧K b
def bO (a:Addr) (w:World) (K:Option Addr→Prop):Prop:=∃ p,w.cell? a=some (.pointer p)∧K p
def ay (a:Addr) (w:World) (K:ah→Prop):Prop:=∃ s:ah,w.cell? a=some (.slice s.a s.n s.c)∧K s
def ldV (a:Addr) (w:World) (K:Value→Prop):Prop:=∃ v,w.cell? a=some v∧K v
def rowAt (w:World) (a:Addr) (cs:List Value):Prop:=∀ i v,cs[i]? = some v→w.cell? (a.add i)=some v
def ldA (n:Nat) (a:Addr) (w:World) (K:List Value→Prop):Prop:=∃ cs,cs.length=n∧rowAt w a cs∧K cs
def fW:Value→Bool | .agg _ | .tuple _=>false | _=>true
def abO (v:Value) (A:Prop):Prop:=match v with | .agg _ | .tuple _=>False | _=>A
def st (a:Addr) (v:Value) (w:World) (K:World→Prop):Prop:=(∃ u,w.cell? a=some u)∧w.frozen? a=false∧abO v (K (w.setCell a v))
def setRow:World→Addr→Nat→List Value→World
 | w,_,_,[]=>w
 | w,a,i,v :: r=>setRow (w.setCell (a.add i) v) a (i+1) r
def stA (n:Nat) (a:Addr) (cs:List Value) (w:World) (K:World→Prop):Prop:=
 cs.length=n∧(∀ i,i<n→(∃ u,w.cell? (a.add i)=some u)∧w.frozen? (a.add i)=false)∧(∀ v∈cs,fW v=true)∧K (setRow w a 0 cs)
def nw (t:TypeId) (cs:List Value) (w:World) (K:Addr→World→Prop):Prop:=K ⟨w.heap.size,0,none⟩ (w.alloc (.cells ⟨cs⟩ t))
def zc (P:Program) (t:TypeId):List Value:=match P.info? t with | some i=>(match i.zero with | some v=>v.cells.toList | none=>[]) | none=>[]
def oK (n:Nat) (zs:List Value):List Value:=(List.replicate n zs).flatten
def bytesOf (P:Program) (t:TypeId):Nat:=match P.info? t with | some i=>i.bytes | none=>0
def sizeOf (P:Program) (t:TypeId):Nat:=match P.info? t with | some i=>i.size | none=>0
def known (P:Program) (t:TypeId):Bool:=(P.info? t).isSome
def SK (P:Program) (t:TypeId):Bool:=(P.underlying t).isSome
def vq (P:Program) (t:TypeId):Bool:=match P.info? t with | some i=>i.zero.isSome | none=>false
def Km (P:Program) (t:TypeId):Bool:=vq P t && Nat.beq (zc P t).length (sizeOf P t)
def oP (P:Program) (t:TypeId) (l c:Int) (w:World) (K:ah→World→Prop):Prop:=
 (0≤l∧l≤c∧c≤9223372036854775807∧(bytesOf P t:Int) * c≤2 ^ 48)∧
  K ⟨some ⟨w.heap.size,0,none⟩,l.toNat,c.toNat⟩ (w.alloc (.cells ⟨oK c.toNat (zc P t)⟩ t))
def FD (P:Program) (s:Sem Value) (w:World) (K:Value→World→Prop):Prop:=∃ v w',s.run P w=.ok v w'∧K v w'
def ax (P:Program) (f:FuncId) (args:List Value) (w:World) (K:Value→World→Prop):Prop:=
 Calls P f ⟨args⟩ w fun e w'=>∃ v,e=.returned v∧K v w'
def pH (P:Program) (f:Nat):Bool:=match P.funcs[f]? with | some fn=>fn.body.isSome | none=>false
def qx (P:Program) (g:Value) (args:List Value) (w:World) (K:Value→World→Prop):Prop:=
 match g with | .func (.func f) first cap=>cond (pH P f) (ax P f (first.toList ++ args ++ cap.toList) w K) False | _=>False
inductive Sh where
 | int (k:IntKind) | bool | str | ptr | DE | sl | val | arr
 | cells (l:List Sh) | K7 (l:List Sh)
def aF (k:IntKind) (v:Value) (K:Int→Prop):Prop:=∃ n,v=.int k n∧K n
def aQ (v:Value) (K:Bool→Prop):Prop:=∃ b,v=.bool b∧K b
def tU (v:Value) (K:ByteArray→Prop):Prop:=∃ b,v=.string b∧K b
def sI (v:Value) (K:Option Addr→Prop):Prop:=∃ p,v=.pointer p∧K p
def aK (v:Value) (K:ah→Prop):Prop:=∃ s:ah,v=.slice s.a s.n s.c∧K s
def qy (v:Value) (K:List Value→Prop):Prop:=∃ cs,v=.agg ⟨cs⟩∧K cs
def aD (vs:List Value) (K:Value→List Value→Prop):Prop:=match vs with | []=>False | v :: r=>K v r
def S4:TypeDesc→Sh
 | .int k=>.int k | .bool=>.bool | .string=>.str | .pointer _=>.ptr | .slice _=>.sl | _=>.val
mutual
def Tv (P:Program):Nat→TypeId→Sh
 | 0,_=>.val
 | d+1,t=>match P.underlying t with
  | some (.struct fs)=>.cells (leaves P d fs.toList)
  | some (.array _ _)=>.arr
  | some (.tuple ts)=>.K7 (abo P d ts.toList)
  | some u=>S4 u
  | none=>.val
def abo (P:Program):Nat→List TypeId→List Sh
 | 0,_=>[]
 | _,[]=>[]
 | d+1,t :: r=>Tv P d t :: abo P d r
def leaves (P:Program):Nat→List Field→List Sh
 | 0,_=>[]
 | _,[]=>[]
 | d+1,f :: r=>(match P.underlying f.type with
  | some (.struct fs)=>leaves P d fs.toList
  | some (.array n e)=>(List.replicate n (leaves P d [⟨ "",e,0,false,"","",0⟩])).flatten
  | some u=>[S4 u]
  | none=>[.val]) ++ leaves P d r
end
def Z1:Nat:=64
def Ko:Sh→Addr→World→(Value→Prop)→Prop
 | .int k,a,w,K=>au k a w fun n=>K (.int k n)
 | .bool,a,w,K=>nq a w fun b=>K (.bool b)
 | .str,a,w,K=>dR a w fun b=>K (.string b)
 | .ptr,a,w,K=>bO a w fun p=>K (.pointer p)
 | .sl,a,w,K=>ay a w fun s=>K (.slice s.a s.n s.c)
 | _,a,w,K=>ldV a w fun v=>K v
def J0:List Sh→Addr→Nat→World→(List Value→Prop)→Prop
 | [],_,_,_,K=>K []
 | s :: r,a,i,w,K=>Ko s (a.add i) w fun v=>J0 r a (i+1) w fun vs=>K (v :: vs)
def yH:Sh→Value→(Value→Prop)→Prop
 | .int k,v,K=>aF k v fun n=>K (.int k n)
 | .bool,v,K=>aQ v fun b=>K (.bool b)
 | .str,v,K=>tU v fun b=>K (.string b)
 | .ptr,v,K=>sI v fun p=>K (.pointer p)
 | .sl,v,K=>aK v fun s=>K (.slice s.a s.n s.c)
 | .arr,v,K=>qy v fun cs=>K (.agg ⟨cs⟩)
 | _,v,K=>K v
def CB:List Sh→List Value→(List Value→Prop)→Prop
 | [],vs,K=>vs=[]∧K []
 | s :: r,vs,K=>aD vs fun v Bs=>yH s v fun v'=>CB r Bs fun FN=>K (v' :: FN)
def bU:Sh→Value→(Value→Prop)→Prop
 | .cells l,v,K=>qy v fun cs=>CB l cs fun fS=>K (.agg ⟨fS⟩)
 | .K7 l,v,K=>bY v fun vs=>yF l vs fun Bs=>K (.tuple ⟨Bs⟩)
 | s,v,K=>yH s v K
where
 bY (v:Value) (K:List Value→Prop):Prop:=∃ cs,v=.tuple ⟨cs⟩∧K cs
 yF:List Sh→List Value→(List Value→Prop)→Prop
  | [],vs,K=>vs=[]∧K []
  | .cells l :: r,vs,K=>aD vs fun v Bs=>qy v fun cs=>CB l cs fun fS=>yF r Bs fun FN=>K (.agg ⟨fS⟩ :: FN)
  | s :: r,vs,K=>aD vs fun v Bs=>yH s v fun v'=>yF r Bs fun FN=>K (v' :: FN)
def J1:Sh→(Value→Prop)→Prop
 | .int k,F=>∀ n:Int,F (.int k n)
 | .bool,F=>∀ b:Bool,F (.bool b)
 | .str,F=>∀ s:ByteArray,F (.string s)
 | .ptr,F=>∀ p:Option Addr,F (.pointer p)
 | .DE,F=>∀ a:Addr,F (.pointer (some a))
 | .sl,F=>∀ s:ah,F (.slice s.a s.n s.c)
 | .arr,F=>∀ cs:List Value,F (.agg ⟨cs⟩)
 | _,F=>∀ v:Value,F v
def Rw:List Sh→(List Value→Prop)→Prop
 | [],F=>F []
 | s :: r,F=>J1 s fun v=>Rw r fun vs=>F (v :: vs)
def S5:Sh→(Value→Prop)→Prop
 | .cells l,F=>Rw l fun vs=>F (.agg ⟨vs⟩)
 | s,F=>J1 s F
def cS (P:Program) (ts:List TypeId) (ty:TypeId) (vs:List Value) (w:World) (K:ah→World→Prop):Prop:=FD P (Builtin.append_ ⟨ts⟩ ty ⟨vs⟩) w fun v w'=>aK v fun s=>K s w'
def an3 (P:Program) (ts:List TypeId) (ty:TypeId) (vs:List Value) (w:World) (K:Int→World→Prop):Prop:=FD P (Builtin.copy_ ⟨ts⟩ ty ⟨vs⟩) w fun v w'=>aF .i64 v fun n=>K n w'
def Tw (P:Program) (e:TypeId) (b:ByteArray) (w:World) (K:ah→World→Prop):Prop:=FD P (Conv.stringToBytes e b) w fun v w'=>aK v fun s=>K s w'
def KP (P:Program) (x:ah) (w:World) (K:ByteArray→World→Prop):Prop:=FD P (Conv.bytesToString (.slice x.a x.n x.c)) w fun v w'=>tU v fun b=>K b w'
def Z2 (P:Program) (a:Option Addr) (w:World) (K:World→Prop):Prop:=match a with | some a=>(∃ w',(markStringish a).run P w=.ok () w'∧K w') | none=>False
def Gu (P:Program) (op:BinOp) (t:TypeId) (xs ys:List Value) (w:World) (K:Bool→World→Prop):Prop:=FD P (do eqGuard op t (.tmp 0) (.tmp 0) (.agg ⟨xs⟩) (.agg ⟨ys⟩); binOp op t (.agg ⟨xs⟩) (.agg ⟨ys⟩)) w fun v w'=>aQ v fun b=>K b w'
abbrev Key:=List (Nat×Bool)
abbrev Fr:=List (Nat×Option Value)
structure St where
 fr:Fr
 cd:List (Nat×Key×Value)
 lt:List (Nat×Bool)
def look (t:Nat):Fr→Option Value
 | []=>none
 | (s,v) :: r=>cond (Nat.beq s t) v (look t r)
def eI (t:Nat):List (Nat×Key×Value)→Option (Key×Value)
 | []=>none
 | (s,e) :: r=>cond (Nat.beq s t) (some e) (eI t r)
def wS (t:Nat):List (Nat×Bool)→Option Bool
 | []=>none
 | (s,b) :: r=>cond (Nat.beq s t) (some b) (wS t r)
def AN (a b:Bool):Bool:=cond a b (cond b false true)
def jJ (x:Nat×Bool):Key→Bool
 | []=>false
 | y :: r=>cond (Nat.beq x.1 y.1 && AN x.2 y.2) true (jJ x r)
def oM (d:Nat):Key→Bool
 | []=>false
 | y :: r=>cond (Nat.beq d y.1) true (oM d r)
def within:Key→Key→Bool
 | [],_=>true
 | x :: r,K=>cond (jJ x K) (within r K) false
def St.val (s:St) (K:Key):Operand→Option Value
 | .tmp t=>match eI t s.cd with
  | some (k,v)=>cond (within k K) (some v) none
  | none=>look t s.fr
 | .const v=>some v
 | .global g=>some (.pointer (some ⟨g,0,none⟩))
 | .func f=>some (.func (.func f) #[] #[])
def tV (d:Nat):List (Nat×Key×Value)→List (Nat×Key×Value)
 | []=>[]
 | (s,k,v) :: r=>cond (Nat.beq s d || oM d k) (tV d r) ((s,k,v) :: tV d r)
def C6 (d:Nat):List (Nat×Bool)→List (Nat×Bool)
 | []=>[]
 | (s,b) :: r=>cond (Nat.beq s d) (C6 d r) ((s,b) :: C6 d r)
def tZ (d:Nat) (fr:Fr):List (Nat×Key×Value)→Fr
 | []=>fr
 | (s,k,_) :: r=>cond (oM d k) ((s,none) :: tZ d fr r) (tZ d fr r)
def St.put (s:St) (d:Option Nat) (v:Option Value):St:=match d with
 | none=>s
 | some d=>⟨(d,v) :: tZ d s.fr s.cd,tV d s.cd,C6 d s.lt⟩
def St.nO (s:St) (d:Option Nat) (k:Key) (v:Value):St:=match d with
 | none=>s
 | some d=>cond (oM d k) (s.put (some d) none) ⟨(d,none) :: tZ d s.fr s.cd,(d,k,v) :: tV d s.cd,C6 d s.lt⟩
def nI (g:Nat):Key→Key
 | []=>[]
 | y :: r=>cond (Nat.beq g y.1) (nI g r) (y :: nI g r)
def pF (g:Nat) (b:Bool):List (Nat×Key×Value)→List (Nat×Key×Value)
 | []=>[]
 | (s,k,v) :: r=>cond (jJ (g,!b) k) (pF g b r) (cond (jJ (g,b) k) (match nI g k with | []=>pF g b r | k'=>(s,k',v) :: pF g b r) ((s,k,v) :: pF g b r))
def pG (g:Nat) (b:Bool) (fr:Fr):List (Nat×Key×Value)→Fr
 | []=>fr
 | (s,k,v) :: r=>cond (jJ (g,!b) k) ((s,some undef) :: pG g b fr r) (cond (jJ (g,b) k) (match nI g k with | []=>(s,some v) :: pG g b fr r | _=>pG g b fr r) (pG g b fr r))
def uv (g:Nat):List (Nat×Key×Value)→List (Nat×Key×Value)
 | []=>[]
 | (s,k,v) :: r=>cond (Nat.beq s g) (uv g r) ((s,k,v) :: uv g r)
def St.settle (s:St) (g:Nat) (b:Bool):St:=⟨(g,some (.bool b)) :: pG g b s.fr s.cd,uv g (pF g b s.cd),(g,b) :: s.lt⟩
def Fs (op:BinOp) (k:IntKind) (x:Int) (k':IntKind) (y:Int):Option Value:=
 match op with
 | .add=>cond (decide (k=k')) (some (.int k (k.wrap (x+y)))) none
 | .sub=>cond (decide (k=k')) (some (.int k (k.wrap (x - y)))) none
 | .mul=>cond (decide (k=k')) (some (.int k (k.wrap (x * y)))) none
 | .rem=>cond (decide (k=k')) (match y with | .ofNat (_+1)=>some (.int k (x.tmod y)) | _=>none) none
 | .quo=>cond (decide (k=k')) (match y with | .ofNat (_+1)=>some (.int k (k.wrap (x.tdiv y))) | _=>none) none
 | .shl=>(match y with | .ofNat _=>some (.int k (shl k x y)) | _=>none)
 | .shr=>(match y with | .ofNat _=>some (.int k (shr k x y)) | _=>none)
 | .and=>cond (decide (k=k')) (some (.int k (vI k x y))) none
 | .or=>cond (decide (k=k')) (some (.int k (rC k x y))) none
 | .xor=>cond (decide (k=k')) (some (.int k (Tu k x y))) none
 | .andNot=>cond (decide (k=k')) (some (.int k (wX k x y))) none
 | .eql=>cond (decide (k=k')) (some (.bool (decide (x=y)))) none
 | .neq=>cond (decide (k=k')) (some (.bool (!decide (x=y)))) none
 | .lss=>cond (decide (k=k')) (some (.bool (decide (x<y)))) none
 | .leq=>cond (decide (k=k')) (some (.bool (decide (x≤y)))) none
 | .gtr=>cond (decide (k=k')) (some (.bool (decide (y<x)))) none
 | .geq=>cond (decide (k=k')) (some (.bool (decide (y≤x)))) none
def CV (P:Program) (op:BinOp) (t:TypeId) (a b:Value):Option Value:=
 match a,b with
 | .int k x,.int k' y=>Fs op k x k' y
 | .bool x,.bool y=>(match P.underlying t,op with | some .bool,.eql=>some (.bool (x == y)) | some .bool,.neq=>some (.bool (!(x == y))) | _,_=>none)
 | .string x,.string y=>(match op with | .eql=>some (.bool (decide (x=y))) | .neq=>some (.bool (!decide (x=y))) | _=>none)
 | .slice p _ _,.slice none _ _=>(match P.underlying t,op with | some (.slice _),.eql=>some (.bool p.isNone) | some (.slice _),.neq=>some (.bool (!p.isNone)) | _,_=>none)
 | .pointer p,.pointer none=>(match P.underlying t,op with | some (.pointer _),.eql=>some (.bool p.isNone) | some (.pointer _),.neq=>some (.bool (!p.isNone)) | _,_=>none)
 | .map p,.map none=>(match P.underlying t,op with | some (.map _ _),.eql=>some (.bool p.isNone) | some (.map _ _),.neq=>some (.bool (!p.isNone)) | _,_=>none)
 | _,_=>none
def Ft (off:Nat) (xs cells:List Value):List Value:=cells.take off ++ (xs ++ cells.drop (off+xs.length))
def C7 (place:Nat→Option (Nat×Nat)) (cells:List Value):List (Nat×Value)→Option (List Value)
 | []=>some cells
 | (i,v) :: rest=>match place i with
  | none=>none
  | some (off,size)=>cond (Nat.beq v.cells.toList.length size && Nat.ble (off+v.cells.toList.length) cells.length) (C7 place (Ft off v.cells.toList cells) rest) none
def placesOf (P:Program):List Field→Option (List (Nat×Nat))
 | []=>some []
 | f :: r=>cond (known P f.type) (match placesOf P r with | some l=>some ((f.offset,sizeOf P f.type) :: l) | none=>none) none
def q7 (ρ:Operand→Option Value):List Operand→Option (List Value)
 | []=>some []
 | x :: r=>match ρ x with | none=>none | some v=>match q7 ρ r with | none=>none | some vs=>some (v :: vs)
def partsOf (ρ:Operand→Option Value):List (Nat×Operand)→Option (List (Nat×Value))
 | []=>some []
 | (i,x) :: r=>match ρ x with | none=>none | some v=>match partsOf ρ r with | none=>none | some vs=>some ((i,v) :: vs)
def vB (P:Program) (t:TypeId):Bool:=match P.underlying t with | some (.struct _) | some (.array _ _)=>true | _=>false
def Fu (P:Program) (t:TypeId) (ps:List (Nat×Value)):Option Value:=
 match P.underlying t with
 | some (.struct fs)=>cond (vq P t) (match placesOf P fs.toList with | some pl=>(match C7 (fun i=>pl[i]?) (zc P t) ps with | some cs=>some (.agg ⟨cs⟩) | none=>none) | none=>none) none
 | some (.array _ e)=>cond (vq P t && known P e) (match C7 (fun i=>some (i * sizeOf P e,sizeOf P e)) (zc P t) ps with | some cs=>some (.agg ⟨cs⟩) | none=>none) none
 | _=>none
def SL (P:Program) (t:TypeId) (v:Value) (f:Nat):Option Value:=
 match v with
 | .agg cs=>(match P.underlying t with
  | some (.struct fs)=>(match fs.toList[f]? with
   | some fd=>cond (known P fd.type && SK P fd.type) (cond (vB P fd.type) (some (.agg ⟨(cs.toList.drop fd.offset).take (sizeOf P fd.type)⟩)) (cs.toList[fd.offset]?)) none
   | none=>none)
  | _=>none)
 | _=>none
def pM (P:Program) (ρ:Operand→Option Value):Op→Option Value
 | .move x | .assign x=>ρ x
 | .binOp op t x y _=>(match ρ x,ρ y with | some a,some b=>CV P op t a b | _,_=>none)
 | .unOp op _ x=>(match op,ρ x with
  | .not,some (.bool b)=>some (.bool (!b))
  | .neg,some (.int k n)=>some (.int k (k.wrap (0 - n)))
  | .xor,some (.int k n)=>some (.int k (an2 k n))
  | _,_=>none)
 | .convert s d x=>(match P.underlying s,P.underlying d,ρ x with
  | some _,some (.int k),some (.int _ n)=>some (.int k (k.wrap n))
  | some .string,some .string,some (.string b)=>some (.string b)
  | _,_,_=>none)
 | .makeInterface t x=>(match P.underlying t with | some (.interface _)=>none | some _=>(ρ x).map (.iface t) | none=>none)
 | .makeFunc fn first cap=>(match q7 ρ first.toList,q7 ρ cap.toList with | some a,some b=>some (.func fn ⟨a⟩ ⟨b⟩) | _,_=>none)
 | .build t ps=>(match partsOf ρ ps.toList with | some vs=>Fu P t vs | none=>none)
 | .field t x f=>(match ρ x with | some v=>SL P t v f | none=>none)
 | .extract x i=>(match ρ x with | some (.tuple vs)=>vs.toList[i]? | _=>none)
 | .fieldAddr t x f=>(match ρ x with
  | some (.pointer (some a))=>(match P.underlying t with
   | some (.struct fs)=>(match fs.toList[f]? with | some fd=>cond (Nat.beq (sizeOf P fd.type) 0 || !known P fd.type) none (some (.pointer (some (a.add fd.offset)))) | none=>none)
   | _=>none)
  | _=>none)
 | .call { callee:=.builtin .len,args,argTypes }=>(match q7 ρ args.toList,argTypes.toList with
  | some [.slice _ n _],[t]=>(match P.underlying t with | some (.slice _)=>some (.int .i64 n) | _=>none)
  | some [.string s],[t]=>(match P.underlying t with | some .string=>some (.int .i64 s.size) | _=>none)
  | some [_],[t]=>(match P.underlying t with | some (.array n _)=>some (.int .i64 n) | _=>none)
  | _,_=>none)
 | .call { callee:=.builtin .cap,args,argTypes }=>(match q7 ρ args.toList,argTypes.toList with
  | some [.slice _ _ c],[t]=>(match P.underlying t with | some (.slice _)=>some (.int .i64 c) | _=>none)
  | _,_=>none)
 | .call { callee:=.builtin .min,args,.. }=>(match q7 ρ args.toList with
  | some (.int k x :: r)=>Kq k x r
  | _=>none)
 | .call { callee:=.builtin .max,args,.. }=>(match q7 ρ args.toList with
  | some (.int k x :: r)=>Ks k x r
  | _=>none)
 | _=>none
where
 Kq (k:IntKind) (x:Int):List Value→Option Value
  | []=>some (.int k x)
  | .int _ y :: r=>Kq k (min x y) r
  | _=>none
 Ks (k:IntKind) (x:Int):List Value→Option Value
  | []=>some (.int k x)
  | .int _ y :: r=>Ks k (max x y) r
  | _=>none
def S6 (m:Mode) (op:BinOp) (k:IntKind) (x:Int) (k':IntKind) (y:Int) (K:Value→Prop):Prop:=
 match op with
 | .add=>cond (decide (k=k')) (ar m.nw k (x+y) fun z=>K (.int k z)) False
 | .sub=>cond (decide (k=k')) (ar m.nw k (x - y) fun z=>K (.int k z)) False
 | .mul=>cond (decide (k=k')) (ar m.nw k (x * y) fun z=>K (.int k z)) False
 | .quo=>cond (decide (k=k')) (pos y (cond m.dv ((0≤x∧x≤k.max)∧K (.int k (x / y))) (K (.int k (k.wrap (x.tdiv y)))))) False
 | .rem=>cond (decide (k=k')) (pos y (cond m.dv (0≤x∧K (.int k (x % y))) (K (.int k (x.tmod y))))) False
 | .shl=>lD y (K (.int k (shl k x y)))
 | .shr=>lD y (K (.int k (shr k x y)))
 | op=>match Fs op k x k' y with | some v=>K v | none=>False
def isC:Operand→Bool | .const _=>true | _=>false
def FE (P:Program) (m:Mode) (op:BinOp) (t:TypeId) (yc:Bool) (a b:Value) (w:World) (K:Value→World→Prop):Prop:=
 match b with
 | .nilIface=>(match op,P.underlying t with
  | .eql,some (.interface _)=>cond yc (dF a fun z=>K (.bool z) w) False
  | .neq,some (.interface _)=>cond yc (dF a fun z=>K (.bool (!z)) w) False
  | _,_=>False)
 | .nilFunc=>(match op,P.underlying t with
  | .eql,some (.func _ _ _)=>CN a fun z=>K (.bool z) w
  | .neq,some (.func _ _ _)=>CN a fun z=>K (.bool (!z)) w
  | _,_=>False)
 | .int k' y=>(match a with | .int k x=>S6 m op k x k' y fun v=>K v w | _=>False)
 | .agg ys=>(match a with | .agg xs=>(match P.underlying t with | some (.struct _)=>Gu P op t xs.toList ys.toList w fun b w'=>K (.bool b) w' | _=>False) | _=>False)
 | .string y=>(match a,op with
  | .string x,.add=>(((x.size+y.size:Nat):Int)≤9223372036854775807)∧K (.string (x ++ y)) w
  | .string x,op=>(match CV P op t (.string x) (.string y) with | some v=>K v w | none=>False)
  | _,_=>False)
 | b=>match CV P op t a b with | some v=>K v w | none=>False
def CW (ρ:Operand→Option Value):Option Operand→Option (Option Value)
 | none=>some none
 | some x=>match ρ x with | some v=>some (some v) | none=>none
def Bt (x:ah) (h:Int) (K:ah→Prop):Prop:=(0≤h∧h≤(x.c:Int))∧K ⟨x.a,h.toNat,x.c⟩
def zw (sz:Nat) (x:ah) (l:Int) (K:ah→Prop):Prop:=(0≤l∧l≤(x.n:Int))∧K ⟨sub x.a l.toNat x.c sz,x.n - l.toNat,x.c - l.toNat⟩
def Dt (sz:Nat) (x:ah) (l h:Int) (K:ah→Prop):Prop:=(0≤l∧l≤h∧h≤(x.c:Int))∧K ⟨sub x.a l.toNat x.c sz,h.toNat - l.toNat,x.c - l.toNat⟩
def abP (x:ah) (h m:Int) (K:ah→Prop):Prop:=(0≤h∧h≤m∧m≤(x.c:Int))∧K ⟨x.a,h.toNat,m.toNat⟩
def ani (sz:Nat) (x:ah) (l h m:Int) (K:ah→Prop):Prop:=(0≤l∧l≤h∧h≤m∧m≤(x.c:Int))∧K ⟨sub x.a l.toNat m.toNat sz,h.toNat - l.toNat,m.toNat - l.toNat⟩
def KQ (P:Program) (t:TypeId) (x:ah) (lo hi mx:Option Value) (K:ah→Prop):Prop:=
 match lo,hi,mx with
 | none,none,none=>K x
 | none,some (.int _ h),none=>Bt x h K
 | some (.int _ l),none,none=>zw (sizeOf P t) x l K
 | some (.int _ l),some (.int _ h),none=>Dt (sizeOf P t) x l h K
 | none,some (.int _ h),some (.int _ m)=>abP x h m K
 | some (.int _ l),some (.int _ h),some (.int _ m)=>ani (sizeOf P t) x l h m K
 | _,_,_=>False
def abp (s:ByteArray) (lo hi:Option Value) (K:ByteArray→Prop):Prop:=
 match lo,hi with
 | none,none=>K s
 | none,some (.int _ h)=>(0≤h∧h≤(s.size:Int))∧K (s.extract 0 h.toNat)
 | some (.int _ l),none=>(0≤l∧l≤(s.size:Int))∧K (s.extract l.toNat s.size)
 | some (.int _ l),some (.int _ h)=>(0≤l∧l≤h∧h≤(s.size:Int))∧K (s.extract l.toNat h.toNat)
 | _,_=>False
def Du (P:Program) (t:TypeId) (a:Addr) (w:World) (K:Value→Prop):Prop:=
 match P.underlying t with
 | some (.struct _)=>(match Tv P Z1 t with
  | .cells l=>cond (known P t && Nat.beq l.length (sizeOf P t)) (J0 l a 0 w fun vs=>K (.agg ⟨vs⟩)) False
  | _=>False)
 | some (.array _ _)=>cond (known P t) (ldA (sizeOf P t) a w fun cs=>K (.agg ⟨cs⟩)) False
 | some u=>cond (Nat.beq (sizeOf P t) 1) (Ko (S4 u) a w K) False
 | none=>False
def vt:List Value→Addr→Nat→World→(World→Prop)→Prop
 | [],_,_,w,K=>K w
 | v :: r,a,i,w,K=>st (a.add i) v w fun w'=>vt r a (i+1) w' K
def Tx (P:Program) (t:TypeId) (a:Addr) (v:Value) (w:World) (K:World→Prop):Prop:=
 cond (known P t) (match P.underlying t with
 | some (.struct _)=>(match v with | .agg cs=>cond (Nat.beq cs.toList.length (sizeOf P t)) (vt cs.toList a 0 w K) False | _=>False)
 | some (.array _ _)=>(match v with | .agg cs=>stA (sizeOf P t) a cs.toList w K | _=>False)
 | some _=>cond (Nat.beq (sizeOf P t) 1) (st a v w K) False
 | none=>False) False
def FF (P:Program) (dst:Option Nat) (t:TypeId) (v:Value) (K:Value→Prop):Prop:=
 match dst with
 | none=>K v
 | some _=>match Tv P Z1 t with
  | .K7 []=>K v
  | s=>bU s v K
def AX (P:Program) (m:Mode) (ρ:Operand→Option Value) (o:Oper) (w:World) (K:Value→World→Prop):Prop:=
 match o.op with
 | .binOp op t x y _=>(match ρ x,ρ y with | some a,some b=>FE P m op t (isC y) a b w K | _,_=>False)
 | .unOp .neg _ x=>(match ρ x with | some (.int k n)=>ar m.nw k (0 - n) fun z=>K (.int k z) w | _=>False)
 | .convert s d x=>(match P.underlying s,P.underlying d,ρ x with
  | some (.int _),some (.int k),some (.int _ n)=>ar m.nw k n fun z=>K (.int k z) w
  | some .string,some .string,some (.string b)=>K (.string b) w
  | some .string,some (.slice e),some (.string b)=>(match P.underlying e with | some (.int .u8)=>Tw P e b w fun s w'=>K (.slice s.a s.n s.c) w' | _=>False)
  | some (.slice _),some (.slice e),some (.slice a n c)=>(match P.underlying e with | some (.int .u8)=>cond (Nat.beq s d) (Z2 P a w fun w'=>K (.slice a n c) w') False | _=>False)
  | some (.slice e),some .string,some (.slice a n c)=>(match P.underlying e with | some (.int .u8)=>KP P ⟨a,n,c⟩ w fun b w'=>K (.string b) w' | _=>False)
  | _,_,_=>False)
 | .index t x i=>(match ρ x,ρ i with
  | some (.string b),some (.int _ i)=>(match P.underlying t with | some .string=>idx i b.size (K (.int .u8 (vR b i)) w) | _=>False)
  | some (.agg cs),some (.int _ i)=>(match P.underlying t with
   | some (.array n e)=>(match P.underlying e with
    | some (.int k)=>cond (Nat.beq (sizeOf P e) 1 && known P e) (atI k cs.toList i n fun z=>K (.int k z) w) False
    | _=>False)
   | _=>False)
  | _,_=>False)
 | .indexAddr t x i=>(match ρ x,ρ i with
  | some (.slice a n _),some (.int _ i)=>(match P.underlying t with | some (.slice e)=>cond (known P e) (aZ a i n (K (.pointer (some ((base a).add (i.toNat * sizeOf P e)))) w)) False | _=>False)
  | some (.pointer (some a)),some (.int _ i)=>(match P.underlying t with | some (.array n e)=>cond (known P e) (idx i n (K (.pointer (some (a.add (i.toNat * sizeOf P e)))) w)) False | _=>False)
  | _,_=>False)
 | .slice t x lo hi mx=>(match ρ x,CW ρ lo,CW ρ hi,CW ρ mx with
  | some (.slice a n c),some lo,some hi,some mx=>(match P.underlying t with | some (.slice e)=>cond (known P e) (KQ P e ⟨a,n,c⟩ lo hi mx fun s=>K (.slice s.a s.n s.c) w) False | _=>False)
  | some (.pointer (some a)),some lo,some hi,some mx=>(match P.underlying t with | some (.array n e)=>cond (known P e) (KQ P e ⟨some a,n,n⟩ lo hi mx fun s=>K (.slice s.a s.n s.c) w) False | _=>False)
  | some (.string b),some lo,some hi,some none=>(match P.underlying t with | some .string=>abp b lo hi fun s=>K (.string s) w | _=>False)
  | _,_,_,_=>False)
 | .nilCheck x=>(match ρ x with | some (.pointer p)=>cK p fun a=>K (.pointer (some a)) w | _=>False)
 | .load t x=>(match ρ x with | some (.pointer (some a))=>Du P t a w fun v=>K v w | _=>False)
 | .store t x y=>(match ρ x,ρ y with | some (.pointer (some a)),some v=>Tx P t a v w fun w'=>K undef w' | _,_=>False)
 | .alloc t=>cond (vq P t) (nw t (zc P t) w fun a w'=>K (.pointer (some a)) w') False
 | .box t x=>(match ρ x with | some v=>nw t v.cells.toList w fun a w'=>K (.pointer (some a)) w' | none=>False)
 | .buildSlice t n ps=>(match P.underlying t,partsOf ρ ps.toList with
  | some (.slice e),some vs=>(match C7 (fun i=>some (i * sizeOf P e,sizeOf P e)) (oK n (zc P e)) vs with
   | some cs=>cond (Nat.ble (n * sizeOf P e) 16777216 && Km P e) (nw e cs w fun a w'=>K (.slice (some a) n n) w') False
   | none=>False)
  | _,_=>False)
 | .makeSlice t l c=>(match P.underlying t,ρ l,ρ c with
  | some (.slice e),some (.int _ l),some (.int _ c)=>cond (Km P e) (oP P e l c w fun s w'=>K (.slice s.a s.n s.c) w') False
  | _,_,_=>False)
 | .call c=>(match q7 ρ c.args.toList with
  | none=>False
  | some vs=>match c.callee with
   | .builtin .append=>cS P c.argTypes.toList o.type vs w fun s w'=>K (.slice s.a s.n s.c) w'
   | .builtin .copy=>an3 P c.argTypes.toList o.type vs w fun n w'=>K (.int .i64 n) w'
   | .value g=>(match ρ g with | some g=>qx P g vs w fun v w'=>FF P o.dst o.type v fun v'=>K v' w' | none=>False)
   | _=>match pM P ρ o.op with | some v=>K v w | none=>False)
 | op=>match pM P ρ op with | some v=>K v w | none=>False
def aaC (c a b:Option Value) (K:Value→Prop):Prop:=
 match c with
 | some (.bool t)=>(match a,b with
  | some (.bool x),some (.bool y)=>K (.bool (cond t x y))
  | some v,none=>az t (K v) False
  | none,some v=>az t False (K v)
  | some u,some v=>az t (K u) (K v)
  | none,none=>False)
 | _=>False
def R9 (c a b:Option Value):Option Value:=
 match c,a,b with
 | some (.bool t),some (.bool x),some (.bool y)=>some (.bool (cond t x y))
 | _,_,_=>none
def S7 (P:Program) (s:St) (k:Key) (o:Oper):Option Value:=
 match o.op with
 | .pick c a b=>R9 (s.val k c) (s.val ((match c with | .tmp t=>[(t,true)] | _=>[]) ++ k) a) (s.val ((match c with | .tmp t=>[(t,false)] | _=>[]) ++ k) b)
 | op=>pM P (s.val k) op
def early:Op→Bool
 | .move _ | .assign _ | .pick .. | .unOp .. | .makeInterface .. | .makeFunc .. | .build .. | .field .. | .extract .. | .fieldAddr ..=>true
 | .binOp op _ _ y _=>(match op,y with | _,.const .nilIface=>false | _,.const .nilFunc=>false | .quo,.const _=>true | .rem,.const _=>true | .shl,.const _=>true | .shr,.const _=>true | .quo,_=>false | .rem,_=>false | .shl,_=>false | .shr,_=>false | _,_=>true)
 | .call { callee:=.builtin .len,.. } | .call { callee:=.builtin .cap,.. } | .call { callee:=.builtin .min,.. } | .call { callee:=.builtin .max,.. }=>true
 | _=>false
def Jz (s:St):Key→(St→Bool→Prop)→Prop
 | [],K=>K s true
 | (g,want) :: r,K=>Jz s r fun s' on=>cond on
   (match s'.val [] (.tmp g) with
    | some (.bool b)=>az b (K (s'.settle g true) want) (K (s'.settle g false) (!want))
    | some (.tuple _)=>K s' false
    | _=>False)
   (K s' false)
def vF (P:Program) (m:Mode) (o:Oper) (s:St) (w:World) (K:St→World→Prop):Prop:=
 match o.op with
 | .pick c a b=>aaC (s.val [] c) (s.val (match c with | .tmp t=>[(t,true)] | _=>[]) a) (s.val (match c with | .tmp t=>[(t,false)] | _=>[]) b) fun v=>K (s.put o.dst (some v)) w
 | .move x | .assign x=>K (s.put o.dst (s.val [] x)) w
 | _=>AX P m (s.val []) o w fun v w'=>K (s.put o.dst (some v)) w'
def yI (P:Program) (m:Mode) (ops:Array Oper) (o:Oper) (s:St) (w:World) (K:St→World→Prop):Prop:=
 match o.guard with
 | none=>vF P m o s w K
 | some (j,want)=>match ((ops.toList[j]?).bind (·.dst)) with
  | none=>False
  | some g=>match wS g s.lt with
   | some b=>cond (AN b want) (vF P m o s w K) (K (s.put o.dst (some undef)) w)
   | none=>
    cond (early o.op)
     (match S7 P s ((g,want) :: (match eI g s.cd with | some (k,_)=>k | none=>[])) o with
      | some v=>K (s.nO o.dst ((g,want) :: (match eI g s.cd with | some (k,_)=>k | none=>[])) v) w
      | none=>Jz s ((g,want) :: (match eI g s.cd with | some (k,_)=>k | none=>[])) fun s' on=>cond on (vF P m o s' w K) (K (s'.put o.dst (some undef)) w))
     (match o.op with
      | .load t x=>(match s.val ((g,want) :: (match eI g s.cd with | some (k,_)=>k | none=>[])) x with
       | some (.pointer (some a))=>Du P t a w fun v=>K (s.nO o.dst ((g,want) :: (match eI g s.cd with | some (k,_)=>k | none=>[])) v) w
       | _=>False)
      | _=>Jz s ((g,want) :: (match eI g s.cd with | some (k,_)=>k | none=>[])) fun s' on=>cond on (vF P m o s' w K) (K (s'.put o.dst (some undef)) w))
def xu (P:Program) (m:Mode) (ops:Array Oper):List Oper→St→World→(Fr→World→Prop)→Prop
 | [],s,w,K=>K s.fr w
 | o :: r,s,w,K=>yI P m ops o s w fun s' w'=>xu P m ops r s' w' K
def cls (P:Program):Op→Nat
 | .load ..=>1
 | .store .. | .alloc _ | .box .. | .buildSlice .. | .makeSlice ..=>2
 | .call { callee:=.builtin .len,.. } | .call { callee:=.builtin .cap,.. } | .call { callee:=.builtin .min,.. } | .call { callee:=.builtin .max,.. }=>0
 | .call _=>2
 | .convert s d _=>(match P.underlying s,P.underlying d with
  | some (.int _),some (.int _)=>0
  | some .string,some .string=>0
  | _,_=>2)
 | .binOp _ t _ _ _=>(match P.underlying t with | some (.struct _) | some (.array _ _)=>2 | _=>0)
 | .move _ | .assign _ | .pick .. | .unOp .. | .makeInterface .. | .makeFunc .. | .build .. | .field .. | .extract .. | .fieldAddr .. | .index .. | .indexAddr .. | .slice .. | .nilCheck _=>0
 | _=>2
def after (o:Oper):List Nat:=o.after.toList.filterMap fun e=>cond (Region.binds .any e) (some e.on) none
def mH (x:Nat):List Nat→Bool
 | []=>false
 | y :: r=>cond (Nat.beq x y) true (mH x r)
def lists:List Oper→List (List Nat)
 | []=>[]
 | o :: r=>after o :: lists r
def slotsOf (ops:List Oper) (o:Oper):List Nat:=
 (o.op.operands.toList.filterMap fun | .tmp t=>some t | _=>none) ++ (match o.guard with | some (g,_)=>((ops[g]?).bind (·.dst)).toList | none=>[])
def Kt (ops:List Oper) (x y:Oper):Bool:=
 (match x.dst with | some d=>cond (mH d (slotsOf ops y)) false (match y.dst with | some e=>!(Nat.beq d e) | none=>true) | none=>true) &&
 (match y.dst with | some d=>!(mH d (slotsOf ops x)) | none=>true)
def CC (ops:List Oper) (i:Nat) (o:Oper):Nat→List Oper→Bool
 | _,[]=>true
 | j,x :: r=>cond (Nat.beq i j || mH i (after x) || mH j (after o) || Kt ops o x) (CC ops i o (j+1) r) false
def Ay (ops:List Oper):Nat→List Oper→Bool
 | _,[]=>true
 | i,o :: r=>cond (CC ops i o 0 ops) (Ay ops (i+1) r) false
def AO:List Oper→Bool
 | []=>true
 | o :: r=>match o.op with | .select ..=>false | _=>AO r
def yJ (acc:List Nat):List Nat→Nat
 | []=>0
 | j :: r=>Nat.lor (Nat.lor (2 ^ j) (acc.getD j 0)) (yJ acc r)
def nM:List Oper→List Nat→List Nat
 | [],acc=>acc
 | o :: r,acc=>nM r (acc ++ [yJ acc (after o)])
def kept (a:Addr) (n:Nat) (w w':World):Prop:=∀ j,j<n→w'.cell? (a.add j)=w.cell? (a.add j)
abbrev Rd:=List (Nat×Addr×Nat)
def CO (mask:Nat) (w w':World) (A:Prop):Rd→Prop
 | []=>A
 | (i,a,n) :: r=>cond (Nat.testBit mask i) (CO mask w w' A r) (kept a n w w'∧CO mask w w' A r)
def C8 (dn:List Nat):List Nat→Bool
 | []=>true
 | j :: r=>cond (mH j dn) (C8 dn r) false
def nK (ops:List Oper) (dn:List Nat):Nat→List Oper→List (Nat×Oper)
 | _,[]=>[]
 | i,o :: r=>cond (mH i dn) (nK ops dn (i+1) r) (cond (C8 dn (after o)) ((i,o) :: nK ops dn (i+1) r) (nK ops dn (i+1) r))
def Jr (P:Program):List (Nat×Oper)→Option (Nat×Oper)
 | []=>none
 | (i,o) :: r=>cond (Nat.ble (cls P o.op) 1) (some (i,o)) (Jr P r)
def wL (P:Program) (ops:List Oper) (s:St) (i:Nat) (o:Oper):Rd:=
 match o.op with
 | .load t x=>(match s.val (match o.guard with
   | none=>[]
   | some (j,want)=>(match ((ops[j]?).bind (·.dst)) with
    | none=>[]
    | some g=>(match wS g s.lt with | some _=>[] | none=>(g,want) :: (match eI g s.cd with | some (k,_)=>k | none=>[])))) x with
  | some (.pointer (some a))=>[(i,a,sizeOf P t)]
  | _=>[])
 | _=>[]
def Ty (A:Nat×Oper→Prop):List (Nat×Oper)→Prop
 | []=>True
 | x :: r=>match r with | []=>A x | y :: r'=>A x∧Ty A (y :: r')
def Bu (P:Program) (m:Mode) (ops:Array Oper) (mk:List Nat):Nat→List Nat→Rd→St→World→(Fr→World→Prop)→Prop
 | 0,dn,_,s,w,K=>(match nK ops.toList dn 0 ops.toList with | []=>K s.fr w | _ :: _=>False)
 | n+1,dn,C,s,w,K=>
  match nK ops.toList dn 0 ops.toList with
  | []=>K s.fr w
  | x :: r=>match Jr P (x :: r) with
   | some (i,o)=>yI P m ops o s w fun s' w'=>Bu P m ops mk n (i :: dn) (wL P ops.toList s i o ++ C) s' w' K
   | none=>Ty (fun y=>yI P m ops y.2 s w fun s' w'=>CO (mk.getD y.1 0) w w' (Bu P m ops mk n (y.1 :: dn) C s' w' K) C) (x :: r)
def Bv (P:Program) (m:Mode) (ops:Array Oper) (draw:Bool) (fr:Fr) (w:World) (K:Fr→World→Prop):Prop:=
 cond draw
  (cond (AO ops.toList && Ay ops.toList 0 ops.toList) (Bu P m ops (nM ops.toList []) ops.toList.length [] [] ⟨fr,[],[]⟩ w.drew K) False)
  (xu P m ops ops.toList ⟨fr,[],[]⟩ w K)
abbrev sJ:=List (Nat×List (Nat×Sh))
def yO (k:Option Nat):sJ→Option (List (Nat×Sh))
 | []=>none
 | (i,l) :: r=>match k with | none=>none | some k=>cond (Nat.beq i k) (some l) (yO (some k) r)
def keyOf:Code→Option Nat
 | .region id _ _=>some id
 | .seq a b=>(match keyOf a with | some k=>some k | none=>keyOf b)
 | .cond _ a b=>(match keyOf a with | some k=>some k | none=>keyOf b)
 | .block _ a | .loop a | .scope a=>keyOf a
 | _=>none
def carry (fr:Fr):List (Nat×Sh)→Fr
 | []=>[]
 | (t,_) :: r=>(t,look t fr) :: carry fr r
def AP:List (Nat×Sh)→(Fr→Prop)→Prop
 | [],F=>F []
 | (t,s) :: r,F=>S5 s fun v=>AP r fun fr=>F ((t,some v) :: fr)
def rm:List Oper→List Nat
 | []=>[]
 | o :: r=>match o.dst with | some d=>d :: rm r | none=>rm r
def writes:Code→List Nat
 | .region _ ops _=>rm ops.toList
 | .seq a b | .cond _ a b=>writes a ++ writes b
 | .block _ a | .loop a | .scope a=>writes a
 | _=>[]
def yP:List (Nat×Sh)→List Nat→Bool
 | [],_=>true
 | (t,_) :: r,ws=>cond (mH t ws) (yP r ws) false
def strip (ws:List Nat):Fr→Fr
 | []=>[]
 | (t,v) :: r=>cond (mH t ws) (strip ws r) ((t,v) :: strip ws r)
def iJ (mk:Fr) (rest:World→Prop) (first:(World→Prop)→Prop):Prop:=
 ∀ K:Fr→World→Prop,(∀ w,rest w→K mk w)→first (fun w=>K mk w)
def fD {A1:Type} (mk:A1→Fr) (rest:A1→World→Prop) (first:(A1→World→Prop)→Prop):Prop:=
 ∀ K:Fr→World→Prop,(∀ x1 w,rest x1 w→K (mk x1) w)→first (fun x1 w=>K (mk x1) w)
def dX {A1:Type} (mk:A1→Fr) (body:(A1→World→Prop)→A1→World→Prop) (y1:A1) (v:World):Prop:=
 ∀ X:Fr→World→Prop,(∀ x1 w,body (fun x1 w=>X (mk x1) w) x1 w→X (mk x1) w)→X (mk y1) v
def AQ {A1 A2:Type} (mk:A1→A2→Fr) (rest:A1→A2→World→Prop) (first:(A1→A2→World→Prop)→Prop):Prop:=
 ∀ K:Fr→World→Prop,(∀ x1 x2 w,rest x1 x2 w→K (mk x1 x2) w)→first (fun x1 x2 w=>K (mk x1 x2) w)
def ko {A1 A2:Type} (mk:A1→A2→Fr) (body:(A1→A2→World→Prop)→A1→A2→World→Prop) (y1:A1) (y2:A2) (v:World):Prop:=
 ∀ X:Fr→World→Prop,(∀ x1 x2 w,body (fun x1 x2 w=>X (mk x1 x2) w) x1 x2 w→X (mk x1 x2) w)→X (mk y1 y2) v
def abq {A1 A2 A3:Type} (mk:A1→A2→A3→Fr) (body:(A1→A2→A3→World→Prop)→A1→A2→A3→World→Prop) (y1:A1) (y2:A2) (y3:A3) (v:World):Prop:=
 ∀ X:Fr→World→Prop,(∀ x1 x2 x3 w,body (fun x1 x2 x3 w=>X (mk x1 x2 x3) w) x1 x2 x3 w→X (mk x1 x2 x3) w)→X (mk y1 y2 y3) v
def abr {A1 A2 A3 A4:Type} (mk:A1→A2→A3→A4→Fr) (body:(A1→A2→A3→A4→World→Prop)→A1→A2→A3→A4→World→Prop) (y1:A1) (y2:A2) (y3:A3) (y4:A4) (v:World):Prop:=
 ∀ X:Fr→World→Prop,(∀ x1 x2 x3 x4 w,body (fun x1 x2 x3 x4 w=>X (mk x1 x2 x3 x4) w) x1 x2 x3 x4 w→X (mk x1 x2 x3 x4) w)→X (mk y1 y2 y3 y4) v
abbrev rq:=Exit→Fr→World→Prop
def asD (id:Nat):Exit→Bool
 | .exit i=>Nat.beq i id
 | _=>false
def C9 (K:Fr→World→Prop) (Q:rq):rq:=fun e fr w=>match e with | .normal=>K fr w | e=>Q e fr w
def EX (id:Nat) (Q:rq):rq:=fun e fr w=>match e with | .exit i=>cond (Nat.beq i id) (Q .normal fr w) (Q (.exit i) fr w) | e=>Q e fr w
def aln (Q:rq):rq:=fun e fr w=>match e with | .goto _=>False | e=>Q e fr w
def gE (P:Program) (m:Mode) (J L:sJ):Code→Fr→World→rq→Prop
 | .skip,fr,w,Q=>Q .normal fr w
 | .region _ ops draw,fr,w,Q=>Bv P m ops draw fr w fun aS w'=>Q .normal aS w'
 | .seq a b,fr,w,Q=>(match yO (keyOf b) J with
  | none=>gE P m J L a fr w (C9 (fun aS w'=>gE P m J L b aS w' Q) Q)
  | some ls=>cond (yP ls (writes a)) (∀ K:Fr→World→Prop,(AP ls fun aS=>∀ w',gE P m J L b (aS ++ strip (writes a) fr) w' Q→K aS w')→gE P m J L a fr w (C9 (fun aS w'=>K (carry aS ls) w') Q)) False)
 | .cond c a b,fr,w,Q=>(match (⟨fr,[],[]⟩:St).val [] c with
  | some (.bool t)=>az t (gE P m J L a fr w Q) (gE P m J L b fr w Q)
  | _=>False)
 | .block id a,fr,w,Q=>gE P m J L a fr w (EX id Q)
 | .loop a,fr,w,Q=>(match yO (keyOf a) L with
  | none=>False
  | some ls=>cond (yP ls (writes a)) (∀ X:Fr→World→Prop,(AP ls fun aS=>∀ w',gE P m J L a (aS ++ strip (writes a) fr) w' (C9 (fun Tz eU=>X (carry Tz ls) eU) Q)→X aS w')→X (carry fr ls) w) False)
 | .exit id,fr,w,Q=>Q (.exit id) fr w
 | .ret,fr,w,Q=>Q .ret fr w
 | .label _,fr,w,Q=>Q .normal fr w
 | .scope a,fr,w,Q=>gE P m J L a fr w (aln Q)
 | _,_,_,_=>False
def wO (P:Program) (fr:Fr) (w:World):List ResultVar→(List Value→Prop)→Prop
 | [],K=>K []
 | .tmp t :: r,K=>(match look t fr with | some v=>wO P fr w r fun vs=>K (v :: vs) | none=>False)
 | .cell t ty :: r,K=>(match look t fr with | some (.pointer (some a))=>Du P ty a w fun v=>wO P fr w r fun vs=>K (v :: vs) | _=>False)
def Ku (R:Value→World→Prop) (w:World):List Value→Prop
 | [v]=>R v w
 | vs=>R (.tuple ⟨vs⟩) w
def S8 (P:Program) (fn:Func) (R:Value→World→Prop):rq:=fun e fr w=>match e with
 | .normal | .ret=>wO P fr w fn.results.toList (Ku R w)
 | _=>False
def wY:Nat→List Value→Fr
 | _,[]=>[]
 | i,v :: r=>(i,some v) :: wY (i+1) r
def Dh (n:Nat):List Nat→Bool
 | []=>true
 | t :: r=>cond (Nat.blt t n) (Dh n r) false
@[irreducible] def aO (P:Program) (m:Mode) (J L:sJ) (fn:Func) (args:List Value) (w:World) (R:Value→World→Prop):Prop:=
 match fn.body with
 | some c=>cond (Dh fn.ntmps (writes c)) (gE P m J L c (wY 0 args) w (S8 P fn R)) False
 | none=>False
def Ok (P:Program) (f:FuncId) (args:List Value) (w:World) (R:Value→World→Prop):Prop:=ax P f args w R
end Go.Ev
end
section
set_option linter.unusedVariables false
set_option linter.unusedSimpArgs false
namespace Go.Ev
open Go
theorem beq_eq {a b:Nat}:Nat.beq a b=true↔a=b:=⟨Nat.eq_of_beq_eq_true,fun h=>h ▸ Nat.beq_refl a⟩
theorem gC {a b:Nat}:Nat.beq a b=false↔a≠b:=by
 rw [← Bool.not_eq_true,Ne,not_congr beq_eq]
theorem CD {a b:Bool}:AN a b=true↔a=b:=by cases a <;> cases b <;> simp [AN]
abbrev slot (a:Act) (t:Nat):Value:=a.tmps.getD t undef
def Sat (a:Act) (K:Key):Prop:=∀ x∈K,slot a x.1=.bool x.2
theorem Sat.nil (a:Act):Sat a []:=fun _ h=>by cases h
theorem Sat.cons {a:Act} {x:Nat×Bool} {K:Key}:Sat a (x :: K)↔slot a x.1=.bool x.2∧Sat a K:=by
 simp [Sat]
theorem Rx {x:Nat×Bool} {K:Key}:jJ x K=true↔x∈K:=by
 induction K with
 | nil=>simp [jJ]
 | cons y r ih=>
  obtain ⟨x1,x2⟩:=x; obtain ⟨y1,y2⟩:=y
  simp only [jJ]
  cases h:(Nat.beq x1 y1 && AN x2 y2) with
  | true=>
   simp only [Bool.and_eq_true,beq_eq,CD] at h
   simp [h.1,h.2]
  | false=>
   have gp:(x1,x2)≠(y1,y2):=by
    intro e; cases e
    simp [CD.2] at h
   simp [ih,gp]
theorem aju {d:Nat} {K:Key}:oM d K=true↔∃ x∈K,x.1=d:=by
 induction K with
 | nil=>simp [oM]
 | cons y r ih=>
  simp only [oM]
  cases h:Nat.beq d y.1 with
  | true=>simp [beq_eq.1 h]
  | false=>
   have:y.1≠d:=fun e=>(gC.1 h) e.symm
   simp [ih,this]
theorem aiU {a:Act} {k K:Key} (h:within k K=true) (hs:Sat a K):Sat a k:=by
 induction k with
 | nil=>exact Sat.nil a
 | cons x r ih=>
  simp only [within] at h
  cases hx:jJ x K with
  | true=>rw [hx] at h; exact Sat.cons.2 ⟨hs x (Rx.1 hx),ih h⟩
  | false=>rw [hx] at h; cases h
class gF where
 ds:List Deferred
instance (priority:=low) asF:gF:=⟨[]⟩
structure Kn [gF] (n:Nat) (ws:List Nat) (f0:Fr) (s:St) (a:Act):Prop where
 size:a.tmps.size=n
 defers:a.defers=gF.ds
 fr:∀ t v,look t s.fr=some v→eI t s.cd=none→slot a t=v
 cd:∀ t k v,eI t s.cd=some (k,v)→(Sat a k→slot a t=v)∧(¬ Sat a k→slot a t=undef)
 nd:(s.cd.map (·.1)).Nodup
 lt:∀ g b,wS g s.lt=some b→slot a g=.bool b
 cn:∀ t kv,eI t s.cd=some kv→look t s.fr=none
 AY:∀ t,t∉ws→look t s.fr=look t f0
 ins:∀ x∈s.cd,x.1∈ws∧∀ y∈x.2.1,y.1∈ws
theorem Kn.val [gF] {n:Nat} {ws:List Nat} {f0:Fr} {s:St} {a:Act} (h:Kn n ws f0 s a) {K:Key} (hs:Sat a K) {x:Operand} {v:Value} (hv:s.val K x=some v):a.eval x=v:=by
 cases x with
 | tmp t=>
  simp only [St.val] at hv
  cases hc:eI t s.cd with
  | none=>rw [hc] at hv; exact h.fr t v hv hc
  | some kv=>
   obtain ⟨k,u⟩:=kv
   rw [hc] at hv
   simp only at hv
   cases hw:within k K with
   | true=>rw [hw] at hv; cases hv; exact (h.cd t k _ hc).1 (aiU hw hs)
   | false=>rw [hw] at hv; cases hv
 | const u=>simp only [St.val] at hv; cases hv; rfl
 | global g=>simp only [St.val] at hv; cases hv; rfl
 | func f=>simp only [St.val] at hv; cases hv; rfl
theorem CE {a:Act} {d:Nat} {u:Value} (hd:d<a.tmps.size) (t:Nat):slot (a.put (some d) u) t=if t=d then u else slot a t:=by
 simp only [slot,Act.put]
 by_cases e:t=d
 ·subst e; simp [hd]
 ·simp [e,Array.getElem?_setIfInBounds_ne (Ne.symm e)]
theorem Z3 {a:Act} {d:Nat} {u:Value} (hd:d<a.tmps.size) {k:Key} (hk:oM d k=false):Sat (a.put (some d) u) k↔Sat a k:=by
 have gp:∀ x∈k,x.1≠d:=fun x hx e=>by
  have:=aju.2 ⟨x,hx,e⟩
  rw [hk] at this; cases this
 constructor
 ·intro h x hx
  have h1:=h x hx
  rwa [CE hd,if_neg (gp x hx)] at h1
 ·intro h x hx
  rw [CE hd,if_neg (gp x hx)]
  exact h x hx
theorem yB {t:Nat} {l:List (Nat×Key×Value)} {k:Key} {v:Value} (h:eI t l=some (k,v)):(t,k,v)∈l:=by
 induction l with
 | nil=>cases h
 | cons y r ih=>
  obtain ⟨s,e⟩:=y
  simp only [eI] at h
  cases hb:Nat.beq s t with
  | true=>rw [hb] at h; cases h; rw [beq_eq.1 hb]; exact List.mem_cons_self
  | false=>rw [hb] at h; exact List.mem_cons_of_mem _ (ih h)
theorem QU {t:Nat} {l:List (Nat×Key×Value)}:eI t l=none↔t∉l.map (·.1):=by
 induction l with
 | nil=>simp [eI]
 | cons y r ih=>
  obtain ⟨s,e⟩:=y
  simp only [eI]
  cases hb:Nat.beq s t with
  | true=>simp [beq_eq.1 hb]
  | false=>
   have:t≠s:=fun e=>(gC.1 hb) e.symm
   simp [ih,this]
theorem IY {t:Nat} {l:List (Nat×Key×Value)} {k:Key} {v:Value} (nd:(l.map (·.1)).Nodup) (h:(t,k,v)∈l):eI t l=some (k,v):=by
 induction l with
 | nil=>cases h
 | cons y r ih=>
  obtain ⟨s,e⟩:=y
  simp only [List.map_cons,List.nodup_cons] at nd
  simp only [eI]
  cases h with
  | head=>simp
  | tail _ h=>
   have:s≠t:=fun e=>nd.1 (e ▸ List.mem_map.2 ⟨_,h,rfl⟩)
   rw [gC.2 this]; exact ih nd.2 h
theorem ajv {d:Nat} {l:List (Nat×Key×Value)}:(tV d l).Sublist l:=by
 induction l with
 | nil=>exact List.Sublist.refl _
 | cons y r ih=>
  obtain ⟨s,k,v⟩:=y
  simp only [tV]
  cases (Nat.beq s d || oM d k) with
  | true=>exact ih.cons _
  | false=>exact ih.cons_cons _
theorem EU {d t:Nat} {k:Key} {v:Value} {l:List (Nat×Key×Value)}:(t,k,v)∈tV d l↔(t,k,v)∈l∧t≠d∧oM d k=false:=by
 induction l with
 | nil=>simp [tV]
 | cons y r ih=>
  obtain ⟨s,k',v'⟩:=y
  simp only [tV]
  cases hb:(Nat.beq s d || oM d k') with
  | true=>
   simp only [cond_true,ih,List.mem_cons,Prod.mk.injEq]
   constructor
   ·rintro ⟨h1,h2⟩; exact ⟨.inr h1,h2⟩
   ·rintro ⟨h1 | h1,h2,h3⟩
    ·obtain ⟨rfl,rfl,rfl⟩:=h1
     simp [gC.2 h2,h3] at hb
    ·exact ⟨h1,h2,h3⟩
  | false=>
   simp only [Bool.or_eq_false_iff,gC] at hb
   simp only [cond_false,List.mem_cons,ih,Prod.mk.injEq]
   constructor
   ·rintro (⟨rfl,rfl,rfl⟩ | ⟨h1,h2⟩)
    ·exact ⟨.inl ⟨rfl,rfl,rfl⟩,hb⟩
    ·exact ⟨.inr h1,h2⟩
   ·rintro ⟨h1 | h1,h2⟩
    ·exact .inl h1
    ·exact .inr ⟨h1,h2⟩
theorem ajw {d t:Nat} {x:Value} {fr:Fr} {l:List (Nat×Key×Value)} (h:look t (tZ d fr l)=some x) :
  look t fr=some x∧∀ k v,(t,k,v)∈l→oM d k=false:=by
 induction l with
 | nil=>exact ⟨h,fun _ _ h=>by cases h⟩
 | cons y r ih=>
  obtain ⟨s,k',v'⟩:=y
  simp only [tZ] at h
  cases hk:oM d k' with
  | true=>
   rw [hk] at h
   simp only [cond_true,look] at h
   cases hs:Nat.beq s t with
   | true=>rw [hs] at h; cases h
   | false=>
    rw [hs] at h
    obtain ⟨h1,h2⟩:=ih h
    refine ⟨h1,fun k v hm=>?_⟩
    cases hm with
    | head=>exact absurd rfl (gC.1 hs)
    | tail _ hm=>exact h2 k v hm
  | false=>
   rw [hk] at h
   obtain ⟨h1,h2⟩:=ih h
   refine ⟨h1,fun k v hm=>?_⟩
   cases hm with
   | head=>exact hk
   | tail _ hm=>exact h2 k v hm
theorem aix {d g:Nat} {b:Bool} {l:List (Nat×Bool)} (h:wS g (C6 d l)=some b):g≠d∧wS g l=some b:=by
 induction l with
 | nil=>cases h
 | cons y r ih=>
  obtain ⟨s,b'⟩:=y
  simp only [C6] at h
  cases hs:Nat.beq s d with
  | true=>
   rw [hs] at h
   obtain ⟨h1,h2⟩:=ih h
   refine ⟨h1,?_⟩
   have:s≠g:=fun e=>h1 (e ▸ beq_eq.1 hs)
   simp only [wS,gC.2 this,cond_false]; exact h2
  | false=>
   rw [hs] at h
   simp only [cond_false,wS] at h ⊢
   cases hg:Nat.beq s g with
   | true=>rw [hg] at h; exact ⟨fun e=>(gC.1 hs) ((beq_eq.1 hg).trans e),by simpa using h⟩
   | false=>rw [hg] at h; obtain ⟨h1,h2⟩:=ih h; exact ⟨h1,h2⟩
theorem NV {d t:Nat} {fr:Fr} (h:look t fr=none):∀ l:List (Nat×Key×Value),look t (tZ d fr l)=none
 | []=>h
 | (s,k,v) :: r=>by
  simp only [tZ]
  cases oM d k with
  | true=>
   simp only [cond_true,look]
   cases Nat.beq s t with
   | true=>rfl
   | false=>exact NV h r
  | false=>exact NV h r
theorem Xp {d t:Nat} {fr:Fr} {ws:List Nat} (ht:t∉ws):∀ {l:List (Nat×Key×Value)},(∀ x∈l,x.1∈ws)→look t (tZ d fr l)=look t fr
 | [],_=>rfl
 | (s,k,v) :: r,h=>by
  simp only [tZ]
  have hr:=Xp (d:=d) (fr:=fr) ht (l:=r) (fun x hx=>h x (List.mem_cons_of_mem _ hx))
  cases oM d k with
  | true=>
   simp only [cond_true,look]
   rw [gC.2 (fun (e:s=t)=>ht (by rw [← e]; exact (h _ List.mem_cons_self)))]
   exact hr
  | false=>exact hr
theorem Kn.put [gF] {n:Nat} {ws:List Nat} {f0:Fr} {s:St} {a:Act} (h:Kn n ws f0 s a) {d:Option Nat} (hd:∀ t,d=some t→t<n∧t∈ws) {v:Option Value} {u:Value} (hv:∀ x,v=some x→u=x) :
  Kn n ws f0 (s.put d v) (a.put d u):=by
 cases d with
 | none=>exact h
 | some d=>
  have cI:d<a.tmps.size:=h.size ▸ (hd d rfl).1
  have T9:d∈ws:=(hd d rfl).2
  refine ⟨by simp [Act.put,h.size],by simp [Act.put,h.defers],?_,?_,?_,?_,?_,?_,?_⟩
  ·intro t x hx hc
   simp only [St.put,look] at hx hc
   rw [CE cI]
   by_cases e:t=d
   ·subst e
    rw [if_pos rfl]
    simp only [Nat.beq_refl,cond_true] at hx
    exact hv x hx
   ·rw [if_neg e]
    rw [gC.2 (Ne.symm e)] at hx
    obtain ⟨h1,h2⟩:=ajw hx
    refine h.fr t x h1 ?_
    cases hl:eI t s.cd with
    | none=>rfl
    | some kv=>
     obtain ⟨k,w⟩:=kv
     have hm:=yB hl
     have Gv:(t,k,w)∈tV d s.cd:=EU.2 ⟨hm,e,h2 k w hm⟩
     have:=QU.1 hc
     exact absurd (List.mem_map.2 ⟨_,Gv,rfl⟩) this
  ·intro t k w hl
   have hm:=yB hl
   obtain ⟨h1,h2,h3⟩:=EU.1 hm
   have h4:=h.cd t k w (IY h.nd h1)
   rw [CE cI,if_neg h2,Z3 cI h3]
   exact h4
  ·exact h.nd.sublist (ajv.map _)
  ·intro g b hl
   obtain ⟨h1,h2⟩:=aix hl
   rw [CE cI,if_neg h1]
   exact h.lt g b h2
  ·intro t kv hl
   obtain ⟨k,w⟩:=kv
   have hm:=yB hl
   obtain ⟨h1,h2,h3⟩:=EU.1 hm
   simp only [St.put,look]
   rw [gC.2 (Ne.symm h2)]
   exact NV (h.cn t _ (IY h.nd h1)) _
  ·intro t ht
   simp only [St.put,look]
   rw [gC.2 (fun (e:d=t)=>ht (by rw [← e]; exact T9))]
   exact (Xp ht (fun x hx=>(h.ins x hx).1)).trans (h.AY t ht)
  ·intro x hx
   obtain ⟨t,k,v⟩:=x
   exact h.ins _ (EU.1 hx).1
theorem Kn.nO [gF] {n:Nat} {ws:List Nat} {f0:Fr} {s:St} {a:Act} (h:Kn n ws f0 s a) {d:Option Nat} (hd:∀ t,d=some t→t<n∧t∈ws) {k:Key} {v u:Value} (hkw:∀ y∈k,y.1∈ws) (h1:Sat a k→u=v) (h2:¬ Sat a k→u=undef) :
  Kn n ws f0 (s.nO d k v) (a.put d u):=by
 cases d with
 | none=>exact h
 | some d=>
  simp only [St.nO]
  cases hk:oM d k with
  | true=>exact h.put hd (fun x hx=>by cases hx)
  | false=>
   have cI:d<a.tmps.size:=h.size ▸ (hd d rfl).1
   have T9:d∈ws:=(hd d rfl).2
   have hp:Kn n ws f0 (s.put (some d) none) (a.put (some d) u):=h.put hd (fun x hx=>by cases hx)
   have sK:eI d (tV d s.cd)=none:=QU.2 fun hm=>by
    obtain ⟨⟨t,k',v'⟩,hm,rfl⟩:=List.mem_map.1 hm
    exact (EU.1 hm).2.1 rfl
   refine ⟨hp.size,hp.defers,?_,?_,?_,hp.lt,?_,?_,?_⟩
   ·intro t x hx hc
    simp only [cond_false,eI] at hc hx
    cases e:Nat.beq d t with
    | true=>rw [e] at hc; cases hc
    | false=>rw [e] at hc; exact hp.fr t x hx hc
   ·intro t k' w hl
    simp only [cond_false,eI] at hl
    cases e:Nat.beq d t with
    | true=>
     rw [e] at hl; cases hl
     rw [← beq_eq.1 e,Z3 cI hk,CE cI,if_pos rfl]
     exact ⟨h1,h2⟩
    | false=>rw [e] at hl; exact hp.cd t k' w hl
   ·simp only [cond_false,List.map_cons,List.nodup_cons]
    exact ⟨QU.1 sK,hp.nd⟩
   ·intro t kv hl
    simp only [cond_false,eI,look] at hl ⊢
    cases e:Nat.beq d t with
    | true=>rfl
    | false=>
     rw [e] at hl
     have:=hp.cn t kv hl
     simp only [St.put,look,e,cond_false] at this
     exact this
   ·intro t ht
    have:=hp.AY t ht
    simp only [St.put,look,cond_false] at this ⊢
    exact this
   ·intro x hx
    simp only [cond_false] at hx
    cases hx with
    | head=>exact ⟨T9,hkw⟩
    | tail _ hx=>exact hp.ins x hx
theorem P1 {g:Nat} {x:Nat×Bool} {k:Key}:x∈nI g k↔x∈k∧x.1≠g:=by
 induction k with
 | nil=>simp [nI]
 | cons y r ih=>
  simp only [nI]
  cases h:Nat.beq g y.1 with
  | true=>
   have:=beq_eq.1 h
   simp only [cond_true,ih,List.mem_cons]
   constructor
   ·rintro ⟨h1,h2⟩; exact ⟨.inr h1,h2⟩
   ·rintro ⟨rfl | h1,h2⟩
    ·exact absurd this.symm h2
    ·exact ⟨h1,h2⟩
  | false=>
   have:=gC.1 h
   simp only [cond_false,ih,List.mem_cons]
   constructor
   ·rintro (rfl | ⟨h1,h2⟩)
    ·exact ⟨.inl rfl,Ne.symm this⟩
    ·exact ⟨.inr h1,h2⟩
   ·rintro ⟨rfl | h1,h2⟩
    ·exact .inl rfl
    ·exact .inr ⟨h1,h2⟩
theorem XS {a:Act} {g:Nat} {b:Bool} {k:Key} (hg:slot a g=.bool b) (jE:jJ (g,!b) k=false):Sat a (nI g k)↔Sat a k:=by
 constructor
 ·intro h x hx
  by_cases e:x.1=g
  ·have hb:x.2=b:=by
    have hn:x.2≠!b:=fun h1=>by
     have:jJ (g,!b) k=true:=Rx.2 (by rw [← e,← h1]; exact hx)
     rw [jE] at this; cases this
    revert hn; cases x.2 <;> cases b <;> simp
   rw [e,hg,hb]
  ·exact h x (P1.2 ⟨hx,e⟩)
 ·intro h x hx; exact h x (P1.1 hx).1
theorem EH {a:Act} {g:Nat} {b:Bool} (hg:slot a g=.bool b) {fr:Fr}:∀ {l:List (Nat×Key×Value)},(l.map (·.1)).Nodup→
  (∀ t k v,(t,k,v)∈l→(Sat a k→slot a t=v)∧(¬ Sat a k→slot a t=undef))→∀ {t:Nat} {x:Value},
  look t (pG g b fr l)=some x→eI t (pF g b l)=none→slot a t=x∨(look t fr=some x∧eI t l=none)
 | [],_,_,_,_,h,_=>.inr ⟨h,rfl⟩
 | (s,k,v) :: r,nd,hc,t,x,h,h0=>by
  simp only [List.map_cons,List.nodup_cons] at nd
  have hr:∀ t k v,(t,k,v)∈r→(Sat a k→slot a t=v)∧(¬ Sat a k→slot a t=undef):=fun t k v hm=>hc t k v (List.mem_cons_of_mem _ hm)
  have hs:=hc s k v List.mem_cons_self
  simp only [pG,pF] at h h0
  cases h1:jJ (g,!b) k with
  | true=>
   rw [h1] at h h0
   simp only [cond_true,look] at h h0
   cases e:Nat.beq s t with
   | true=>
    rw [e] at h; cases h
    have hns:¬ Sat a k:=fun KR=>by
     have:=KR _ (Rx.1 h1)
     rw [hg] at this; cases b <;> cases this
    exact .inl (beq_eq.1 e ▸ hs.2 hns)
   | false=>
    rw [e] at h
    rcases EH hg nd.2 hr h h0 with h2 | ⟨h2,h3⟩
    ·exact .inl h2
    ·exact .inr ⟨h2,by simp only [eI,e,cond_false]; exact h3⟩
  | false=>
   rw [h1] at h h0
   simp only [cond_false] at h h0
   cases h2:jJ (g,b) k with
   | true=>
    rw [h2] at h h0
    simp only [cond_true] at h h0
    cases h3:nI g k with
    | nil=>
     rw [h3] at h h0
     simp only [look] at h h0
     cases e:Nat.beq s t with
     | true=>
      rw [e] at h; cases h
      have:Sat a k:=(XS hg h1).1 (h3 ▸ Sat.nil a)
      exact .inl (beq_eq.1 e ▸ hs.1 this)
     | false=>
      rw [e] at h
      rcases EH hg nd.2 hr h h0 with h4 | ⟨h4,h5⟩
      ·exact .inl h4
      ·exact .inr ⟨h4,by simp only [eI,e,cond_false]; exact h5⟩
    | cons y k'=>
     rw [h3] at h h0
     simp only [eI] at h h0
     cases e:Nat.beq s t with
     | true=>rw [e] at h0; cases h0
     | false=>
      rw [e] at h0
      rcases EH hg nd.2 hr h h0 with h4 | ⟨h4,h5⟩
      ·exact .inl h4
      ·exact .inr ⟨h4,by simp only [eI,e,cond_false]; exact h5⟩
   | false=>
    rw [h2] at h h0
    simp only [cond_false,eI] at h h0
    cases e:Nat.beq s t with
    | true=>rw [e] at h0; cases h0
    | false=>
     rw [e] at h0
     rcases EH hg nd.2 hr h h0 with h4 | ⟨h4,h5⟩
     ·exact .inl h4
     ·exact .inr ⟨h4,by simp only [eI,e,cond_false]; exact h5⟩
theorem yy {g:Nat} {b:Bool}:∀ {l:List (Nat×Key×Value)} {t:Nat} {k:Key} {v:Value},(t,k,v)∈pF g b l→
  ∃ k0,(t,k0,v)∈l∧jJ (g,!b) k0=false∧(k=k0∨k=nI g k0)
 | [],_,_,_,h=>by cases h
 | (s,k1,v1) :: r,t,k,v,h=>by
  simp only [pF] at h
  have up:(∃ k0,(t,k0,v)∈r∧jJ (g,!b) k0=false∧(k=k0∨k=nI g k0))→∃ k0,(t,k0,v)∈(s,k1,v1) :: r∧jJ (g,!b) k0=false∧(k=k0∨k=nI g k0):=
   fun ⟨k0,h1,h2⟩=>⟨k0,List.mem_cons_of_mem _ h1,h2⟩
  cases h1:jJ (g,!b) k1 with
  | true=>rw [h1] at h; exact up (yy h)
  | false=>
   rw [h1] at h
   simp only [cond_false] at h
   cases h2:jJ (g,b) k1 with
   | true=>
    rw [h2] at h
    simp only [cond_true] at h
    cases h3:nI g k1 with
    | nil=>rw [h3] at h; exact up (yy h)
    | cons y k'=>
     rw [h3] at h
     cases h with
     | head=>exact ⟨k1,List.mem_cons_self,h1,.inr h3.symm⟩
     | tail _ h=>exact up (yy h)
   | false=>
    rw [h2] at h
    cases h with
    | head=>exact ⟨_,List.mem_cons_self,h1,.inl rfl⟩
    | tail _ h=>exact up (yy h)
theorem Yo {g:Nat} {b:Bool}:∀ {l:List (Nat×Key×Value)},((pF g b l).map (·.1)).Sublist (l.map (·.1))
 | []=>List.Sublist.refl _
 | (s,k1,v1) :: r=>by
  have ih:=Yo (g:=g) (b:=b) (l:=r)
  simp only [pF]
  cases jJ (g,!b) k1 with
  | true=>exact ih.cons _
  | false=>
   simp only [cond_false]
   cases jJ (g,b) k1 with
   | true=>
    simp only [cond_true]
    cases nI g k1 with
    | nil=>exact ih.cons _
    | cons y k'=>exact ih.cons_cons _
   | false=>exact ih.cons_cons _
theorem Sm {g t:Nat} {k:Key} {v:Value} {l:List (Nat×Key×Value)}:(t,k,v)∈uv g l↔(t,k,v)∈l∧t≠g:=by
 induction l with
 | nil=>simp [uv]
 | cons y r ih=>
  obtain ⟨s,k',v'⟩:=y
  simp only [uv]
  cases hb:Nat.beq s g with
  | true=>
   have:=beq_eq.1 hb
   simp only [cond_true,ih,List.mem_cons,Prod.mk.injEq]
   constructor
   ·rintro ⟨h1,h2⟩; exact ⟨.inr h1,h2⟩
   ·rintro ⟨h1 | h1,h2⟩
    ·exact absurd (h1.1.trans this) h2
    ·exact ⟨h1,h2⟩
  | false=>
   have:=gC.1 hb
   simp only [cond_false,List.mem_cons,ih,Prod.mk.injEq]
   constructor
   ·rintro (⟨rfl,rfl,rfl⟩ | ⟨h1,h2⟩)
    ·exact ⟨.inl ⟨rfl,rfl,rfl⟩,this⟩
    ·exact ⟨.inr h1,h2⟩
   ·rintro ⟨h1 | h1,h2⟩
    ·exact .inl h1
    ·exact .inr ⟨h1,h2⟩
theorem Sn {g:Nat}:∀ {l:List (Nat×Key×Value)},((uv g l).map (·.1)).Sublist (l.map (·.1))
 | []=>List.Sublist.refl _
 | (s,k,v) :: r=>by
  simp only [uv]
  cases Nat.beq s g with
  | true=>exact Sn.cons _
  | false=>exact Sn.cons_cons _
theorem JA {g t:Nat} (h:t≠g):∀ l:List (Nat×Key×Value),eI t (uv g l)=eI t l
 | []=>rfl
 | (s,k,v) :: r=>by
  simp only [uv,eI]
  cases hb:Nat.beq s g with
  | true=>
   have:s≠t:=fun e=>h (e ▸ beq_eq.1 hb)
   rw [gC.2 this]; exact JA h r
  | false=>
   simp only [cond_false,eI]
   rw [JA h r]
theorem WN {g t:Nat} {b:Bool} {fr:Fr} (h:look t fr=none):∀ {l:List (Nat×Key×Value)},(l.map (·.1)).Nodup→∀ {kv:Key×Value},eI t (pF g b l)=some kv→look t (pG g b fr l)=none
 | [],_,_,_=>h
 | (s,k,v) :: r,nd,kv,hl=>by
  simp only [List.map_cons,List.nodup_cons] at nd
  have off:eI t (pF g b r)=some kv→look t (pG g b fr r)=none:=fun hl=>WN h nd.2 hl
  have inr:eI t (pF g b r)=some kv→s≠t:=fun hl e=>by
   obtain ⟨k0,v0⟩:=kv
   obtain ⟨k1,hm,_⟩:=yy (yB hl)
   exact nd.1 (e ▸ List.mem_map.2 ⟨_,hm,rfl⟩)
  have abQ:s=t→look t (pG g b fr r)=none:=fun e=>by
   subst e
   have:∀ {l:List (Nat×Key×Value)},s∉l.map (·.1)→look s (pG g b fr l)=none:=by
    intro l
    induction l with
    | nil=>intro _; exact h
    | cons y r ih=>
     obtain ⟨s',k',v'⟩:=y
     intro hn
     simp only [List.map_cons,List.mem_cons,not_or] at hn
     have hb:Nat.beq s' s=false:=gC.2 (fun e=>hn.1 e.symm)
     simp only [pG]
     cases jJ (g,!b) k' with
     | true=>simp only [cond_true,look,hb,cond_false]; exact ih hn.2
     | false=>
      simp only [cond_false]
      cases jJ (g,b) k' with
      | true=>
       simp only [cond_true]
       cases nI g k' with
       | nil=>simp only [look,hb,cond_false]; exact ih hn.2
       | cons _ _=>exact ih hn.2
      | false=>exact ih hn.2
   exact this nd.1
  simp only [pG,pF] at hl ⊢
  cases h1:jJ (g,!b) k with
  | true=>
   rw [h1] at hl
   simp only [cond_true,look] at hl ⊢
   rw [gC.2 (inr hl)]; exact off hl
  | false=>
   rw [h1] at hl
   simp only [cond_false] at hl ⊢
   cases h2:jJ (g,b) k with
   | true=>
    rw [h2] at hl
    simp only [cond_true] at hl ⊢
    cases h3:nI g k with
    | nil=>
     rw [h3] at hl
     simp only [look] at hl ⊢
     rw [gC.2 (inr hl)]; exact off hl
    | cons y k'=>
     rw [h3] at hl
     simp only [eI] at hl
     by_cases e:s=t
     ·exact abQ e
     ·rw [gC.2 e] at hl; exact off hl
   | false=>
    rw [h2] at hl
    simp only [cond_false,eI] at hl ⊢
    by_cases e:s=t
    ·exact abQ e
    ·rw [gC.2 e] at hl; exact off hl
theorem WV {g t:Nat} {b:Bool} {fr:Fr} {ws:List Nat} (ht:t∉ws):∀ {l:List (Nat×Key×Value)},(∀ x∈l,x.1∈ws)→look t (pG g b fr l)=look t fr
 | [],_=>rfl
 | (s,k,v) :: r,h=>by
  have hr:=WV (g:=g) (b:=b) (fr:=fr) ht (l:=r) (fun x hx=>h x (List.mem_cons_of_mem _ hx))
  have hs:Nat.beq s t=false:=gC.2 (fun (e:s=t)=>ht (by rw [← e]; exact (h _ List.mem_cons_self)))
  simp only [pG]
  cases jJ (g,!b) k with
  | true=>simp only [cond_true,look,hs,cond_false]; exact hr
  | false=>
   simp only [cond_false]
   cases jJ (g,b) k with
   | true=>
    simp only [cond_true]
    cases nI g k with
    | nil=>simp only [look,hs,cond_false]; exact hr
    | cons _ _=>exact hr
   | false=>exact hr
theorem Kn.settle [gF] {n:Nat} {ws:List Nat} {f0:Fr} {s:St} {a:Act} (h:Kn n ws f0 s a) {g:Nat} {b:Bool} (K8:g∈ws) (hg:slot a g=.bool b):Kn n ws f0 (s.settle g b) a:=by
 have hc:∀ t k v,(t,k,v)∈s.cd→(Sat a k→slot a t=v)∧(¬ Sat a k→slot a t=undef):=fun t k v hm=>h.cd t k v (IY h.nd hm)
 have nd':((s.settle g b).cd.map (·.1)).Nodup:=h.nd.sublist (Sn.trans Yo)
 refine ⟨h.size,h.defers,?_,?_,nd',?_,?_,?_,?_⟩
 ·intro t x hx h0
  simp only [St.settle,look] at hx h0
  cases e:Nat.beq g t with
  | true=>rw [e] at hx; cases hx; rw [← beq_eq.1 e]; exact hg
  | false=>
   rw [e] at hx
   rw [JA (Ne.symm (gC.1 e))] at h0
   rcases EH hg h.nd hc hx h0 with h1 | ⟨h1,h2⟩
   ·exact h1
   ·exact h.fr t x h1 h2
 ·intro t k v hl
  obtain ⟨k0,hm,jE,hk⟩:=yy (Sm.1 (yB hl)).1
  have:=hc t k0 v hm
  rcases hk with rfl | rfl
  ·exact this
  ·rw [XS hg jE]; exact this
 ·intro g' b' hl
  simp only [St.settle,wS] at hl
  cases e:Nat.beq g g' with
  | true=>rw [e] at hl; cases hl; rw [← beq_eq.1 e]; exact hg
  | false=>rw [e] at hl; exact h.lt g' b' hl
 ·intro t kv hl
  obtain ⟨k,v⟩:=kv
  have gp:=(Sm.1 (yB hl)).2
  simp only [St.settle] at hl
  rw [JA gp] at hl
  simp only [St.settle,look]
  rw [gC.2 (Ne.symm gp)]
  obtain ⟨k0,hm,_⟩:=yy (yB hl)
  exact WN (h.cn t _ (IY h.nd hm)) h.nd hl
 ·intro t ht
  simp only [St.settle,look]
  rw [gC.2 (fun (e:g=t)=>ht (by rw [← e]; exact K8))]
  exact (WV ht (fun x hx=>(h.ins x hx).1)).trans (h.AY t ht)
 ·intro x hx
  obtain ⟨t,k,v⟩:=x
  obtain ⟨k0,hm,_,hk⟩:=yy (Sm.1 hx).1
  have:=h.ins _ hm
  rcases hk with rfl | rfl
  ·exact this
  ·exact ⟨this.1,fun y hy=>this.2 y (P1.1 hy).1⟩
theorem Kn.out [gF] {n:Nat} {ws:List Nat} {f0:Fr} {s:St} {a:Act} (h:Kn n ws f0 s a):Kn n ws f0 ⟨s.fr,[],[]⟩ a:=
 ⟨h.size,h.defers,fun t v hl _=>h.fr t v hl (by
  cases hc:eI t s.cd with
  | none=>rfl
  | some kv=>have:=h.cn t kv hc; rw [hl] at this; cases this),fun t k v hl=>(by cases hl),List.nodup_nil,fun g b hl=>(by cases hl),fun t kv hl=>(by cases hl),h.AY,fun x hx=>(by cases hx)⟩
theorem EB [gF] {n:Nat} {ws:List Nat} {f0:Fr} {a:Act}:∀ (chain:Key) (s:St) (K:St→Bool→Prop),(∀ y∈chain,y.1∈ws)→Kn n ws f0 s a→Jz s chain K→
  ∃ s' on,Kn n ws f0 s' a∧K s' on∧(on=true↔Sat a chain)
 | [],s,K,_,h,hk=>⟨s,true,h,hk,by simp [Sat.nil]⟩
 | (g,want) :: r,s,K,hw,h,hk=>by
  have K8:g∈ws:=hw _ List.mem_cons_self
  obtain ⟨s1,on,h1,mJ,Gw⟩:=EB r s _ (fun y hy=>hw y (List.mem_cons_of_mem _ hy)) h hk
  cases on with
  | false=>
   refine ⟨s1,false,h1,mJ,?_⟩
   simp only [Bool.false_eq_true,false_iff] at Gw ⊢
   exact fun hs=>Gw (Sat.cons.1 hs).2
  | true=>
   have KR:Sat a r:=Gw.1 rfl
   simp only [cond_true] at mJ
   cases hv:s1.val [] (.tmp g) with
   | none=>rw [hv] at mJ; exact mJ.elim
   | some v=>
    rw [hv] at mJ
    cases v with
    | bool b=>
     have hg:slot a g=.bool b:=h1.val (Sat.nil a) hv
     simp only [az] at mJ
     cases b with
     | true=>
      refine ⟨_,want,h1.settle K8 hg,mJ,?_⟩
      rw [Sat.cons,hg]
      simp only [Value.bool.injEq]
      exact ⟨fun e=>⟨e.symm,KR⟩,fun e=>e.1.symm⟩
     | false=>
      refine ⟨_,!want,h1.settle K8 hg,mJ,?_⟩
      rw [Sat.cons,hg]
      simp only [Value.bool.injEq,Bool.not_eq_true']
      exact ⟨fun e=>⟨e.symm,KR⟩,fun e=>e.1.symm⟩
    | tuple ts=>
     have hg:slot a g=.tuple ts:=h1.val (Sat.nil a) hv
     refine ⟨s1,false,h1,mJ,?_⟩
     rw [Sat.cons,hg]
     simp
    | _=>exact mJ.elim
end Go.Ev
end
section
set_option linter.unusedVariables false
set_option linter.unusedSimpArgs false
namespace Go.Ev
open Go
variable {P:Program}
def sM (ρ:Operand→Option Value) (e:Operand→Value):Prop:=∀ x u,ρ x=some u→e x=u
theorem YI {ρ:Operand→Option Value} {e:Operand→Value} (h:sM ρ e):∀ {l:List Operand} {vs:List Value},q7 ρ l=some vs→l.map e=vs
 | [],_,hv=>by cases hv; rfl
 | x :: r,vs,hv=>by
  simp only [q7] at hv
  cases hx:ρ x with
  | none=>rw [hx] at hv; cases hv
  | some u=>
   rw [hx] at hv
   cases hr:q7 ρ r with
   | none=>rw [hr] at hv; cases hv
   | some us=>rw [hr] at hv; cases hv; rw [List.map_cons,h x u hx,YI h hr]
theorem Yp {ρ:Operand→Option Value} {e:Operand→Value} (h:sM ρ e):∀ {l:List (Nat×Operand)} {vs:List (Nat×Value)},partsOf ρ l=some vs→l.map (fun p=>(p.1,e p.2))=vs
 | [],_,hv=>by cases hv; rfl
 | (i,x) :: r,vs,hv=>by
  simp only [partsOf] at hv
  cases hx:ρ x with
  | none=>rw [hx] at hv; cases hv
  | some u=>
   rw [hx] at hv
   cases hr:partsOf ρ r with
   | none=>rw [hr] at hv; cases hv
   | some us=>rw [hr] at hv; cases hv; rw [List.map_cons,h x u hx,Yp h hr]
theorem vm {ρ:Operand→Option Value} {e:Operand→Value} (h:sM ρ e) {xs:Array Operand} {vs:List Value} (hv:q7 ρ xs.toList=some vs):xs.map e=⟨vs⟩:=by
 apply Array.ext'
 simp [YI h hv]
theorem YJ {ρ:Operand→Option Value} {e:Operand→Value} (h:sM ρ e) {xs:Array (Nat×Operand)} {vs:List (Nat×Value)} (hv:partsOf ρ xs.toList=some vs):xs.map (fun (i,x)=>(i,e x))=⟨vs⟩:=by
 apply Array.ext'
 simpa using Yp h hv
theorem aiV (x y:Int):(Op.intCmp .eql x y:Sem Value)=pure (.bool (decide (x=y))):=by
 simp only [Op.intCmp]; congr 2
theorem aiW (x y:Int):(Op.intCmp .neq x y:Sem Value)=pure (.bool (!decide (x=y))):=by
 simp only [Op.intCmp]; congr 2
theorem YK {op:BinOp} {k k':IntKind} {x y:Int} {v:Value} (h:Fs op k x k' y=some v) (t:TypeId) (w:World) :
  (binOp op t (.int k x) (.int k' y)).run P w=.ok v w:=by
 cases op <;> simp only [Fs] at h
 case shl=>cases y with
  | ofNat n=>cases h; simp [binOp,Op.shift,shl,show ¬ ((n:Int)<0) by omega]
  | negSucc n=>cases h
 case shr=>cases y with
  | ofNat n=>cases h; simp [binOp,Op.shift,shr,show ¬ ((n:Int)<0) by omega]
  | negSucc n=>cases h
 case quo=>
  cases hk:decide (k=k') with
  | false=>rw [hk] at h; cases h
  | true=>
   have e:=of_decide_eq_true hk
   subst e
   rw [hk] at h
   simp only [cond_true] at h
   cases y with
   | ofNat n=>cases n with
    | zero=>cases h
    | succ n=>cases h; simp [binOp,Op.intDiv,show ¬ ((n:Int)+1=0) by omega]
   | negSucc n=>cases h
 case rem=>
  cases hk:decide (k=k') with
  | false=>rw [hk] at h; cases h
  | true=>
   have e:=of_decide_eq_true hk
   subst e
   rw [hk] at h
   simp only [cond_true] at h
   cases y with
   | ofNat n=>cases n with
    | zero=>cases h
    | succ n=>cases h; simp [binOp,Op.intDiv,show ¬ ((n:Int)+1=0) by omega]
   | negSucc n=>cases h
 all_goals
  cases hk:decide (k=k') with
  | false=>rw [hk] at h; cases h
  | true=>
   have e:=of_decide_eq_true hk
   subst e
   rw [hk] at h
   cases h
   first
    | (simp [binOp,Op.intArith,Op.intBits,vI,rC,Tu,wX,aiV,aiW]; done)
    | (simp [binOp,Op.intCmp]; done)
theorem ym {op:BinOp} {t:TypeId} {x y:Operand} {a b:Value} (h1:a≠.nilIface) (h2:∀ cs,a≠.agg cs) (w:World):(eqGuard op t x y a b).run P w=.ok () w:=by
 unfold eqGuard
 cases op <;> first | rfl | (cases a <;> first | rfl | exact absurd rfl h1 | exact absurd rfl (h2 _))
theorem aaD (a b:ByteArray):(a.toList == b.toList)=decide (a=b):=by
 rw [Bool.eq_iff_iff]
 simp only [beq_iff_eq,decide_eq_true_eq,ByteArray.toList_eq]
 exact ⟨fun h=>ByteArray.ext (Array.toList_inj.mp h),fun h=>h ▸ rfl⟩
theorem Yq {t:TypeId} (hu:P.underlying t=some .bool) (a b:Bool) (w:World):(Op.equal t (.bool a) (.bool b)).run P w=.ok (a == b) w:=by
 have h:∀ d:Nat,(Op.equalIn (d+1) t (.bool a) (.bool b)).run P w=.ok (a == b) w:=fun d=>by simp only [Op.equalIn,Sem.run_bind,run_underlying hu,Result.andThen_ok]; rfl
 exact h 9999
theorem XT {t e:TypeId} (hu:P.underlying t=some (.slice e)) (p:Option Addr) (n c n' c':Nat) (w:World):(Op.equal t (.slice p n c) (.slice none n' c')).run P w=.ok p.isNone w:=by
 have h:∀ d:Nat,(Op.equalIn (d+1) t (.slice p n c) (.slice none n' c')).run P w=.ok p.isNone w:=fun d=>by
  simp only [Op.equalIn,Sem.run_bind,run_underlying hu,Result.andThen_ok]; cases p <;> rfl
 exact h 9999
theorem YL {t e:TypeId} (hu:P.underlying t=some (.pointer e)) (p:Option Addr) (w:World):(Op.equal t (.pointer p) (.pointer none)).run P w=.ok p.isNone w:=by
 have h:∀ d:Nat,(Op.equalIn (d+1) t (.pointer p) (.pointer none)).run P w=.ok p.isNone w:=fun d=>by
  simp only [Op.equalIn,Sem.run_bind,run_underlying hu,Result.andThen_ok]; cases p <;> rfl
 exact h 9999
theorem YM {t k e:TypeId} (hu:P.underlying t=some (.map k e)) (p:Option Nat) (w:World):(Op.equal t (.map p) (.map none)).run P w=.ok p.isNone w:=by
 have h:∀ d:Nat,(Op.equalIn (d+1) t (.map p) (.map none)).run P w=.ok p.isNone w:=fun d=>by
  simp only [Op.equalIn,Sem.run_bind,run_underlying hu,Result.andThen_ok]; cases p <;> rfl
 exact h 9999
theorem YN {op:BinOp} {t:TypeId} {a b v:Value} (h:CV P op t a b=some v) (x y:Operand) (w:World) :
  (do eqGuard op t x y a b; binOp op t a b:Sem Value).run P w=.ok v w:=by
 unfold CV at h
 split at h
 ·rw [Sem.run_bind,ym (by simp) (by simp)]; exact YK h t w
 ·rename_i a b
  rw [Sem.run_bind,ym (by simp) (by simp),Result.andThen_ok]
  split at h
  ·rename_i hu; cases h; show (Op.equal _ _ _ >>= _).run P w=_; rw [Sem.run_bind,Yq hu]; rfl
  ·rename_i hu; cases h; show (Op.equal _ _ _ >>= _).run P w=_; rw [Sem.run_bind,Yq hu]; rfl
  ·cases h
 ·rename_i a b
  rw [Sem.run_bind,ym (by simp) (by simp),Result.andThen_ok]
  split at h
  ·cases h; simp only [binOp,Op.stringOp,aaD]; rfl
  ·cases h; simp only [binOp,Op.stringOp,aaD]; rfl
  ·cases h
 ·rename_i p n c n' c'
  rw [Sem.run_bind,ym (by simp) (by simp),Result.andThen_ok]
  split at h
  ·rename_i hu; cases h; show (Op.equal _ _ _ >>= _).run P w=_; rw [Sem.run_bind,XT hu]; rfl
  ·rename_i hu; cases h; show (Op.equal _ _ _ >>= _).run P w=_; rw [Sem.run_bind,XT hu]; rfl
  ·cases h
 ·rename_i p
  rw [Sem.run_bind,ym (by simp) (by simp),Result.andThen_ok]
  split at h
  ·rename_i hu; cases h; show (Op.equal _ _ _ >>= _).run P w=_; rw [Sem.run_bind,YL hu]; rfl
  ·rename_i hu; cases h; show (Op.equal _ _ _ >>= _).run P w=_; rw [Sem.run_bind,YL hu]; rfl
  ·cases h
 ·rename_i p
  rw [Sem.run_bind,ym (by simp) (by simp),Result.andThen_ok]
  split at h
  ·rename_i hu; cases h; show (Op.equal _ _ _ >>= _).run P w=_; rw [Sem.run_bind,YM hu]; rfl
  ·rename_i hu; cases h; show (Op.equal _ _ _ >>= _).run P w=_; rw [Sem.run_bind,YM hu]; rfl
  ·cases h
 ·cases h
theorem ajx:∀ (xs:List Value) (off:Nat) (cells:Array Value),off+xs.length≤cells.size→
  (xs.toArray.zipIdx.foldl (fun cs (c,j)=>cs.setIfInBounds (off+j) c) cells)=⟨Ft off xs cells.toList⟩:=by
 intro xs off cells h
 have key:∀ (xs:List Value) (j:Nat) (cells:Array Value),off+j+xs.length≤cells.size→
   ((xs.zipIdx j).foldl (fun (cs:Array Value) (p:Value×Nat)=>cs.setIfInBounds (off+p.2) p.1) cells)=⟨Ft (off+j) xs cells.toList⟩:=by
  intro xs
  induction xs with
  | nil=>intro j cells _; simp [Ft]
  | cons x r ih=>
   intro j cells h
   simp only [List.length_cons] at h
   simp only [List.zipIdx_cons,List.foldl_cons]
   rw [ih (j+1) _ (by simp; omega)]
   have cI:off+j<cells.toList.length:=by simp; omega
   congr 1
   simp only [Ft,Array.toList_setIfInBounds,List.length_cons]
   rw [show off+(j+1)=off+j+1 by omega,List.take_succ_eq_append_getElem (by simpa using cI)]
   simp only [List.getElem_set_self,List.take_set_of_le (Nat.le_refl _),List.append_assoc,List.cons_append,List.nil_append]
   rw [List.drop_set_of_lt (by omega)]
   congr 4
   omega
 have:=key xs 0 cells (by simpa using h)
 rw [← Array.foldl_toList,Array.toList_zipIdx]
 exact this
theorem J6 (place:Nat→Option (Nat×Nat)):∀ (ps:List (Nat×Value)) (cells:List Value) {out:List Value},C7 place cells ps=some out→Instr.fill place ⟨cells⟩ ps=some ⟨out⟩
 | [],_,_,h=>by cases h; rfl
 | (i,v) :: r,cells,out,h=>by
  simp only [C7] at h
  simp only [Instr.fill]
  cases hp:place i with
  | none=>rw [hp] at h; cases h
  | some os=>
   obtain ⟨off,size⟩:=os
   rw [hp] at h
   simp only at h ⊢
   cases hc:(Nat.beq v.cells.toList.length size && Nat.ble (off+v.cells.toList.length) cells.length) with
   | false=>rw [hc] at h; cases h
   | true=>
    rw [hc] at h
    simp only [Bool.and_eq_true,beq_eq,Nat.ble_eq,Array.length_toList] at hc
    have h1:(v.cells.size≠size || off+v.cells.size > cells.length)=false:=by
     simp only [Bool.or_eq_false_iff,decide_eq_false_iff_not]
     exact ⟨by simpa using hc.1,by omega⟩
    have h2:(decide (v.cells.size≠size) || decide (off+v.cells.size > (Array.mk cells).size))=false:=by simpa using h1
    rw [if_neg (by rw [h2]; simp)]
    have:=ajx v.cells.toList off ⟨cells⟩ (by simpa using hc.2)
    simp only [Array.toArray_toList] at this
    rw [this]
    exact J6 place r _ h
theorem RK {t:TypeId} {i:TypeInfo} (h:P.info? t=some i) (w:World):(typeInfo t).run P w=.ok i w:=by
 simp [typeInfo,program,Sem.run,h]
theorem aka {t:TypeId} (h:(P.info? t).isSome) (w:World):(Go.sizeOf t).run P w=.ok (Ev.sizeOf P t) w:=by
 cases hi:P.info? t with
 | none=>rw [hi] at h; cases h
 | some i=>simp [Go.sizeOf,RK hi,Ev.sizeOf,hi]
theorem qV {t:TypeId} (h:known P t=true) (w:World):(Go.sizeOf t).run P w=.ok (Ev.sizeOf P t) w:=aka h w
theorem RL {t:TypeId} (h:vq P t=true) (w:World):∃ v,(zeroValue t).run P w=.ok v w∧v.cells.toList=zc P t∧(zeroValue t=zeroValue t):=by
 unfold vq at h
 split at h
 ·rename_i i hi
  cases hz:i.zero with
  | none=>rw [hz] at h; cases h
  | some v=>exact ⟨v,by simp [zeroValue,RK hi,hz],by simp [zc,hi,hz],rfl⟩
 ·cases h
theorem Xq {t:TypeId} (h:vq P t=true) (w:World) {β:Type} (f:Value→Sem β):∃ v,v.cells=⟨zc P t⟩∧(zeroValue t >>= f).run P w=(f v).run P w:=by
 obtain ⟨v,h1,h2,_⟩:=RL (P:=P) h w
 exact ⟨v,Array.ext' h2,by rw [Sem.run_bind,h1]; rfl⟩
theorem Zp {α β:Type} {f:α→Sem β} {g:α→β}:∀ {l:List α},(∀ x∈l,∀ w,(f x).run P w=.ok (g x) w)→∀ w,(l.mapM f).run P w=.ok (l.map g) w
 | [],_,w=>rfl
 | x :: r,h,w=>by
  rw [List.mapM_cons,Sem.run_bind,h x List.mem_cons_self,Result.andThen_ok,Sem.run_bind,Zp (fun y hy=>h y (List.mem_cons_of_mem _ hy))]
  rfl
theorem ah5 {α β:Type} {f:α→Sem β} {g:α→β} {xs:Array α} (h:∀ x∈xs.toList,∀ w,(f x).run P w=.ok (g x) w) (w:World):(xs.mapM f).run P w=.ok (xs.map g) w:=by
 rw [Array.mapM_eq_mapM_toList,Sem.run_map,Zp h]
 simp only [Result.andThen_ok]
 congr 1
 apply Array.ext'
 simp
theorem XU:∀ {fs:List Field} {pl:List (Nat×Nat)},placesOf P fs=some pl→(∀ f∈fs,known P f.type=true)∧pl=fs.map fun f=>(f.offset,Ev.sizeOf P f.type)
 | [],_,h=>by cases h; exact ⟨fun _ h=>(by cases h),rfl⟩
 | f :: r,pl,h=>by
  simp only [placesOf] at h
  cases hk:known P f.type with
  | false=>rw [hk] at h; cases h
  | true=>
   rw [hk] at h
   simp only [cond_true] at h
   split at h
   ·rename_i l hl
    cases h
    obtain ⟨h1,h2⟩:=XU hl
    refine ⟨fun x hx=>?_,by rw [h2]; rfl⟩
    cases hx with
    | head=>exact hk
    | tail _ hx=>exact h1 x hx
   ·cases h
theorem akb {t:TypeId} {ps:List (Nat×Value)} {v:Value} (h:Fu P t ps=some v) (w:World):(Instr.build t ⟨ps⟩).run P w=.ok v w:=by
 unfold Fu at h
 unfold Instr.build
 split at h
 ·rename_i fs hu
  cases hz:vq P t with
  | false=>rw [hz] at h; cases h
  | true=>
   rw [hz] at h
   simp only [cond_true] at h
   split at h
   ·rename_i pl vS
    split at h
    ·rename_i cs gN
     cases h
     obtain ⟨hk,an4⟩:=XU vS
     obtain ⟨z,vT,uw⟩:=Xq hz w (P:=P) (β:=Value) (fun z0=>do
      match ← underlying t with
      | .struct fields=>
       let places ← fields.mapM fun f=>do pure (f.offset,← Go.sizeOf f.type)
       let some cells:=Instr.fill (places[·]?) z0.cells ps | stuck "build: no such field, or a part of the wrong size"
       pure (.agg cells)
      | .array _ elem=>
       let size ← Go.sizeOf elem
       let some cells:=Instr.fill (fun i=>some (i * size,size)) z0.cells ps | stuck "build: a part of the wrong size"
       pure (.agg cells)
      | _=>stuck "build: struct or array type expected")
     refine Eq.trans ?_ (uw.trans ?_)
     ·rfl
     ·rw [Sem.run_bind,run_underlying hu,Result.andThen_ok]
      simp only []
      rw [Sem.run_bind,ah5 (g:=fun f=>(f.offset,Ev.sizeOf P f.type)) (fun f hf w=>by simp [qV (hk f hf)]),Result.andThen_ok]
      have hf:Instr.fill (fun x=>(fs.map fun f=>(f.offset,Ev.sizeOf P f.type))[x]?) z.cells ps=some ⟨cs⟩:=by
       rw [vT]
       refine J6 _ ps _ ?_
       rw [← gN,an4]
       congr 1
       funext i
       simp
      rw [hf]
      rfl
    ·cases h
   ·cases h
 ·rename_i n e hu
  cases hz:(vq P t && known P e) with
  | false=>rw [hz] at h; cases h
  | true=>
   rw [hz] at h
   simp only [Bool.and_eq_true] at hz
   simp only [cond_true] at h
   split at h
   ·rename_i cs gN
    cases h
    obtain ⟨z,vT,uw⟩:=Xq hz.1 w (P:=P) (β:=Value) (fun z0=>do
      match ← underlying t with
      | .struct fields=>
       let places ← fields.mapM fun f=>do pure (f.offset,← Go.sizeOf f.type)
       let some cells:=Instr.fill (places[·]?) z0.cells ps | stuck "build: no such field, or a part of the wrong size"
       pure (.agg cells)
      | .array _ elem=>
       let size ← Go.sizeOf elem
       let some cells:=Instr.fill (fun i=>some (i * size,size)) z0.cells ps | stuck "build: a part of the wrong size"
       pure (.agg cells)
      | _=>stuck "build: struct or array type expected")
    refine Eq.trans ?_ (uw.trans ?_)
    ·rfl
    ·rw [Sem.run_bind,run_underlying hu,Result.andThen_ok]
     simp only []
     rw [Sem.run_bind,qV hz.2,Result.andThen_ok]
     have hf:Instr.fill (fun i=>some (i * Ev.sizeOf P e,Ev.sizeOf P e)) z.cells ps=some ⟨cs⟩:=by
      rw [vT]
      exact J6 _ ps _ gN
     rw [hf]
     rfl
   ·cases h
 ·cases h
end Go.Ev
end
section
set_option linter.unusedVariables false
set_option linter.unusedSimpArgs false
namespace Go.Ev
open Go
variable {P:Program}
theorem JB {t:TypeId} {u:TypeDesc} (h:P.underlying t=some u) (w:World):(isAgg t).run P w=.ok (vB P t) w:=by
 unfold vB
 rw [h]
 cases u <;> simp [isAgg,run_underlying h]
theorem akc {t:TypeId} {x v:Value} {f:Nat} (h:SL P t x f=some v) (w:World):(Instr.field t x f).run P w=.ok v w:=by
 unfold SL at h
 split at h
 ·rename_i cs
  split at h
  ·rename_i fs hu
   split at h
   ·rename_i fd hf
    cases hk:(known P fd.type && SK P fd.type) with
    | false=>rw [hk] at h; cases h
    | true=>
     rw [hk] at h
     simp only [Bool.and_eq_true] at hk
     simp only [cond_true] at h
     unfold Instr.field
     rw [Sem.run_bind,run_underlying hu,Result.andThen_ok]
     simp only []
     have Gx:fs[f]? = some fd:=by simpa using hf
     rw [Gx]
     simp only []
     rw [Sem.run_bind]
     simp only [asAgg,Sem.run_pure,Result.andThen_ok]
     unfold part
     rw [Sem.run_bind]
     cases hu2:P.underlying fd.type with
     | none=>
      have:=hk.2
      simp [SK,hu2] at this
     | some u=>
      rw [JB hu2,Result.andThen_ok]
      cases ha:vB P fd.type with
      | true=>
       rw [ha] at h
       cases h
       simp only [if_true]
       rw [Sem.run_bind,qV hk.1]
       simp only [Result.andThen_ok,Sem.run_pure]
       congr 2
       apply Array.ext'
       simp [Array.toList_extract,List.extract_eq_take_drop]
      | false=>
       rw [ha] at h
       simp only [cond_false] at h
       have h':cs[fd.offset]? = some v:=by simpa using h
       simp [h']
   ·cases h
  ·cases h
 ·cases h
theorem agT {a:Addr} {f:Field} (hk:known P f.type=true) (hs:Nat.beq (Ev.sizeOf P f.type) 0=false) (w:World):(fieldPlace a f).run P w=.ok (a.add f.offset) w:=by
 unfold fieldPlace
 rw [Sem.run_bind,qV hk,Result.andThen_ok,if_neg (gC.1 hs)]
 rfl
theorem aaE (k:IntKind):∀ (r:List Value) (x:Int) {v:Value},pM.Kq k x r=some v→∀ w,((r.foldlM Builtin.min2 (.int k x):Sem Value)).run P w=.ok v w
 | [],x,v,h,w=>by cases h; rfl
 | y :: r,x,v,h,w=>by
  cases y with
  | int k' y=>
   simp only [pM.Kq] at h
   rw [List.foldlM_cons,Sem.run_bind]
   simp only [Builtin.min2,Sem.run_pure,Result.andThen_ok]
   have:(if y<x then y else x)=min x y:=by omega
   rw [this]
   exact aaE k r _ h w
  | _=>cases h
theorem aaF (k:IntKind):∀ (r:List Value) (x:Int) {v:Value},pM.Ks k x r=some v→∀ w,((r.foldlM Builtin.max2 (.int k x):Sem Value)).run P w=.ok v w
 | [],x,v,h,w=>by cases h; rfl
 | y :: r,x,v,h,w=>by
  cases y with
  | int k' y=>
   simp only [pM.Ks] at h
   rw [List.foldlM_cons,Sem.run_bind]
   simp only [Builtin.max2,Sem.run_pure,Result.andThen_ok]
   have:(if y > x then y else x)=max x y:=by omega
   rw [this]
   exact aaF k r _ h w
  | _=>cases h
theorem aaG {ρ:Operand→Option Value} {e:Operand→Value} (hr:sM ρ e) (o:Oper) {v:Value} (h:pM P ρ o.op=some v) (w:World) :
  (execOp e o).run P w=.ok (.value v) w:=by
 obtain ⟨dst,op,ty,ps,af,gd⟩:=o
 simp only at h
 unfold pM at h
 split at h
 ·rw [← hr _ _ h]; rfl
 ·rw [← hr _ _ h]; rfl
 ·rename_i op t x y yt
  split at h
  ·rename_i a b ha hb
   have:=YN h x y w
   rw [← hr _ _ ha,← hr _ _ hb] at this
   simp only [execOp]
   rw [Sem.run_bind,this]
   rfl
  ·cases h
 ·rename_i op t x
  split at h
  ·rename_i b hb; cases h; simp only [execOp,hr _ _ hb]; rfl
  ·rename_i k n hb; cases h; simp only [execOp,hr _ _ hb]; rfl
  ·rename_i k n hb; cases h; simp only [execOp,hr _ _ hb]; rfl
  ·cases h
 ·rename_i s d x
  split at h
  ·rename_i u k k0 n hs hd hx
   cases h
   simp only [execOp,hr _ _ hx,convert]
   rw [Sem.run_bind,Sem.run_bind,run_underlying hs,Result.andThen_ok,Sem.run_bind,run_underlying hd,Result.andThen_ok]
   rfl
  ·rename_i b hs hd hx
   cases h
   simp only [execOp,hr _ _ hx,convert]
   rw [Sem.run_bind,Sem.run_bind,run_underlying hs,Result.andThen_ok,Sem.run_bind,run_underlying hd,Result.andThen_ok]
   rfl
  ·cases h
 ·rename_i t x
  split at h
  ·cases h
  ·rename_i u hni hu
   cases hx:ρ x with
   | none=>rw [hx] at h; cases h
   | some v0=>
    rw [hx] at h; cases h
    simp only [execOp,hr _ _ hx,Instr.makeInterface]
    rw [Sem.run_bind,Sem.run_bind,run_underlying hu,Result.andThen_ok]
    cases u <;> first | rfl | exact (hni _ rfl).elim
  ·cases h
 ·rename_i fn first cap
  split at h
  ·rename_i va vb ha hb
   cases h
   simp only [execOp,vm hr ha,vm hr hb]; rfl
  ·cases h
 ·rename_i t pts
  split at h
  ·rename_i vs hv
   simp only [execOp]
   rw [YJ hr hv,Sem.run_bind,akb h]; rfl
  ·cases h
 ·rename_i t x f
  split at h
  ·rename_i v0 hx
   simp only [execOp,hr _ _ hx]
   rw [Sem.run_bind,akc h]; rfl
  ·cases h
 ·rename_i x i
  split at h
  ·rename_i vs hx
   simp only [execOp,hr _ _ hx,Instr.extract]
   have h':vs[i]? = some v:=by simpa using h
   rw [h']; rfl
  ·cases h
 ·rename_i t x f
  split at h
  ·rename_i a hx
   split at h
   ·rename_i fs hu
    split at h
    ·rename_i fd hf
     cases hc:(Nat.beq (Ev.sizeOf P fd.type) 0 || !known P fd.type) with
     | true=>rw [hc] at h; cases h
     | false=>
      rw [hc] at h; cases h
      simp only [Bool.or_eq_false_iff,Bool.not_eq_false'] at hc
      have Gx:fs[f]? = some fd:=by simpa using hf
      simp only [execOp,hr _ _ hx,Instr.fieldAt]
      rw [Sem.run_bind,Sem.run_bind,run_underlying hu,Result.andThen_ok]
      simp only [Gx]
      rw [Sem.run_bind]
      simp only [Instr.sureAddr,Sem.run_pure,Result.andThen_ok]
      rw [Sem.run_bind,agT hc.2 hc.1]; rfl
    ·cases h
   ·cases h
  ·cases h
 ·rename_i xs zx
  split at h
  ·rename_i a n c t hv ht
   split at h
   ·rename_i e0 hu
    cases h
    have lR:=vm hr hv
    have xw:zx=#[t]:=Array.ext' ht
    simp only [execOp,resolve,lR,invoke,Sem.run_bind,Sem.run_pure,Result.andThen_ok,builtin,Builtin.len_,xw]
    simp [run_underlying hu,goInt]
   ·cases h
  ·rename_i b t hv ht
   split at h
   ·rename_i hu
    cases h
    have lR:=vm hr hv
    have xw:zx=#[t]:=Array.ext' ht
    simp only [execOp,resolve,lR,invoke,Sem.run_bind,Sem.run_pure,Result.andThen_ok,builtin,Builtin.len_,xw]
    simp [run_underlying hu,goInt]
   ·cases h
  ·rename_i x0 t _ _ hv ht
   split at h
   ·rename_i n e0 hu
    cases h
    have lR:=vm hr hv
    have xw:zx=#[t]:=Array.ext' ht
    simp only [execOp,resolve,lR,invoke,Sem.run_bind,Sem.run_pure,Result.andThen_ok,builtin,Builtin.len_,xw]
    simp [run_underlying hu,goInt]
   ·cases h
  ·cases h
 ·rename_i xs zx
  split at h
  ·rename_i a n c t hv ht
   split at h
   ·rename_i e0 hu
    cases h
    have lR:=vm hr hv
    have xw:zx=#[t]:=Array.ext' ht
    simp only [execOp,resolve,lR,invoke,Sem.run_bind,Sem.run_pure,Result.andThen_ok,builtin,Builtin.cap_,xw]
    simp [run_underlying hu,goInt]
   ·cases h
  ·cases h
 ·rename_i xs zx
  split at h
  ·rename_i k x r hv
   have lR:=vm hr hv
   simp only [execOp,resolve,lR,invoke,Sem.run_bind,Sem.run_pure,Result.andThen_ok,builtin,Builtin.min_]
   rw [aaE k r x h]; rfl
  ·cases h
 ·rename_i xs zx
  split at h
  ·rename_i k x r hv
   have lR:=vm hr hv
   simp only [execOp,resolve,lR,invoke,Sem.run_bind,Sem.run_pure,Result.andThen_ok,builtin,Builtin.max_]
   rw [aaF k r x h]; rfl
  ·cases h
 ·cases h
end Go.Ev
end
section
set_option linter.unusedVariables false
set_option linter.unusedSimpArgs false
namespace Go.Ev
open Go
variable {P:Program}
def uh (P:Program) (e:Operand→Value) (o:Oper) (w:World) (K:Value→World→Prop):Prop:=
 ∃ v,(∀ w',(execOp e o).run P w'=.ok (.value v) w')∧K v w
theorem uh.pM {ρ:Operand→Option Value} {e:Operand→Value} (hr:sM ρ e) {o:Oper} {w:World} {K:Value→World→Prop}
  (h:match Ev.pM P ρ o.op with | some v=>K v w | none=>False):uh P e o w K:=by
 split at h
 ·rename_i v hv; exact ⟨v,fun w'=>aaG hr o hv w',h⟩
 ·exact h.elim
theorem FG {nw:Bool} {k:IntKind} {z:Int} {K:Int→Prop} (h:ar nw k z K):K (k.wrap z):=by
 unfold ar at h
 cases hc:(nw && S3 k) with
 | false=>rw [hc] at h; exact h
 | true=>
  rw [hc] at h
  simp only [Bool.and_eq_true] at hc
  have hk:k=.i64:=by have:=hc.2; cases k <;> simp_all [S3]
  subst hk
  have:IntKind.i64.wrap z=z:=by
   have h1:=h.1
   unfold aH at h1
   simp [IntKind.wrap,IntKind.bits,IntKind.signed]
   split <;> omega
  rw [this]; exact h.2
theorem aaH {y:Int} {A:Prop} (h:pos y A):0<y∧A:=by
 unfold pos at h
 split at h
 ·exact ⟨by simp only [Int.ofNat_eq_natCast]; omega,h⟩
 ·exact h
theorem aaI {y:Int} {A:Prop} (h:lD y A):0≤y∧A:=by
 unfold lD at h
 split at h
 ·exact ⟨by simp only [Int.ofNat_eq_natCast]; omega,h⟩
 ·exact h
theorem P2 {k:IntKind} {z:Int} (h0:0≤z) (h1:z≤k.max):k.wrap z=z:=by
 cases k <;> simp only [IntKind.max,IntKind.signed,IntKind.bits] at h1 <;> simp only [IntKind.wrap,IntKind.bits,IntKind.signed] <;> simp at h1 ⊢ <;> omega
theorem amr {m:Mode} {op:BinOp} {k k':IntKind} {x y:Int} {K:Value→Prop} (h:S6 m op k x k' y K) (t:TypeId) :
  ∃ v,(∀ w:World,(binOp op t (.int k x) (.int k' y)).run P w=.ok v w)∧K v:=by
 have kk:∀ {A:Prop},cond (decide (k=k')) A False→k=k'∧A:=fun {A} hA=>by
  cases hk:decide (k=k') with
  | true=>rw [hk] at hA; exact ⟨of_decide_eq_true hk,hA⟩
  | false=>rw [hk] at hA; exact hA.elim
 have rest:(match Fs op k x k' y with | some v=>K v | none=>False)→∃ v,(∀ w:World,(binOp op t (.int k x) (.int k' y)).run P w=.ok v w)∧K v:=fun h=>by
  split at h
  ·rename_i v hv; exact ⟨v,fun w=>YK hv t w,h⟩
  ·exact h.elim
 cases op <;> simp only [S6] at h
 case add=>
  obtain ⟨e,h2⟩:=kk h
  subst e
  exact ⟨_,fun w=>by simp [binOp,Op.intArith],FG h2⟩
 case sub=>
  obtain ⟨e,h2⟩:=kk h
  subst e
  exact ⟨_,fun w=>by simp [binOp,Op.intArith],FG h2⟩
 case mul=>
  obtain ⟨e,h2⟩:=kk h
  subst e
  exact ⟨_,fun w=>by simp [binOp,Op.intArith],FG h2⟩
 case quo=>
  obtain ⟨e,h2⟩:=kk h
  subst e
  clear h
  obtain ⟨hy,h⟩:=aaH h2
  have gp:¬ y=0:=by omega
  cases hd:m.dv with
  | true=>
   rw [hd] at h
   obtain ⟨⟨h0,h1⟩,hK⟩:=h
   refine ⟨_,fun w=>?_,hK⟩
   have e1:x.tdiv y=x / y:=Int.tdiv_eq_ediv_of_nonneg h0
   have e2:k.wrap (x / y)=x / y:=P2 (Int.ediv_nonneg h0 (by omega)) (Int.le_trans (Int.ediv_le_self y h0) h1)
   simp [binOp,Op.intDiv,gp,e1,e2]
  | false=>
   rw [hd] at h
   exact ⟨_,fun w=>by simp [binOp,Op.intDiv,gp],h⟩
 case rem=>
  obtain ⟨e,h2⟩:=kk h
  subst e
  clear h
  obtain ⟨hy,h⟩:=aaH h2
  have gp:¬ y=0:=by omega
  cases hd:m.dv with
  | true=>
   rw [hd] at h
   obtain ⟨h0,hK⟩:=h
   refine ⟨_,fun w=>?_,hK⟩
   have e1:x.tmod y=x % y:=Int.tmod_eq_emod_of_nonneg h0
   simp [binOp,Op.intDiv,gp,e1]
  | false=>
   rw [hd] at h
   exact ⟨_,fun w=>by simp [binOp,Op.intDiv,gp],h⟩
 case shl=>obtain ⟨hy,h⟩:=aaI h; exact ⟨_,fun w=>by simp [binOp,Op.shift,show ¬ y<0 by omega,shl],h⟩
 case shr=>obtain ⟨hy,h⟩:=aaI h; exact ⟨_,fun w=>by simp [binOp,Op.shift,show ¬ y<0 by omega,shr],h⟩
 all_goals exact rest h
theorem ajy {op:BinOp} {t:TypeId} {x y:Operand} {k:IntKind} {n:Int} {b:Value} (w:World):(eqGuard op t x y (.int k n) b).run P w=.ok () w:=ym (by simp) (by simp) w
theorem YO {t:TypeId} {ms:Array (String×TypeId)} (hu:P.underlying t=some (.interface ms)) (a:Value) (K:Bool→Prop) (h:dF a K) :
  ∃ z,(∀ w:World,(Op.equal t a .nilIface).run P w=.ok z w)∧K z:=by
 cases a <;> simp only [dF] at h <;> first | exact h.elim | skip
 ·rename_i t' v
  refine ⟨false,fun w=>?_,h⟩
  have hh:∀ d:Nat,(Op.equalIn (d+1) t (.iface t' v) .nilIface).run P w=.ok false w:=fun d=>by simp only [Op.equalIn,Sem.run_bind,run_underlying hu,Result.andThen_ok]; rfl
  exact hh 9999
 ·refine ⟨true,fun w=>?_,h⟩
  have hh:∀ d:Nat,(Op.equalIn (d+1) t .nilIface .nilIface).run P w=.ok true w:=fun d=>by simp only [Op.equalIn,Sem.run_bind,run_underlying hu,Result.andThen_ok]; rfl
  exact hh 9999
theorem Yr {t:TypeId} {ps rs:Array TypeId} {va:Bool} (hu:P.underlying t=some (.func ps rs va)) (a:Value) (K:Bool→Prop) (h:CN a K) :
  ∃ z,(∀ w:World,(Op.equal t a .nilFunc).run P w=.ok z w)∧K z:=by
 cases a <;> simp only [CN] at h <;> first | exact h.elim | skip
 ·rename_i fn f c
  refine ⟨false,fun w=>?_,h⟩
  have hh:∀ d:Nat,(Op.equalIn (d+1) t (.func fn f c) .nilFunc).run P w=.ok false w:=fun d=>by simp only [Op.equalIn,Sem.run_bind,run_underlying hu,Result.andThen_ok]; rfl
  exact hh 9999
 ·refine ⟨true,fun w=>?_,h⟩
  have hh:∀ d:Nat,(Op.equalIn (d+1) t .nilFunc .nilFunc).run P w=.ok true w:=fun d=>by simp only [Op.equalIn,Sem.run_bind,run_underlying hu,Result.andThen_ok]; rfl
  exact hh 9999
theorem Az {e:Operand→Value} {dst:Option Nat} {op:BinOp} {t yt:TypeId} {x y:Operand} {ty:TypeId} {ps:String} {af:Array Edge} {gd:Option (Nat×Bool)} {v:Value} {w w':World}
  (h:(do eqGuard op t x y (e x) (e y); binOp op t (e x) (e y):Sem Value).run P w=.ok v w'):(execOp e ⟨dst,.binOp op t x y yt,ty,ps,af,gd⟩).run P w=.ok (.value v) w':=by
 simp only [execOp]
 rw [Sem.run_bind,h]
 rfl
theorem CX {m:Mode} {op:BinOp} {t:TypeId} {a b:Value} {w:World} {K:Value→World→Prop} {yc:Bool} (h:FE P m op t yc a b w K) (hb:∀ ys,b≠.agg ys) (x y:Operand) (hy:yc=isC y) :
  ∃ v,(∀ w':World,(do eqGuard op t x y a b; binOp op t a b:Sem Value).run P w'=.ok v w')∧K v w:=by
 have rest:(match CV P op t a b with | some v=>K v w | none=>False)→∃ v,(∀ w':World,(do eqGuard op t x y a b; binOp op t a b:Sem Value).run P w'=.ok v w')∧K v w:=fun h=>by
  split at h
  ·rename_i v hv; exact ⟨v,fun w'=>YN hv x y w',h⟩
  ·exact h.elim
 unfold FE at h
 split at h
 ·
  have Fv:yc=true→∀ w':World,(eqGuard op t x y a .nilIface).run P w'=.ok () w':=fun xx w'=>by
   have hc:∃ c,y=.const c:=by
    rw [xx] at hy
    cases y <;> first | exact ⟨_,rfl⟩ | cases hy
   obtain ⟨c,rfl⟩:=hc
   unfold eqGuard
   cases op <;> first | rfl | (cases a <;> first | rfl | (simp; done))
  split at h
  ·rename_i hu
   have xx:yc=true:=by cases yc <;> first | exact h.elim | rfl
   simp only [xx,cond_true] at h
   obtain ⟨z,h1,h2⟩:=YO hu a _ h
   refine ⟨_,fun w'=>?_,h2⟩
   rw [Sem.run_bind,Fv xx,Result.andThen_ok]
   cases a <;> simp only [dF] at h <;> first | exact h.elim | (show (Op.equal _ _ _ >>= _).run P w'=_; rw [Sem.run_bind,h1]; rfl)
  ·rename_i hu
   have xx:yc=true:=by cases yc <;> first | exact h.elim | rfl
   simp only [xx,cond_true] at h
   obtain ⟨z,h1,h2⟩:=YO hu a _ h
   refine ⟨_,fun w'=>?_,h2⟩
   rw [Sem.run_bind,Fv xx,Result.andThen_ok]
   cases a <;> simp only [dF] at h <;> first | exact h.elim | (show (Op.equal _ _ _ >>= _).run P w'=_; rw [Sem.run_bind,h1]; rfl)
  ·exact h.elim
 ·have Fv:∀ w':World,(eqGuard op t x y a .nilFunc).run P w'=.ok () w':=fun w'=>by
   unfold eqGuard
   cases op <;> first | rfl | (cases a <;> rfl)
  split at h
  ·rename_i hu
   obtain ⟨z,h1,h2⟩:=Yr hu a _ h
   refine ⟨_,fun w'=>?_,h2⟩
   rw [Sem.run_bind,Fv,Result.andThen_ok]
   cases a <;> simp only [CN] at h <;> first | exact h.elim | (show (Op.equal _ _ _ >>= _).run P w'=_; rw [Sem.run_bind,h1]; rfl)
  ·rename_i hu
   obtain ⟨z,h1,h2⟩:=Yr hu a _ h
   refine ⟨_,fun w'=>?_,h2⟩
   rw [Sem.run_bind,Fv,Result.andThen_ok]
   cases a <;> simp only [CN] at h <;> first | exact h.elim | (show (Op.equal _ _ _ >>= _).run P w'=_; rw [Sem.run_bind,h1]; rfl)
  ·exact h.elim
 ·split at h
  ·obtain ⟨v,h1,h2⟩:=amr h t (P:=P)
   refine ⟨v,fun w'=>?_,h2⟩
   rw [Sem.run_bind,ajy,Result.andThen_ok,h1]
  ·exact h.elim
 ·rename_i ys; exact absurd rfl (hb ys)
 ·split at h
  ·rename_i s1 _
   refine ⟨_,fun w'=>?_,h.2⟩
   rw [Sem.run_bind,ym (by simp) (by simp),Result.andThen_ok]
   simp only [binOp,Op.stringOp]
   rw [if_neg (by simp only [IntKind.max,IntKind.signed,IntKind.bits]; have:=h.1; simp; omega)]
   rfl
  ·exact rest h
  ·exact h.elim
 ·exact rest h
theorem aaJ {i:Int} {n:Nat} {A:Prop} (h:idx i n A):0≤i∧i<(n:Int)∧A:=⟨h.1.1,h.1.2,h.2⟩
theorem ams {b:ByteArray} {i:Int} (h0:0≤i) (h1:i<(b.size:Int)):∃ u,b[i.toNat]? = some u∧(u.toNat:Int)=vR b i:=by
 have cI:i.toNat<b.size:=by omega
 refine ⟨b[i.toNat],?_,?_⟩
 ·simp [cI]
 ·unfold vR
  have h2:i.toNat<b.data.toList.length:=by simpa using cI
  rw [List.getD,List.getElem?_eq_getElem h2]
  rfl
theorem qO {k:IntKind} {i:Int} {y:Nat} {c:BoundsCode} (h0:0≤i) (h1:i≤(y:Int)) (w:World):(Instr.sliceBound (.int k i) y c).run P w=.ok i.toNat w:=by
 simp [Instr.sliceBound,asIntOf,h0,h1]
theorem Z4 {e:TypeId} {x:ah} {lo hi mx:Option Value} {K:ah→Prop} (h:KQ P e x lo hi mx K) (b:Bool) :
  ∃ s:ah,K s∧∃ l hh m,(∀ w:World,(Instr.sliceBounds b x.n x.c lo hi mx).run P w=.ok (l,hh,m) w)∧s.n=hh - l∧s.c=m - l∧s.a=(if m=l then x.a else x.a.map (·.add (l * Ev.sizeOf P e))):=by
 have AZ:∀ a:Option Addr,a.map (·.add (0 * Ev.sizeOf P e))=a:=fun a=>by cases a <;> simp [Addr.add]
 unfold KQ at h
 split at h
 ·refine ⟨x,h,0,x.n,x.c,fun w=>by simp [Instr.sliceBounds],rfl,rfl,?_⟩
  rw [AZ]; split <;> rfl
 ·rename_i k hh
  obtain ⟨⟨h0,h1⟩,h⟩:=h
  refine ⟨_,h,0,hh.toNat,x.c,fun w=>?_,rfl,rfl,?_⟩
  ·cases b <;> simp [Instr.sliceBounds,qO h0 h1]
  ·rw [AZ]; split <;> rfl
 ·rename_i k l
  obtain ⟨⟨h0,h1⟩,h⟩:=h
  refine ⟨_,h,l.toNat,x.n,x.c,fun w=>?_,rfl,rfl,rfl⟩
  cases b <;> simp [Instr.sliceBounds,qO h0 h1]
 ·rename_i k l k' hh
  obtain ⟨⟨h0,h1,h2⟩,h⟩:=h
  refine ⟨_,h,l.toNat,hh.toNat,x.c,fun w=>?_,rfl,rfl,rfl⟩
  have h3:l≤((hh.toNat:Nat):Int):=by omega
  cases b <;> simp [Instr.sliceBounds,qO (show 0≤hh by omega) h2,qO h0 h3]
 ·rename_i k hh k' mm
  obtain ⟨⟨h0,h1,h2⟩,h⟩:=h
  refine ⟨_,h,0,hh.toNat,mm.toNat,fun w=>?_,rfl,rfl,?_⟩
  ·have h3:hh≤((mm.toNat:Nat):Int):=by omega
   cases b <;> simp [Instr.sliceBounds,qO (show 0≤mm by omega) h2,qO h0 h3]
  ·rw [AZ]; split <;> rfl
 ·rename_i k l k' hh k2 mm
  obtain ⟨⟨h0,h1,h2,h4⟩,h⟩:=h
  refine ⟨_,h,l.toNat,hh.toNat,mm.toNat,fun w=>?_,rfl,rfl,rfl⟩
  have h3:hh≤((mm.toNat:Nat):Int):=by omega
  have h5:l≤((hh.toNat:Nat):Int):=by omega
  cases b <;> simp [Instr.sliceBounds,qO (show 0≤mm by omega) h4,qO (show 0≤hh by omega) h3,qO h0 h5]
 ·exact h.elim
theorem wJ {ρ:Operand→Option Value} {e:Operand→Value} (hr:sM ρ e) {x:Option Operand} {v:Option Value} (h:CW ρ x=some v):x.map e=v:=by
 cases x with
 | none=>simp only [CW] at h; cases h; rfl
 | some y=>
  simp only [CW] at h
  split at h
  ·rename_i u hu; cases h; rw [Option.map_some,hr _ _ hu]
  ·cases h
end Go.Ev
end
section
set_option linter.unusedVariables false
set_option linter.unusedSimpArgs false
namespace Go.Ev
open Go
variable {P:Program}
theorem YP {s:Sh} {a:Addr} {w:World} {K:Value→Prop} (h:Ko s a w K):∃ v,w.cell? a=some v∧K v:=by
 cases s <;> simp only [Ko,au,nq,dR,bO,ay,ldV] at h
 all_goals first
  | (obtain ⟨n,h1,h2⟩:=h; exact ⟨_,h1,h2⟩)
theorem Ys:∀ {l:List Sh} {a:Addr} {i:Nat} {w:World} {K:List Value→Prop},J0 l a i w K→
  ∃ vs,vs.length=l.length∧(∀ j v,vs[j]? = some v→w.cell? (a.add (i+j))=some v)∧K vs
 | [],a,i,w,K,h=>⟨[],rfl,fun j v hj=>by simp at hj,h⟩
 | s :: r,a,i,w,K,h=>by
  simp only [J0] at h
  obtain ⟨v,h1,h2⟩:=YP h
  obtain ⟨vs,h3,h4,h5⟩:=Ys h2
  refine ⟨v :: vs,by simp [h3],fun j u hj=>?_,h5⟩
  cases j with
  | zero=>simp at hj; subst hj; exact h1
  | succ j=>rw [show i+(j+1)=i+1+j by omega]; exact h4 j u (by simpa using hj)
theorem run_loadCells (a:Addr) (w:World):∀ (cs:List Value) (i:Nat) (acc:Array Value),(∀ j v,cs[j]? = some v→w.cell? (a.add (i+j))=some v)→
  (loadCellsFrom a i cs.length acc).run P w=.ok (acc ++ cs.toArray) w
 | [],i,acc,_=>by simp [loadCellsFrom]
 | v :: r,i,acc,h=>by
  simp only [List.length_cons,loadCellsFrom]
  rw [Sem.run_bind]
  have h0:w.cell? (a.add i)=some v:=by simpa using h 0 v (by simp)
  rw [show (load (a.add i)).run P w=.ok v w by simp [h0],Result.andThen_ok]
  rw [run_loadCells a w r (i+1) (acc.push v) (fun j u hj=>by rw [show i+1+j=i+(j+1) by omega]; exact h (j+1) u (by simpa using hj))]
  simp
theorem YQ {a:Addr} {n:Nat} {w w':World} (h:kept a n w w') {j:Nat} {v:Value} (hj:j<n) (hv:w.cell? (a.add j)=some v):w'.cell? (a.add j)=some v:=(h j hj).trans hv
theorem AZ (a:Addr):a.add 0=a:=by simp [Addr.add]
theorem iO {b:Bool} {A:Prop} (h:cond b A False):b=true∧A:=by cases b <;> first | exact h.elim | exact ⟨rfl,h⟩
theorem So {t:TypeId} {a:Addr} {w:World} {K:Value→Prop} (h:Du P t a w K) :
  ∃ v,K v∧∀ w',kept a (Ev.sizeOf P t) w w'→(loadVar t a).run P w'=.ok v w':=by
 have row:∀ {u:TypeDesc} {vs:List Value},P.underlying t=some u→vB P t=true→known P t=true→vs.length=Ev.sizeOf P t→(∀ j v,vs[j]? = some v→w.cell? (a.add j)=some v)→
   ∀ w',kept a (Ev.sizeOf P t) w w'→(loadVar t a).run P w'=.ok (.agg ⟨vs⟩) w':=by
  intro u vs hu ha hk hl hc w' hw
  unfold loadVar
  rw [Sem.run_bind,JB hu,Result.andThen_ok,if_pos ha,Sem.run_bind,qV hk,Result.andThen_ok,Sem.run_bind]
  unfold loadCells
  have:=run_loadCells (P:=P) a w' vs 0 #[] (fun j v hj=>by
   rw [Nat.zero_add]
   have cI:j<vs.length:=(List.getElem?_eq_some_iff.1 hj).1
   exact YQ hw (by omega) (hc j v hj))
  rw [hl] at this
  rw [this]
  simp
 unfold Du at h
 split at h
 ·rename_i fs hu
  split at h
  ·rename_i l hl
   obtain ⟨hc,h⟩:=iO h
   simp only [Bool.and_eq_true,beq_eq] at hc
   obtain ⟨vs,h1,h2,h3⟩:=Ys h
   refine ⟨_,h3,row hu (by simp [vB,hu]) hc.1 (h1.trans hc.2) (fun j v hj=>?_)⟩
   have:=h2 j v hj
   rwa [Nat.zero_add] at this
  ·exact h.elim
 ·rename_i n e hu
  obtain ⟨hc,h⟩:=iO h
  obtain ⟨cs,h1,h2,h3⟩:=h
  exact ⟨_,h3,row hu (by simp [vB,hu]) hc h1 h2⟩
 ·rename_i u pN zy hu
  obtain ⟨hc,h⟩:=iO h
  obtain ⟨v,h1,h2⟩:=YP h
  refine ⟨v,h2,fun w' hw=>?_⟩
  have ha:vB P t=false:=by
   unfold vB; rw [hu]
   cases u <;> first | rfl | exact (pN _ rfl).elim | exact (pN _ _ rfl).elim | exact (zy _ rfl).elim | exact (zy _ _ rfl).elim
  have h0:w'.cell? a=some v:=by
   have:=YQ hw (j:=0) (by rw [beq_eq.1 hc]; omega) (by rw [AZ]; exact h1)
   rwa [AZ] at this
  unfold loadVar
  rw [Sem.run_bind,JB hu,Result.andThen_ok,if_neg (by simp [ha])]
  simp [h0]
 ·exact h.elim
theorem run_store {a:Addr} {v u:Value} {w:World} (h1:w.cell? a=some u) (h2:w.frozen? a=false) (h3:fW v=true):(store a v).run P w=.ok () (w.setCell a v):=by
 unfold store
 cases v <;> first | (cases h3; done) | (simp [Sem.run,h1,h2])
theorem alo {v:Value} {A:Prop} (h:abO v A):fW v=true∧A:=by
 cases v <;> first | exact ⟨rfl,h⟩ | exact h.elim
theorem abt {a:Addr} {v:Value} {w:World} {K:World→Prop} (h:st a v w K):(store a v).run P w=.ok () (w.setCell a v)∧fW v=true∧K (w.setCell a v):=by
 obtain ⟨⟨u,h1⟩,h2,h3⟩:=h
 obtain ⟨h4,h5⟩:=alo h3
 exact ⟨run_store h1 h2 h4,h4,h5⟩
theorem Yt:∀ {l:List Value} {a:Addr} {i:Nat} {w:World} {K:World→Prop},vt l a i w K→∃ w',(storeCells a l i).run P w=.ok () w'∧K w'
 | [],a,i,w,K,h=>⟨w,rfl,h⟩
 | v :: r,a,i,w,K,h=>by
  simp only [vt] at h
  obtain ⟨h1,_,h2⟩:=abt (P:=P) h
  obtain ⟨w',h3,h4⟩:=Yt h2
  refine ⟨w',?_,h4⟩
  unfold storeCells
  rw [Sem.run_bind,h1]
  exact h3
theorem Zq:∀ {l:List Value} {a:Addr} {i:Nat} {w:World},(∀ j,j<l.length→(∃ u,w.cell? (a.add (i+j))=some u)∧w.frozen? (a.add (i+j))=false)→(∀ v∈l,fW v=true)→
  (storeCells a l i).run P w=.ok () (setRow w a i l)
 | [],a,i,w,_,_=>rfl
 | v :: r,a,i,w,h,h1=>by
  obtain ⟨⟨u,h2⟩,h3⟩:=h 0 (by simp)
  rw [Nat.add_zero] at h2 h3
  unfold storeCells setRow
  rw [Sem.run_bind,run_store h2 h3 (h1 v List.mem_cons_self),Result.andThen_ok]
  refine Zq (fun j hj=>?_) (fun v hv=>h1 v (List.mem_cons_of_mem _ hv))
  obtain ⟨⟨u',h4⟩,h5⟩:=h (j+1) (by simp only [List.length_cons]; omega)
  rw [show i+(j+1)=i+1+j by omega] at h4 h5
  refine ⟨?_,by rw [World.frozen?_setCell]; exact h5⟩
  by_cases e:a.add i=a.add (i+1+j)
  ·rw [← e]; exact ⟨_,World.cell?_setCell_same _ _ _ h2⟩
  ·exact ⟨u',by rw [World.cell?_setCell_other _ _ _ _ e]; exact h4⟩
theorem ajz {v:Value} (h:fW v=true):v.cells=#[v]:=by cases v <;> first | rfl | cases h
theorem alp {t:TypeId} {a:Addr} {v:Value} {w:World} {K:World→Prop} (h:Tx P t a v w K):∃ w',(storeVar t a v).run P w=.ok () w'∧K w':=by
 unfold Tx at h
 obtain ⟨hk,h0⟩:=iO h
 clear h
 have h:=h0
 clear h0
 have go:∀ {l:List Value} {w':World},v.cells=⟨l⟩→l.length=Ev.sizeOf P t→(storeCells a l).run P w=.ok () w'→(storeVar t a v).run P w=.ok () w':=by
  intro l w' hv hl hs
  unfold storeVar
  rw [Sem.run_bind,qV hk,Result.andThen_ok,if_neg (by rw [hv]; simpa using hl)]
  rw [hv]; exact hs
 split at h
 ·split at h
  ·rename_i cs
   obtain ⟨hc,h⟩:=iO h
   obtain ⟨w',h1,h2⟩:=Yt (P:=P) h
   exact ⟨w',go (l:=cs.toList) rfl (beq_eq.1 hc) h1,h2⟩
  ·exact h.elim
 ·split at h
  ·rename_i cs
   obtain ⟨h1,h2,h3,h4⟩:=h
   refine ⟨_,go (l:=cs.toList) rfl h1 (Zq (fun j hj=>?_) h3),h4⟩
   rw [Nat.zero_add]
   exact h2 j (by omega)
  ·exact h.elim
 ·obtain ⟨hc,h⟩:=iO h
  obtain ⟨h1,h2,h3⟩:=abt (P:=P) h
  refine ⟨_,go (l:=[v]) (by rw [ajz h2]) (beq_eq.1 hc).symm ?_,h3⟩
  unfold storeCells
  rw [Sem.run_bind,AZ,h1]; rfl
 ·exact h.elim
def Out (P:Program) (e:Operand→Value) (o:Oper) (w:World) (K:Value→World→Prop):Prop:=
 (∃ v w',(execOp e o).run P w=.ok (.value v) w'∧K v w')∨(∃ w',(execOp e o).run P w=.ok .skip w'∧K undef w')∨
 (∃ f args,(execOp e o).run P w=.ok (.enter f args) w∧Calls P f args w fun x w'=>∃ v,x=.returned v∧K v w')
def KS (P:Program) (e:Operand→Value) (o:Oper) (w:World) (a:Addr) (n:Nat) (K:Value→World→Prop):Prop:=
 ∃ v,(∀ w',kept a n w w'→(execOp e o).run P w'=.ok (.value v) w')∧K v w
theorem kept_refl (a:Addr) (n:Nat) (w:World):kept a n w w:=fun _ _=>rfl
theorem KS.out {e:Operand→Value} {o:Oper} {w:World} {a:Addr} {n:Nat} {K:Value→World→Prop} (h:KS P e o w a n K):Out P e o w K:=
 let ⟨v,h1,h2⟩:=h; .inl ⟨v,w,h1 w (kept_refl a n w),h2⟩
theorem uh.reads {e:Operand→Value} {o:Oper} {w:World} {K:Value→World→Prop} (h:uh P e o w K) (a:Addr):KS P e o w a 0 K:=
 let ⟨v,h1,h2⟩:=h; ⟨v,fun w' _=>h1 w',h2⟩
theorem uh.out {e:Operand→Value} {o:Oper} {w:World} {K:Value→World→Prop} (h:uh P e o w K):Out P e o w K:=(h.reads default).out
structure Good (P:Program):Prop where
 names:∀ (f:Nat) (fn:Func),P.funcs[f]? = some fn→fn.name≠ "runtime.NumGoroutine"
 mixed:P.follows .mixedOrders=true
theorem XV (hP:Good P) {f:Nat} (hb:pH P f=true) (args:Array Value) (w:World):(callFunc f args).run P w=.ok (.enter f args) w:=by
 unfold pH at hb
 unfold callFunc
 rw [Sem.run_bind]
 simp only [program,Sem.run,Result.andThen_ok]
 split at hb
 ·rename_i fn hf
  rw [hf]
  simp only []
  have hn:(fn.name == "runtime.NumGoroutine")=false:=by simpa using hP.names f fn hf
  rw [if_neg (by simp [hn])]
  cases hbd:fn.body with
  | none=>rw [hbd] at hb; cases hb
  | some c=>rfl
 ·cases hb
theorem Yu (t:TypeId) (v:Value) (w:World):(newVar t v).run P w=.ok ⟨w.heap.size,0,none⟩ (w.alloc (.cells v.cells t)):=by
 rfl
theorem Yv (t:TypeId) (cs:Array Value) (w:World):(newRow t cs).run P w=.ok ⟨w.heap.size,0,none⟩ (w.alloc (.cells cs t)):=by
 rfl
theorem AA {s:Sem Value} {w w':World} {v:Value} (h:s.run P w=.ok v w'):((do pure (.value (← s))):Sem Next).run P w=.ok (.value v) w':=by
 rw [Sem.run_bind,h]; rfl
theorem akd {s:Sem Unit} {w w':World} (h:s.run P w=.ok () w'):((do s; pure .skip):Sem Next).run P w=.ok .skip w':=by
 rw [Sem.run_bind,h]; rfl
theorem aiX (n:Nat) (zs:List Value):((Array.range (n * zs.length)).map (fun i=>(Array.mk zs)[i % zs.length]!))=⟨oK n zs⟩:=by
 apply Array.ext'
 simp only [Array.toList_map,Array.toList_range]
 unfold oK
 induction n with
 | zero=>simp
 | succ n ih=>
  rw [Nat.succ_mul,List.range_add,List.map_append,ih,List.replicate_succ',List.flatten_append]
  congr 1
  simp only [List.map_map,List.flatten_cons,List.flatten_nil,List.append_nil]
  apply List.ext_getElem
  ·simp
  ·intro i h1 h2
   simp only [List.length_map,List.length_range] at h1
   simp only [List.getElem_map,List.getElem_range,Function.comp]
   rw [Nat.mul_comm n,Nat.mul_add_mod,Nat.mod_eq_of_lt h1]
   simp [h1]
theorem YS {t:TypeId} (h:Km P t=true) (n:Nat) (w:World):known P t=true∧∃ z0:Array Value,
  (∀ f:Array Value→Sem Value,(if n * Ev.sizeOf P t=0 then pure #[] >>= f else zeroValue t >>= fun z=>pure z.cells >>= f).run P w=(f z0).run P w)∧
  ((Array.range (n * Ev.sizeOf P t)).map (fun i=>z0[i % z0.size]!))=⟨oK n (zc P t)⟩:=by
 unfold Km at h
 simp only [Bool.and_eq_true,beq_eq] at h
 have xy:known P t=true:=by
  have:=h.1; unfold vq at this; unfold known; split at this <;> simp_all
 obtain ⟨zv,vT,uw,_⟩:=RL (P:=P) h.1 w
 refine ⟨xy,if n * Ev.sizeOf P t=0 then #[] else ⟨zc P t⟩,fun f=>?_,?_⟩
 ·split
  ·rfl
  ·rw [Sem.run_bind,vT]
   simp only [Result.andThen_ok]
   have:zv.cells=⟨zc P t⟩:=Array.ext' uw
   rw [this]; rfl
 ·by_cases h0:n * Ev.sizeOf P t=0
  ·rw [if_pos h0,h0]
   apply Array.ext'
   unfold oK
   rcases Nat.mul_eq_zero.1 h0 with h1 | h1
   ·subst h1; simp
   ·rw [h1] at h
    have:zc P t=[]:=List.length_eq_zero_iff.1 h.2
    rw [this]; simp
  ·rw [if_neg h0]
   have e:=aiX n (zc P t)
   rw [h.2] at e
   have e2:(Array.mk (zc P t)).size=Ev.sizeOf P t:=h.2
   rw [e2]; exact e
theorem Ry {s:Sh} {v:Value} {K:Value→Prop} (h:yH s v K):K v:=by
 cases s <;> simp only [yH,aF,aQ,tU,sI,aK,qy] at h <;> first | exact h | (obtain ⟨_,rfl,h⟩:=h; exact h)
theorem Rz {vs:List Value} {K:Value→List Value→Prop} (h:aD vs K):∃ v r,vs=v :: r∧K v r:=by
 cases vs with
 | nil=>exact h.elim
 | cons v r=>exact ⟨v,r,rfl,h⟩
theorem P3:∀ {l:List Sh} {vs:List Value} {K:List Value→Prop},CB l vs K→K vs
 | [],vs,K,h=>by obtain ⟨rfl,h⟩:=h; exact h
 | s :: r,vs,K,h=>by
  simp only [CB] at h
  obtain ⟨v,r',e,h2⟩:=Rz h
  subst e
  exact P3 (K:=fun vs=>K (v :: vs)) (Ry (K:=fun v=>CB r r' fun vs=>K (v :: vs)) h2)
theorem QV:∀ {l:List Sh} {vs:List Value} {K:List Value→Prop},bU.yF l vs K→K vs
 | [],vs,K,h=>by obtain ⟨rfl,h⟩:=h; exact h
 | s :: r,vs,K,h=>by
  cases s
  case cells l=>
   simp only [bU.yF] at h
   obtain ⟨v,r',e,cs,e2,h2⟩:=Rz h
   subst e; subst e2
   exact QV (K:=fun vs=>K (.agg ⟨cs⟩ :: vs)) (P3 (K:=fun cs=>bU.yF r r' fun vs=>K (.agg ⟨cs⟩ :: vs)) h2)
  all_goals
   simp only [bU.yF] at h
   obtain ⟨v,r',e,h2⟩:=Rz h
   subst e
   exact QV (K:=fun vs=>K (v :: vs)) (Ry (K:=fun v=>bU.yF r r' fun vs=>K (v :: vs)) h2)
theorem ake {s:Sh} {v:Value} {K:Value→Prop} (h:bU s v K):K v:=by
 cases s
 case cells l=>obtain ⟨cs,rfl,h⟩:=h; exact P3 h
 case K7 l=>obtain ⟨cs,rfl,h⟩:=h; exact QV h
 all_goals (simp only [bU] at h; exact Ry h)
theorem Zr {dst:Option Nat} {t:TypeId} {v:Value} {K:Value→Prop} (h:FF P dst t v K):K v:=by
 unfold FF at h
 split at h
 ·exact h
 ·split at h
  ·exact h
  ·exact ake h
section
variable {m:Mode} {ρ:Operand→Option Value} {e:Operand→Value} (hr:sM ρ e)
include hr
theorem abu {o:Oper} {w:World} {K:Value→World→Prop} (hc:cls P o.op=0) (h:AX P m ρ o w K):uh P e o w K:=by
 obtain ⟨dst,op,ty,ps,af,gd⟩:=o
 simp only at hc
 unfold AX at h
 simp only at h
 split at h
 ·
  rename_i op t x y yt
  split at h
  ·rename_i a b ha hb
   have j4:∀ ys,b≠.agg ys:=fun ys e1=>by
    subst e1
    simp only [cls] at hc
    unfold FE at h
    simp only at h
    split at h
    ·split at h
     ·rename_i hu; rw [hu] at hc; cases hc
     ·exact h
    ·exact h
   obtain ⟨v,h1,h2⟩:=CX h j4 x y rfl
   rw [← hr _ _ ha,← hr _ _ hb] at h1
   exact ⟨v,fun w'=>Az (h1 w'),h2⟩
  ·exact h.elim
 ·
  rename_i t x
  split at h
  ·rename_i k n hx
   exact ⟨_,fun w'=>by simp only [execOp,hr _ _ hx]; rfl,FG h⟩
  ·exact h.elim
 ·
  rename_i s d x
  split at h
  ·rename_i k0 k k1 n hs hd hx
   refine ⟨_,fun w'=>?_,FG h⟩
   simp only [execOp,hr _ _ hx,convert]
   rw [Sem.run_bind,Sem.run_bind,run_underlying hs,Result.andThen_ok,Sem.run_bind,run_underlying hd,Result.andThen_ok]
   rfl
  ·rename_i b hs hd hx
   refine ⟨_,fun w'=>?_,h⟩
   simp only [execOp,hr _ _ hx,convert]
   rw [Sem.run_bind,Sem.run_bind,run_underlying hs,Result.andThen_ok,Sem.run_bind,run_underlying hd,Result.andThen_ok]
   rfl
  ·rename_i hs hd hx; simp only [cls,hs,hd] at hc; cases hc
  ·rename_i hs hd hx; simp only [cls,hs,hd] at hc; cases hc
  ·rename_i hs hd hx; simp only [cls,hs,hd] at hc; cases hc
  ·exact h.elim
 ·
  rename_i t x i
  split at h
  ·rename_i b k i hx hi
   split at h
   ·rename_i hu
    obtain ⟨h0,h1,h2⟩:=aaJ h
    obtain ⟨u,h3,h4⟩:=ams h0 h1
    refine ⟨_,fun w'=>?_,h2⟩
    simp only [execOp,hr _ _ hx,hr _ _ hi,Instr.index,asIntOf]
    rw [Sem.run_bind,Sem.run_bind]
    simp only [Sem.run_pure,Result.andThen_ok]
    rw [Sem.run_bind,run_underlying hu]
    simp only [Result.andThen_ok]
    rw [if_pos h0,h3]
    simp [h4]
   ·exact h.elim
  ·rename_i cs k i hx hi
   split at h
   ·rename_i n el hu
    split at h
    ·rename_i k' dH
     obtain ⟨hk,h⟩:=iO h
     simp only [Bool.and_eq_true,beq_eq] at hk
     obtain ⟨h0,h1,z,h2,h3⟩:=aaJ h
     refine ⟨_,fun w'=>?_,h3⟩
     have h4:cs[i.toNat]? = some (.int k' z):=by simpa using h2
     simp only [execOp,hr _ _ hx,hr _ _ hi,Instr.index,asIntOf]
     rw [Sem.run_bind,Sem.run_bind]
     simp only [Sem.run_pure,Result.andThen_ok]
     rw [Sem.run_bind,run_underlying hu]
     simp only [Result.andThen_ok]
     rw [if_pos ⟨h0,h1⟩,Sem.run_bind,qV hk.2,Result.andThen_ok,hk.1,Nat.mul_one]
     unfold part
     rw [Sem.run_bind,JB dH,Result.andThen_ok,if_neg (by simp [vB,dH]),h4]
     rfl
    ·exact h.elim
   ·exact h.elim
  ·exact h.elim
 ·
  rename_i t x i
  split at h
  ·rename_i a n c k i hx hi
   split at h
   ·rename_i el hu
    obtain ⟨hk,h⟩:=iO h
    obtain ⟨⟨hs,h0,h1⟩,h2⟩:=h
    obtain ⟨a,rfl⟩:=Option.isSome_iff_exists.1 hs
    refine ⟨_,fun w'=>?_,h2⟩
    simp only [execOp,hr _ _ hx,hr _ _ hi,Instr.indexAt,asIntOf]
    rw [Sem.run_bind,Sem.run_bind]
    simp only [Sem.run_pure,Result.andThen_ok]
    rw [Sem.run_bind,run_underlying hu]
    simp only [Result.andThen_ok]
    simp [run_underlying hu,h0,h1,qV hk,Ev.base]
   ·exact h.elim
  ·rename_i a k i hx hi
   split at h
   ·rename_i n el hu
    obtain ⟨hk,h⟩:=iO h
    obtain ⟨⟨h0,h1⟩,h2⟩:=h
    refine ⟨_,fun w'=>?_,h2⟩
    simp only [execOp,hr _ _ hx,hr _ _ hi,Instr.indexAt,asIntOf]
    rw [Sem.run_bind,Sem.run_bind]
    simp only [Sem.run_pure,Result.andThen_ok]
    rw [Sem.run_bind,run_underlying hu]
    simp only [Result.andThen_ok]
    simp [run_underlying hu,h0,h1,qV hk,Instr.sureAddr]
   ·exact h.elim
  ·exact h.elim
 ·
  rename_i t x lo hi mx
  split at h
  ·rename_i a n c Uh Bw mx' hx nU Gy Gz
   split at h
   ·rename_i el hu
    obtain ⟨hk,h⟩:=iO h
    obtain ⟨s,h1,l,hh,mm,h2,h3,h4,h5⟩:=Z4 h true
    refine ⟨_,fun w'=>?_,h1⟩
    simp only [execOp,hr _ _ hx,wJ hr nU,wJ hr Gy,wJ hr Gz,Instr.sliceAt]
    rw [Sem.run_bind,Sem.run_bind,run_underlying hu]
    simp only [Result.andThen_ok,Instr.slice]
    rw [Sem.run_bind,run_underlying hu]
    simp only [Result.andThen_ok]
    rw [Sem.run_bind,h2,Result.andThen_ok]
    simp only []
    rw [Sem.run_bind,qV hk,Result.andThen_ok,h3,h4,h5]
    rfl
   ·exact h.elim
  ·rename_i a Uh Bw mx' hx nU Gy Gz
   split at h
   ·rename_i n el hu
    obtain ⟨hk,h⟩:=iO h
    obtain ⟨s,h1,l,hh,mm,h2,h3,h4,h5⟩:=Z4 h false
    refine ⟨_,fun w'=>?_,h1⟩
    simp only [execOp,hr _ _ hx,wJ hr nU,wJ hr Gy,wJ hr Gz,Instr.sliceAt]
    rw [Sem.run_bind,Sem.run_bind,run_underlying hu]
    simp only [Result.andThen_ok]
    rw [Sem.run_bind]
    simp only [Instr.sureAddr,Sem.run_pure,Result.andThen_ok]
    rw [Sem.run_bind,h2,Result.andThen_ok]
    simp only []
    rw [Sem.run_bind,qV hk,Result.andThen_ok,h3,h4,h5]
    simp only [Sem.run_pure,Result.andThen_ok,Option.map_some]
    congr 3
    split <;> rfl
   ·exact h.elim
  ·rename_i b Uh Bw hx nU Gy Gz
   split at h
   ·rename_i hu
    have pO:∃ l hh,(∀ w':World,(Instr.sliceBounds false b.size b.size Uh Bw none).run P w'=.ok (l,hh,b.size) w')∧K (.string (b.extract l hh)) w:=by
     unfold abp at h
     split at h
     ·refine ⟨0,b.size,fun w'=>by simp [Instr.sliceBounds],?_⟩
      have:b.extract 0 b.size=b:=by simp
      rw [this]; exact h
     ·rename_i k hh
      obtain ⟨⟨h0,h1⟩,h⟩:=h
      exact ⟨0,hh.toNat,fun w'=>by simp [Instr.sliceBounds,qO h0 h1],h⟩
     ·rename_i k l
      obtain ⟨⟨h0,h1⟩,h⟩:=h
      exact ⟨l.toNat,b.size,fun w'=>by simp [Instr.sliceBounds,qO h0 h1],h⟩
     ·rename_i k l k' hh
      obtain ⟨⟨h0,h1,h2⟩,h⟩:=h
      have h3:l≤((hh.toNat:Nat):Int):=by omega
      exact ⟨l.toNat,hh.toNat,fun w'=>by simp [Instr.sliceBounds,qO (show 0≤hh by omega) h2,qO h0 h3],h⟩
     ·exact h.elim
    obtain ⟨l,hh,h1,h2⟩:=pO
    refine ⟨_,fun w'=>?_,h2⟩
    simp only [execOp,hr _ _ hx,wJ hr nU,wJ hr Gy,wJ hr Gz,Instr.sliceAt]
    rw [Sem.run_bind,Sem.run_bind,run_underlying hu]
    simp only [Result.andThen_ok,Instr.slice]
    rw [Sem.run_bind,run_underlying hu]
    simp only [Result.andThen_ok,Option.isSome_none]
    rw [if_neg (by simp),Sem.run_bind,h1]
    rfl
   ·exact h.elim
  ·exact h.elim
 ·
  rename_i x
  split at h
  ·rename_i p hx
   cases p with
   | none=>exact h.elim
   | some a=>exact ⟨_,fun w'=>by simp only [execOp,hr _ _ hx]; rfl,h⟩
  ·exact h.elim
 ·simp only [cls] at hc; cases hc
 ·simp only [cls] at hc; cases hc
 ·simp only [cls] at hc; cases hc
 ·simp only [cls] at hc; cases hc
 ·simp only [cls] at hc; cases hc
 ·simp only [cls] at hc; cases hc
 ·
  rename_i c
  split at h
  ·exact h.elim
  ·rename_i vs hv
   split at h
   all_goals first
    | exact uh.pM hr h
    | (exfalso; rename_i Dw; simp only [cls] at hc; split at hc <;> simp_all; done)
 ·exact uh.pM hr h
theorem S9 {o:Oper} {t:TypeId} {x:Operand} {a:Addr} {w:World} {K:Value→World→Prop} (ho:o.op=.load t x) (hx:ρ x=some (.pointer (some a))) (h:Du P t a w fun v=>K v w) :
  KS P e o w a (Ev.sizeOf P t) K:=by
 obtain ⟨dst,op,ty,ps,af,gd⟩:=o
 simp only at ho
 subst ho
 obtain ⟨v,h1,h2⟩:=So h
 refine ⟨v,fun w' hw=>?_,h1⟩
 simp only [execOp,hr _ _ hx,Instr.loadAt]
 rw [Sem.run_bind,Sem.run_bind]
 simp only [Instr.sureAddr,Sem.run_pure,Result.andThen_ok]
 rw [h2 w' hw]
 rfl
theorem akf (hP:Good P) {o:Oper} {w:World} {K:Value→World→Prop} (h:AX P m ρ o w K):Out P e o w K:=by
 by_cases hc:cls P o.op=0
 ·exact (abu hr hc h).out
 obtain ⟨dst,op,ty,ps,af,gd⟩:=o
 simp only at hc
 unfold AX at h
 simp only at h
 split at h
 ·
  rename_i op t x y yt
  split at h
  ·rename_i a b ha hb
   have h':=h
   unfold FE at h
   split at h
   ·obtain ⟨v,h1,h2⟩:=CX h' (by simp) x y rfl
    rw [← hr _ _ ha,← hr _ _ hb] at h1
    exact .inl ⟨v,w,Az (h1 w),h2⟩
   ·obtain ⟨v,h1,h2⟩:=CX h' (by simp) x y rfl
    rw [← hr _ _ ha,← hr _ _ hb] at h1
    exact .inl ⟨v,w,Az (h1 w),h2⟩
   ·obtain ⟨v,h1,h2⟩:=CX h' (by simp) x y rfl
    rw [← hr _ _ ha,← hr _ _ hb] at h1
    exact .inl ⟨v,w,Az (h1 w),h2⟩
   ·rename_i ys
    split at h
    ·rename_i xs
     split at h
     ·obtain ⟨v,w',h1,b,h2,h3⟩:=h
      subst h2
      have hg:∀ (x y:Operand) (w:World),(eqGuard op t x y (.agg xs) (.agg ys)).run P w=(eqGuard op t (.tmp 0) (.tmp 0) (.agg xs) (.agg ys)).run P w:=fun x y w=>by
       unfold eqGuard; cases op <;> rfl
      refine .inl ⟨_,w',Az ?_,h3⟩
      rw [hr _ _ ha,hr _ _ hb,Sem.run_bind,hg,← Sem.run_bind]
      exact h1
     ·exact h.elim
    ·exact h.elim
   ·obtain ⟨v,h1,h2⟩:=CX h' (by simp) x y rfl
    rw [← hr _ _ ha,← hr _ _ hb] at h1
    exact .inl ⟨v,w,Az (h1 w),h2⟩
   ·rename_i asJ asK asL an5 asM
    obtain ⟨v,h1,h2⟩:=CX h' (fun ys e1=>an5 ys e1) x y rfl
    rw [← hr _ _ ha,← hr _ _ hb] at h1
    exact .inl ⟨v,w,Az (h1 w),h2⟩
  ·exact h.elim
 ·simp only [cls] at hc; exact absurd trivial hc
 ·
  rename_i s d x
  split at h
  ·rename_i hs hd hx; simp only [cls,hs,hd] at hc; exact absurd trivial hc
  ·rename_i hs hd hx; simp only [cls,hs,hd] at hc; exact absurd trivial hc
  ·rename_i el b hs hd hx
   split at h
   ·rename_i hu
    obtain ⟨v,w',h1,s',h2,h3⟩:=h
    subst h2
    refine .inl ⟨_,w',?_,h3⟩
    simp only [execOp,hr _ _ hx]
    refine AA ?_
    unfold convert
    rw [Sem.run_bind,run_underlying hs,Result.andThen_ok,Sem.run_bind,run_underlying hd,Result.andThen_ok]
    simp only []
    rw [Sem.run_bind,run_underlying hu,Result.andThen_ok]
    exact h1
   ·exact h.elim
  ·rename_i e0 el a n c hs hd hx
   split at h
   ·rename_i hu
    obtain ⟨ux,h⟩:=iO h
    unfold Z2 at h
    split at h
    ·rename_i a
     obtain ⟨w',h1,h2⟩:=h
     refine .inl ⟨_,w',?_,h2⟩
     simp only [execOp,hr _ _ hx]
     refine AA ?_
     unfold convert
     rw [Sem.run_bind,run_underlying hs,Result.andThen_ok,Sem.run_bind,run_underlying hd,Result.andThen_ok]
     simp only []
     rw [Sem.run_bind,run_underlying hu,Result.andThen_ok]
     have:(s == d)=true:=by simpa using beq_eq.1 ux
     rw [this]
     simp only []
     rw [Sem.run_bind,h1]
     rfl
    ·exact h.elim
   ·exact h.elim
  ·rename_i el a n c hs hd hx
   split at h
   ·rename_i hu
    obtain ⟨v,w',h1,s',h2,h3⟩:=h
    subst h2
    refine .inl ⟨_,w',?_,h3⟩
    simp only [execOp,hr _ _ hx]
    refine AA ?_
    unfold convert
    rw [Sem.run_bind,run_underlying hs,Result.andThen_ok,Sem.run_bind,run_underlying hd,Result.andThen_ok]
    simp only []
    rw [Sem.run_bind,run_underlying hu,Result.andThen_ok]
    exact h1
   ·exact h.elim
  ·exact h.elim
 ·simp only [cls] at hc; exact absurd trivial hc
 ·simp only [cls] at hc; exact absurd trivial hc
 ·simp only [cls] at hc; exact absurd trivial hc
 ·simp only [cls] at hc; exact absurd trivial hc
 ·
  split at h
  ·rename_i t x _ a hx
   exact (S9 hr (o:=⟨dst,_,ty,ps,af,gd⟩) rfl hx h).out
  ·exact h.elim
 ·
  rename_i t x y
  split at h
  ·rename_i a v hx hy
   obtain ⟨w',h1,h2⟩:=alp h
   refine .inr (.inl ⟨w',?_,h2⟩)
   simp only [execOp,hr _ _ hx,hr _ _ hy]
   refine akd ?_
   simp only [Instr.storeAt,Instr.sureAddr]
   exact h1
  ·exact h.elim
 ·
  rename_i t
  obtain ⟨hz,h⟩:=iO h
  refine .inl ⟨_,_,?_,h⟩
  simp only [execOp]
  refine AA ?_
  unfold Instr.alloc
  obtain ⟨zv,vT,uw,_⟩:=RL (P:=P) hz w
  rw [Sem.run_bind,vT]
  simp only [Result.andThen_ok]
  have:zv.cells=⟨zc P t⟩:=Array.ext' uw
  rw [Sem.run_bind,Yu,this]; rfl
 ·
  rename_i t x
  split at h
  ·rename_i v hx
   refine .inl ⟨_,_,?_,h⟩
   simp only [execOp,hr _ _ hx]
   refine AA ?_
   simp only [Instr.box]
   rw [Sem.run_bind,Yu]; rfl
  ·exact h.elim
 ·
  rename_i t n pts
  split at h
  ·rename_i el vs hu hv
   split at h
   ·rename_i cs gN
    obtain ⟨hk,h⟩:=iO h
    simp only [Bool.and_eq_true,Nat.ble_eq] at hk
    refine .inl ⟨_,_,?_,h⟩
    simp only [execOp,YJ hr hv]
    refine AA ?_
    unfold Instr.buildSlice
    obtain ⟨xy,z0,hz,jL⟩:=YS hk.2 n w
    rw [Sem.run_bind,run_underlying hu,Result.andThen_ok]
    simp only []
    rw [Sem.run_bind,qV xy,Result.andThen_ok,if_neg (by omega),hz]
    simp only [jL]
    rw [J6 _ _ _ gN]
    simp only []
    rw [Sem.run_bind,Yv]; rfl
   ·exact h.elim
  ·exact h.elim
 ·
  rename_i t l c
  split at h
  ·rename_i el k l' k' c' hu hl vU
   obtain ⟨hz,h⟩:=iO h
   obtain ⟨⟨h0,h1,h2,h3⟩,h4⟩:=h
   refine .inl ⟨_,_,?_,h4⟩
   simp only [execOp,hr _ _ hl,hr _ _ vU]
   refine AA ?_
   unfold Instr.makeSlice
   obtain ⟨xy,z0,hz,jL⟩:=YS hz c'.toNat w
   cases hi:P.info? el with
   | none=>simp [known,hi] at xy
   | some i=>
    have hb:Ev.bytesOf P el=i.bytes:=by simp [Ev.bytesOf,hi]
    have wl:IntKind.i64.wrap l'=l':=P2 h0 (by simp only [IntKind.max,IntKind.signed,IntKind.bits]; simp; omega)
    have wc:IntKind.i64.wrap c'=c':=P2 (by omega) (by simp only [IntKind.max,IntKind.signed,IntKind.bits]; simp; omega)
    rw [Sem.run_bind,run_underlying hu,Result.andThen_ok]
    simp only []
    rw [Sem.run_bind]
    simp only [asInt,asIntOf,pure_bind,Sem.run_pure,Result.andThen_ok]
    rw [Sem.run_bind,RK hi,Result.andThen_ok]
    simp only [wl,wc]
    rw [hb] at h3
    have anj:((decide (c'<0) || decide ((i.bytes:Int) * c' > 2 ^ 48)) || decide (l'<0) || decide (l' > c'))=false:=by
     simp only [Bool.or_eq_false_iff,decide_eq_false_iff_not]
     omega
    rw [if_neg (by rw [anj]; simp)]
    rw [Sem.run_bind]
    have qz:(askRoom (c'.toNat * i.bytes)).run P w=.ok () w:=by unfold askRoom; split <;> rfl
    rw [qz,Result.andThen_ok,Sem.run_bind,qV xy,Result.andThen_ok]
    refine Eq.trans (hz fun zero=>newRow el ((Array.range (c'.toNat * Ev.sizeOf P el)).map (fun x=>zero[x % zero.size]!)) >>= fun a=>pure (.slice (some a) l'.toNat c'.toNat)) ?_
    simp only [jL]
    rw [Sem.run_bind,Yv]; rfl
  ·exact h.elim
 ·
  rename_i c
  split at h
  ·exact h.elim
  ·rename_i vs hv
   have lR:=vm hr hv
   have enter:∀ {f:Nat} {args:List Value},pH P f=true→(ax P f args w fun v w'=>FF P dst ty v fun v'=>K v' w')→(execOp e ⟨dst,.call c,ty,ps,af,gd⟩).run P w=(callFunc f ⟨args⟩).run P w→
     Out P e ⟨dst,.call c,ty,ps,af,gd⟩ w K:=by
    intro f args hb hk FO
    exact .inr (.inr ⟨f,⟨args⟩,by rw [FO,XV hP hb],hk.mono fun x w' ⟨v,h1,h2⟩=>⟨v,h1,Zr h2⟩⟩)
   split at h
   ·rename_i Dw
    obtain ⟨v,w',h1,s',h2,h3⟩:=h
    subst h2
    refine .inl ⟨_,w',?_,h3⟩
    simp only [execOp,resolve,lR,Dw,invoke,Sem.run_bind,Sem.run_pure,Result.andThen_ok,builtin]
    simp only [Array.toArray_toList] at h1
    rw [h1]; rfl
   ·rename_i Dw
    obtain ⟨v,w',h1,s',h2,h3⟩:=h
    subst h2
    refine .inl ⟨_,w',?_,h3⟩
    simp only [execOp,resolve,lR,Dw,invoke,Sem.run_bind,Sem.run_pure,Result.andThen_ok,builtin]
    simp only [Array.toArray_toList] at h1
    rw [h1]; rfl
   ·rename_i g Dw
    split at h
    ·rename_i gv hg
     unfold qx at h
     split at h
     ·rename_i f first cap
      obtain ⟨hb,h⟩:=iO h
      refine enter hb h ?_
      simp only [execOp,resolve,lR,Dw,hr _ _ hg,Deferred.ofValue,invoke,Sem.run_bind,Sem.run_pure,Result.andThen_ok]
      congr 2
      apply Array.ext'
      simp
     ·exact h.elim
    ·exact h.elim
   ·exact (uh.pM hr h).out
 ·exact (uh.pM hr h).out
end
end Go.Ev
end
section
set_option linter.unusedVariables false
set_option linter.unusedSimpArgs false
namespace Go.Ev
open Go
variable {P:Program} {n:Nat} {ws:List Nat} {f0:Fr} {ops:Array Oper}
theorem Kn.snd [gF] {s:St} {a:Act} (h:Kn n ws f0 s a) {k:Key} (hs:Sat a k):sM (s.val k) a.eval:=fun _ _ hv=>h.val hs hv
theorem P4 {o:Oper} {a:Act} (h:o.guard=none):Region.wanted o (yielded ops a.tmps)=true:=by simp [Region.wanted,h]
theorem P5 {o:Oper} {a:Act} {j g:Nat} {b:Bool} (h:o.guard=some (j,b)) (hg:(ops.toList[j]?).bind (·.dst)=some g) :
  Region.wanted o (yielded ops a.tmps)=true↔slot a g=.bool b:=by
 simp only [Region.wanted,h,yielded]
 have xA:(ops[j]?).bind (·.dst)=some g:=by simpa using hg
 rw [xA]
 simp only [Option.bind_some,slot,Array.getD_eq_getD_getElem?]
 cases ht:a.tmps[g]? with
 | none=>simp [undef]
 | some v=>cases v <;> simp
def YR (P:Program) (ops:Array Oper) (o:Oper) (v:Value) (a:Act) (w:World) (rd:Rd):Prop:=
 (Region.wanted o (yielded ops a.tmps)=true∧∀ w',(∀ c∈rd,kept c.2.1 c.2.2 w w')→(execOp a.eval o).run P w'=.ok (.value v) w')∨
 (Region.wanted o (yielded ops a.tmps)=false∧v=undef)
theorem Zs {a:Act} {c x y:Operand} {t:Bool} (hc:a.eval c=.bool t) (dst:Option Nat) (ty:TypeId) (ps:String) (af:Array Edge) (gd:Option (Nat×Bool)) (w:World) :
  (execOp a.eval ⟨dst,.pick c x y,ty,ps,af,gd⟩).run P w=.ok (.value (if t then a.eval x else a.eval y)) w:=by
 simp only [execOp,hc]; rfl
def lW (c:Operand) (b:Bool):Key:=match c with | .tmp t=>[(t,b)] | _=>[]
theorem JL {a:Act} {c:Operand} {t:Bool} (hc:a.eval c=.bool t):Sat a (lW c t):=by
 cases c <;> simp only [lW] <;> first | exact Sat.nil a | (refine Sat.cons.2 ⟨?_,Sat.nil a⟩; exact hc)
theorem Yw {a:Act} {k l:Key} (h1:Sat a k) (h2:Sat a l):Sat a (k ++ l):=fun x hx=>by
 rcases List.mem_append.1 hx with h | h
 ·exact h1 x h
 ·exact h2 x h
theorem XW [gF] {m:Mode} {o:Oper} {s:St} {a:Act} {w:World} {K:St→World→Prop} (hk:Kn n ws f0 s a) (hd:∀ d,o.dst=some d→d<n∧d∈ws) (hc:cls P o.op≤1) (h:vF P m o s w K) :
  ∃ v s',(∀ w',(∀ t x A,o.op=.load t x→s.val [] x=some (.pointer (some A))→kept A (Ev.sizeOf P t) w w')→(execOp a.eval o).run P w'=.ok (.value v) w')∧Kn n ws f0 s' (a.put o.dst v)∧K s' w:=by
 have hr:sM (s.val []) a.eval:=hk.snd (Sat.nil a)
 obtain ⟨dst,op,ty,ps,af,gd⟩:=o
 unfold vF at h
 simp only at h hc hd
 split at h
 ·rename_i c x y
  unfold aaC at h
  split at h
  ·rename_i t GA
   have TC:=hr _ _ GA
   have ht:∀ {u:Value},s.val (lW c true) x=some u→t=true→a.eval x=u:=fun hu e=>hk.val (e ▸ JL TC) hu
   have hf:∀ {u:Value},s.val (lW c false) y=some u→t=false→a.eval y=u:=fun hu e=>hk.val (e ▸ JL TC) hu
   have fin:∀ {u:Value},(if t then a.eval x else a.eval y)=u→K (s.put dst (some u)) w→
     ∃ v s',(∀ w',(∀ t' x' A,Op.pick c x y=.load t' x'→s.val [] x'=some (.pointer (some A))→kept A (Ev.sizeOf P t') w w')→(execOp a.eval ⟨dst,.pick c x y,ty,ps,af,gd⟩).run P w'=.ok (.value v) w')∧Kn n ws f0 s' (a.put dst v)∧K s' w:=by
    intro u hu hK
    exact ⟨u,_,fun w' _=>by rw [Zs TC,hu],hk.put hd (fun x hx=>by cases hx; rfl),hK⟩
   split at h
   ·rename_i bx by' h1 h2
    refine fin ?_ h
    cases t with
    | true=>simp only [if_true,cond_true]; exact ht h1 rfl
    | false=>simp only [Bool.false_eq_true,if_false,cond_false]; exact hf h2 rfl
   ·rename_i v h1 h2
    cases t with
    | true=>exact fin (by simp only [if_true]; exact ht h1 rfl) h
    | false=>exact h.elim
   ·rename_i v h1 h2
    cases t with
    | true=>exact h.elim
    | false=>exact fin (by simp only [Bool.false_eq_true,if_false]; exact hf h2 rfl) h
   ·rename_i u v _ h1 h2
    cases t with
    | true=>exact fin (by simp only [if_true]; exact ht h1 rfl) h
    | false=>exact fin (by simp only [Bool.false_eq_true,if_false]; exact hf h2 rfl) h
   ·exact h.elim
  ·exact h.elim
 ·rename_i x
  exact ⟨a.eval x,_,fun w' _=>rfl,hk.put hd (fun u hu=>hr _ _ hu),h⟩
 ·rename_i x
  exact ⟨a.eval x,_,fun w' _=>rfl,hk.put hd (fun u hu=>hr _ _ hu),h⟩
 ·rename_i pN zy GB
  by_cases h0:cls P op=0
  ·obtain ⟨v,h1,h2⟩:=abu hr (o:=⟨dst,op,ty,ps,af,gd⟩) h0 h
   exact ⟨v,_,fun w' _=>h1 w',hk.put hd (fun x hx=>by cases hx; rfl),h2⟩
  ·have h1:cls P op=1:=by omega
   have hl:∃ t x,op=.load t x:=by
    unfold cls at h1
    split at h1 <;> first | exact ⟨_,_,rfl⟩ | cases h1 | (split at h1 <;> cases h1)
   obtain ⟨t,x,rfl⟩:=hl
   unfold AX at h
   simp only at h
   split at h
   ·rename_i A hx
    obtain ⟨v,h2,h3⟩:=S9 hr (o:=⟨dst,.load t x,ty,ps,af,gd⟩) rfl hx h
    exact ⟨v,_,fun w' hw=>h2 w' (hw t x A rfl hx),hk.put hd (fun x hx=>by cases hx; rfl),h3⟩
   ·exact h.elim
theorem JM [gF] (hP:Good P) {m:Mode} {o:Oper} {s:St} {a:Act} {w:World} {K:St→World→Prop} {Q:Exit→Act→World→Prop} (hk:Kn n ws f0 s a) (hd:∀ d,o.dst=some d→d<n∧d∈ws)
  (h:vF P m o s w K):o.wp P a w (fun a' w'=>∃ s',Kn n ws f0 s' a'∧K s' w') Q:=by
 by_cases hc:cls P o.op≤1
 ·obtain ⟨v,s',h1,h2,h3⟩:=XW hk hd hc h
  unfold Oper.wp
  rw [h1 w (fun t x A _ _=>kept_refl _ _ _)]
  exact ⟨s',h2,h3⟩
 ·have hr:sM (s.val []) a.eval:=hk.snd (Sat.nil a)
  have h':AX P m (s.val []) o w fun v w'=>K (s.put o.dst (some v)) w':=by
   unfold vF at h
   split at h
   ·rename_i ho; rw [ho] at hc; simp [cls] at hc
   ·rename_i ho; rw [ho] at hc; simp [cls] at hc
   ·rename_i ho; rw [ho] at hc; simp [cls] at hc
   ·exact h
  unfold Oper.wp
  rcases akf hr hP h' with ⟨v,w',h1,h2⟩ | ⟨w',h1,h2⟩ | ⟨f,args,h1,h2⟩
  ·rw [h1]; exact ⟨_,hk.put hd (fun x hx=>by cases hx; rfl),h2⟩
  ·rw [h1]; exact ⟨_,hk.put hd (fun x hx=>by cases hx; rfl),h2⟩
  ·rw [h1]
   refine Calls.mono h2 fun e w' ⟨v,h3,h4⟩=>?_
   subst h3
   exact ⟨_,hk.put hd (fun x hx=>by cases hx; rfl),h4⟩
theorem XI [gF] {s:St} {a:Act} (hk:Kn n ws f0 s a) {o:Oper} {j g:Nat} {want:Bool} (hg:o.guard=some (j,want)) (hd:(ops.toList[j]?).bind (·.dst)=some g) :
  Region.wanted o (yielded ops a.tmps)=true↔Sat a ((g,want) :: (match eI g s.cd with | some (k,_)=>k | none=>[])):=by
 rw [P5 hg hd,Sat.cons]
 refine ⟨fun h=>⟨h,?_⟩,fun h=>h.1⟩
 cases hl:eI g s.cd with
 | none=>exact Sat.nil a
 | some kv=>
  obtain ⟨k,v⟩:=kv
  simp only
  have:=hk.cd g k v hl
  by_cases hs:Sat a k
  ·exact hs
  ·have h2:=this.2 hs
   rw [h] at h2; cases h2
theorem aiY [gF] {s:St} {a:Act} (hk:Kn n ws f0 s a) {k:Key} (hs:Sat a k) {c x y:Operand} {v:Value} (h:R9 (s.val k c) (s.val (lW c true ++ k) x) (s.val (lW c false ++ k) y)=some v)
  (dst:Option Nat) (ty:TypeId) (ps:String) (af:Array Edge) (gd:Option (Nat×Bool)) (w:World):(execOp a.eval ⟨dst,.pick c x y,ty,ps,af,gd⟩).run P w=.ok (.value v) w:=by
 unfold R9 at h
 split at h
 ·rename_i t bx by' h1 h2 h3
  have GA:a.eval c=.bool t:=hk.val hs h1
  cases h
  rw [Zs GA]
  cases t with
  | true=>rw [if_pos rfl,hk.val (Yw (JL GA) hs) h2]; rfl
  | false=>rw [if_neg (by simp),hk.val (Yw (JL GA) hs) h3]; rfl
 ·cases h
theorem Zt [gF] {s:St} {a:Act} (hk:Kn n ws f0 s a) {k:Key} (hs:Sat a k) {o:Oper} {v:Value} (h:S7 P s k o=some v) (w:World):(execOp a.eval o).run P w=.ok (.value v) w:=by
 obtain ⟨dst,op,ty,ps,af,gd⟩:=o
 unfold S7 at h
 simp only at h
 split at h
 ·exact aiY hk hs h dst ty ps af gd w
 ·exact aaG (hk.snd hs) ⟨dst,_,ty,ps,af,gd⟩ h w
theorem Zu [gF] {s:St} {a:Act} (hk:Kn n ws f0 s a) (wZ:∀ o∈ops.toList,∀ d,o.dst=some d→d<n∧d∈ws) {j g:Nat} {want:Bool} (oU:(ops.toList[j]?).bind (·.dst)=some g) :
  ∀ y∈((g,want) :: (match eI g s.cd with | some (k,_)=>k | none=>[]):Key),y.1∈ws:=by
 intro y hy
 cases hy with
 | head=>
  cases hj:ops.toList[j]? with
  | none=>rw [hj] at oU; cases oU
  | some oj=>rw [hj] at oU; exact (wZ oj (List.mem_of_getElem? hj) g oU).2
 | tail _ hy=>
  cases hl:eI g s.cd with
  | none=>rw [hl] at hy; cases hy
  | some kv=>
   obtain ⟨k,v⟩:=kv
   rw [hl] at hy
   exact (hk.ins _ (yB hl)).2 y hy
theorem Yx [gF] (wZ:∀ o∈ops.toList,∀ d,o.dst=some d→d<n∧d∈ws) {m:Mode} {i:Nat} {o:Oper} {s:St} {a:Act} {w:World} {K:St→World→Prop} (hk:Kn n ws f0 s a) (hd:∀ d,o.dst=some d→d<n∧d∈ws) (hc:cls P o.op≤1) (h:yI P m ops o s w K) :
  ∃ v s',YR P ops o v a w (wL P ops.toList s i o)∧Kn n ws f0 s' (a.put o.dst v)∧K s' w:=by
 have quiet:∀ {s':St},Kn n ws f0 s' a→vF P m o s' w K→Region.wanted o (yielded ops a.tmps)=true→
   (∀ t x A,o.op=.load t x→s'.val [] x=some (.pointer (some A))→(i,A,Ev.sizeOf P t)∈wL P ops.toList s i o)→
   ∃ v s',YR P ops o v a w (wL P ops.toList s i o)∧Kn n ws f0 s' (a.put o.dst v)∧K s' w:=by
  intro s' gO FO hw FP
  obtain ⟨v,s2,h1,h2,h3⟩:=XW gO hd hc FO
  exact ⟨v,s2,.inl ⟨hw,fun w' Dm=>h1 w' fun t x A ho hv=>Dm _ (FP t x A ho hv)⟩,h2,h3⟩
 unfold yI at h
 split at h
 ·rename_i hg
  refine quiet hk h (P4 hg) fun t x A ho hv=>?_
  unfold wL
  rw [ho,hg]
  simp only [hv]
  exact List.mem_singleton.2 rfl
 ·rename_i j want hg
  split at h
  ·exact h.elim
  ·rename_i g oU
   split at h
   ·rename_i b hl
    have hb:=hk.lt g b hl
    have hw:=P5 (ops:=ops) (a:=a) hg oU
    cases hs:AN b want with
    | true=>
     rw [hs] at h
     have e:=CD.1 hs
     subst e
     refine quiet hk h (hw.2 hb) fun t x A ho hv=>?_
     unfold wL
     rw [ho,hg]
     simp only [oU,hl,hv]
     exact List.mem_singleton.2 rfl
    | false=>
     rw [hs] at h
     have gp:¬ Region.wanted o (yielded ops a.tmps)=true:=fun hh=>by
      have:=hw.1 hh
      rw [hb] at this
      cases this
      simp [CD.2] at hs
     exact ⟨undef,_,.inr ⟨by simpa using gp,rfl⟩,hk.put hd (fun x hx=>by cases hx; rfl),h⟩
   ·rename_i hl
    have j5:=XI (ops:=ops) hk hg oU
    have rD:=Zu (want:=want) hk wZ oU
    cases he:early o.op with
    | true=>
     rw [he] at h
     simp only [cond_true] at h
     split at h
     ·rename_i v hv
      by_cases hs:Region.wanted o (yielded ops a.tmps)=true
      ·exact ⟨v,_,.inl ⟨hs,fun w' _=>Zt hk (j5.1 hs) hv w'⟩,hk.nO hd rD (fun _=>rfl) (fun hn=>absurd (j5.1 hs) hn),h⟩
      ·exact ⟨undef,_,.inr ⟨by simpa using hs,rfl⟩,hk.nO hd rD (fun hh=>absurd (j5.2 hh) hs) (fun _=>rfl),h⟩
     ·obtain ⟨s',on,gO,h1,h2⟩:=EB _ s _ rD hk h
      cases on with
      | true=>
       exact quiet gO h1 (j5.2 (h2.1 rfl)) fun t x A ho hv=>by rw [ho] at he; cases he
      | false=>
       have hs:¬ Region.wanted o (yielded ops a.tmps)=true:=fun hh=>by have:=h2.2 (j5.1 hh); cases this
       exact ⟨undef,_,.inr ⟨by simpa using hs,rfl⟩,gO.put hd (fun x hx=>by cases hx; rfl),h1⟩
    | false=>
     rw [he] at h
     simp only [cond_false] at h
     split at h
     ·rename_i t x ho
      split at h
      ·rename_i A hx
       by_cases hs:Region.wanted o (yielded ops a.tmps)=true
       ·obtain ⟨v,h1,h2⟩:=S9 (hk.snd (j5.1 hs)) (o:=o) (K:=fun v w=>K (s.nO o.dst _ v) w) ho hx h
        refine ⟨v,_,.inl ⟨hs,fun w' Dm=>h1 w' (Dm (i,A,Ev.sizeOf P t) ?_)⟩,hk.nO hd rD (fun _=>rfl) (fun hn=>absurd (j5.1 hs) hn),h2⟩
        unfold wL
        rw [ho,hg]
        simp only [oU,hl,hx]
        exact List.mem_singleton.2 rfl
       ·obtain ⟨v,h1,h2⟩:=So h
        exact ⟨undef,_,.inr ⟨by simpa using hs,rfl⟩,hk.nO hd rD (fun hh=>absurd (j5.2 hh) hs) (fun _=>rfl),h1⟩
      ·exact h.elim
     ·rename_i nV
      obtain ⟨s',on,gO,h1,h2⟩:=EB _ s _ rD hk h
      cases on with
      | true=>
       exact quiet gO h1 (j5.2 (h2.1 rfl)) fun t x A ho hv=>absurd ho (nV t x)
      | false=>
       have hs:¬ Region.wanted o (yielded ops a.tmps)=true:=fun hh=>by have:=h2.2 (j5.1 hh); cases this
       exact ⟨undef,_,.inr ⟨by simpa using hs,rfl⟩,gO.put hd (fun x hx=>by cases hx; rfl),h1⟩
theorem Z5 [gF] (hP:Good P) (wZ:∀ o∈ops.toList,∀ d,o.dst=some d→d<n∧d∈ws) {m:Mode} {o:Oper} {s:St} {a:Act} {w:World} {K:St→World→Prop} {Q:Exit→Act→World→Prop} (hk:Kn n ws f0 s a) (hd:∀ d,o.dst=some d→d<n∧d∈ws)
  (h:yI P m ops o s w K):if Region.wanted o (yielded ops a.tmps) then o.wp P a w (fun a' w'=>∃ s',Kn n ws f0 s' a'∧K s' w') Q else ∃ s',Kn n ws f0 s' (a.put o.dst undef)∧K s' w:=by
 by_cases hc:cls P o.op≤1
 ·obtain ⟨v,s',h1,h2,h3⟩:=Yx (i:=0) wZ hk hd hc h
  rcases h1 with ⟨hw,h4⟩ | ⟨hw,rfl⟩
  ·rw [if_pos hw]
   unfold Oper.wp
   rw [h4 w (fun c _=>kept_refl _ _ _)]
   exact ⟨s',h2,h3⟩
  ·rw [if_neg (by simp [hw])]
   exact ⟨s',h2,h3⟩
 ·unfold yI at h
  split at h
  ·rename_i hg
   rw [if_pos (P4 hg)]
   exact JM hP hk hd h
  ·rename_i j want hg
   split at h
   ·exact h.elim
   ·rename_i g oU
    split at h
    ·rename_i b hl
     have hb:=hk.lt g b hl
     have hw:=P5 (ops:=ops) (a:=a) hg oU
     cases hs:AN b want with
     | true=>
      rw [hs] at h
      have e:=CD.1 hs
      subst e
      rw [if_pos (hw.2 hb)]
      exact JM hP hk hd h
     | false=>
      rw [hs] at h
      rw [if_neg (fun hh=>by
       have:=hw.1 hh
       rw [hb] at this
       cases this
       simp [CD.2] at hs)]
      exact ⟨_,hk.put hd (fun x hx=>by cases hx; rfl),h⟩
    ·rename_i hl
     have j5:=XI (ops:=ops) hk hg oU
     have rD:=Zu (want:=want) hk wZ oU
     cases he:early o.op with
     | true=>
      rw [he] at h
      simp only [cond_true] at h
      split at h
      ·rename_i v hv
       by_cases hs:Region.wanted o (yielded ops a.tmps)=true
       ·rw [if_pos hs]
        unfold Oper.wp
        rw [Zt hk (j5.1 hs) hv w]
        exact ⟨_,hk.nO hd rD (fun _=>rfl) (fun hn=>absurd (j5.1 hs) hn),h⟩
       ·rw [if_neg hs]
        exact ⟨_,hk.nO hd rD (fun hh=>absurd (j5.2 hh) hs) (fun _=>rfl),h⟩
      ·obtain ⟨s',on,gO,h1,h2⟩:=EB _ s _ rD hk h
       cases on with
       | true=>
        rw [if_pos (j5.2 (h2.1 rfl))]
        exact JM hP gO hd h1
       | false=>
        rw [if_neg (fun hh=>by have:=h2.2 (j5.1 hh); cases this)]
        exact ⟨_,gO.put hd (fun x hx=>by cases hx; rfl),h1⟩
     | false=>
      rw [he] at h
      simp only [cond_false] at h
      split at h
      ·rename_i t x ho; rw [ho] at hc; simp [cls] at hc
      ·obtain ⟨s',on,gO,h1,h2⟩:=EB _ s _ rD hk h
       cases on with
       | true=>
        rw [if_pos (j5.2 (h2.1 rfl))]
        exact JM hP gO hd h1
       | false=>
        rw [if_neg (fun hh=>by have:=h2.2 (j5.1 hh); cases this)]
        exact ⟨_,gO.put hd (fun x hx=>by cases hx; rfl),h1⟩
theorem Fw [gF] (hP:Good P) (wZ:∀ o∈ops.toList,∀ d,o.dst=some d→d<n∧d∈ws) {m:Mode} {K:Fr→World→Prop} {Q:Exit→Act→World→Prop} (hQ:∀ fr a w,Kn n ws f0 ⟨fr,[],[]⟩ a→K fr w→Q .normal a w) :
  ∀ (l:List Oper) (s:St) (a:Act) (w:World),(∀ o∈l,∀ d,o.dst=some d→d<n∧d∈ws)→Kn n ws f0 s a→xu P m ops l s w K→wpList P ops Q l a w
 | [],s,a,w,_,hk,h=>wpList_nil (hQ s.fr a w hk.out h)
 | o :: r,s,a,w,hd,hk,h=>by
  simp only [xu] at h
  have:=Z5 (ops:=ops) (Q:=Q) hP wZ hk (hd o List.mem_cons_self) h
  refine wpList_step fun K' hK'=>?_
  have go:∀ a' w',(∃ s',Kn n ws f0 s' a'∧xu P m ops r s' w' K)→K' a' w':=fun a' w' ⟨s',h1,h2⟩=>
   hK' a' w' (Fw hP wZ hQ r s' a' w' (fun o ho=>hd o (List.mem_cons_of_mem _ ho)) h1 h2)
  split
  ·rename_i hw
   rw [if_pos hw] at this
   exact Oper.wp_mono go this
  ·rename_i hw
   rw [if_neg hw] at this
   exact go _ _ this
end Go.Ev
end
section
set_option linter.unusedVariables false
set_option linter.unusedSimpArgs false
namespace Go.Ev
open Go
variable {P:Program} {n:Nat} {ws:List Nat} {f0:Fr} {ops:Array Oper}
theorem wK {x:Nat} {l:List Nat}:mH x l=true↔x∈l:=by
 induction l with
 | nil=>simp [mH]
 | cons y r ih=>
  simp only [mH]
  cases h:Nat.beq x y with
  | true=>simp [beq_eq.1 h]
  | false=>have:=gC.1 h; simp [ih,this]
theorem YT {o:Oper} {j:Nat}:j∈after o↔∃ e∈o.after,Region.binds .any e=true∧e.on=j:=by
 unfold after
 simp only [List.mem_filterMap,Array.mem_toList_iff]
 constructor
 ·rintro ⟨e,he,h⟩
  cases hb:Region.binds .any e with
  | true=>rw [hb] at h; cases h; exact ⟨e,he,hb,rfl⟩
  | false=>rw [hb] at h; cases h
 ·rintro ⟨e,he,hb,rfl⟩
  exact ⟨e,he,by rw [hb]; rfl⟩
theorem YU {dn l:List Nat}:C8 dn l=true↔∀ j∈l,j∈dn:=by
 induction l with
 | nil=>simp [C8]
 | cons y r ih=>
  simp only [C8]
  cases h:mH y dn with
  | true=>have:=wK.1 h; simp [ih,this]
  | false=>have:y∉dn:=fun hm=>by rw [wK.2 hm] at h; cases h
           simp [this]
structure sO (ops:Array Oper) (dn:List Nat) (listed:Array Bool):Prop where
 size:listed.size=ops.size
 iff:∀ j,j<ops.size→(listed.getD j false=true↔j∈dn)
 lt:∀ j∈dn,j<ops.size
 closed:∀ (j:Nat) (o:Oper),ops[j]? = some o→j∈dn→∀ i∈after o,i∈dn
theorem sO.YV {dn:List Nat} {listed:Array Bool} (h:sO ops dn listed) {j:Nat} (hj:j<ops.size):listed.getD j true=listed.getD j false:=by
 have:j<listed.size:=by rw [h.size]; exact hj
 simp [this]
theorem Zv {dn:List Nat}:∀ {l:List Oper} {k i:Nat} {o:Oper},(i,o)∈nK ops.toList dn k l↔(∃ j,i=k+j∧l[j]? = some o)∧i∉dn∧∀ x∈after o,x∈dn
 | [],k,i,o=>by simp [nK]
 | o' :: r,k,i,o=>by
  have ih:=Zv (dn:=dn) (l:=r) (k:=k+1) (i:=i) (o:=o)
  have split:(∃ j,i=k+j∧(o' :: r)[j]? = some o)↔(i=k∧o'=o)∨(∃ j,i=k+1+j∧r[j]? = some o):=by
   constructor
   ·rintro ⟨j,h1,h2⟩
    cases j with
    | zero=>simp at h2; exact .inl ⟨by omega,h2⟩
    | succ j=>exact .inr ⟨j,by omega,by simpa using h2⟩
   ·rintro (⟨h1,h2⟩ | ⟨j,h1,h2⟩)
    ·exact ⟨0,by omega,by simp [h2]⟩
    ·exact ⟨j+1,by omega,by simpa using h2⟩
  simp only [nK]
  cases h1:mH k dn with
  | true=>
   have hk:=wK.1 h1
   simp only [cond_true,ih,split]
   constructor
   ·rintro ⟨h,h2⟩; exact ⟨.inr h,h2⟩
   ·rintro ⟨h | h,h2,h3⟩
    ·exact absurd (h.1 ▸ hk) h2
    ·exact ⟨h,h2,h3⟩
  | false=>
   have hk:k∉dn:=fun hm=>by rw [wK.2 hm] at h1; cases h1
   simp only [cond_false]
   cases h2:C8 dn (after o') with
   | true=>
    have hf:=YU.1 h2
    simp only [cond_true,List.mem_cons,Prod.mk.injEq,ih,split]
    constructor
    ·rintro (⟨rfl,rfl⟩ | ⟨h,h3⟩)
     ·exact ⟨.inl ⟨rfl,rfl⟩,hk,hf⟩
     ·exact ⟨.inr h,h3⟩
    ·rintro ⟨⟨h3,h4⟩ | h,h5⟩
     ·exact .inl ⟨h3,h4.symm⟩
     ·exact .inr ⟨h,h5⟩
   | false=>
    simp only [cond_false,ih,split]
    constructor
    ·rintro ⟨h,h3⟩; exact ⟨.inr h,h3⟩
    ·rintro ⟨⟨h3,h4⟩ | h,h5,h6⟩
     ·subst h4
      rw [YU.2 h6] at h2; cases h2
     ·exact ⟨h,h5,h6⟩
theorem rY {dn:List Nat} {i:Nat} {o:Oper}:(i,o)∈nK ops.toList dn 0 ops.toList↔ops[i]? = some o∧i∉dn∧∀ x∈after o,x∈dn:=by
 rw [Zv]
 constructor
 ·rintro ⟨⟨j,h1,h2⟩,h3⟩
  rw [Nat.zero_add] at h1
  subst h1
  exact ⟨by simpa using h2,h3⟩
 ·rintro ⟨h1,h2⟩
  exact ⟨⟨i,(Nat.zero_add i).symm,by simpa using h1⟩,h2⟩
theorem akg {dn:List Nat} {listed:Array Bool} (h:sO ops dn listed) {j:Nat} (hj:listed.getD j false=true):j<ops.size∧j∈dn:=by
 have cI:j<ops.size:=by
  rcases Nat.lt_or_ge j listed.size with h' | h'
  ·rw [← h.size]; exact h'
  ·simp [Array.getElem?_eq_none h'] at hj
 exact ⟨cI,(h.iff j cI).1 hj⟩
theorem At {dn:List Nat} {listed:Array Bool} (h:sO ops dn listed) {i:Nat}:i∈Region.ready .any ops listed↔∃ o,(i,o)∈nK ops.toList dn 0 ops.toList:=by
 rw [mem_ready]
 constructor
 ·rintro ⟨h0,o,ho,nP⟩
  have cI:i<ops.size:=(Array.getElem?_eq_some_iff.1 ho).1
  refine ⟨o,rY.2 ⟨ho,fun hm=>?_,fun x hx=>?_⟩⟩
  ·rw [h.YV cI,(h.iff i cI).2 hm] at h0; cases h0
  ·obtain ⟨e,he,hb,rfl⟩:=YT.1 hx
   exact (akg h (nP e he hb)).2
 ·rintro ⟨o,ho⟩
  obtain ⟨h1,h2,h3⟩:=rY.1 ho
  have cI:i<ops.size:=(Array.getElem?_eq_some_iff.1 h1).1
  refine ⟨?_,o,h1,fun e he hb=>?_⟩
  ·rw [h.YV cI]
   cases hh:listed.getD i false with
   | false=>rfl
   | true=>exact absurd ((h.iff i cI).1 hh) h2
  ·have hx:=h3 e.on (YT.2 ⟨e,he,hb,rfl⟩)
   exact (h.iff _ (h.lt _ hx)).2 hx
theorem sO.set {dn:List Nat} {listed:Array Bool} (h:sO ops dn listed) {i:Nat} {o:Oper} (ho:(i,o)∈nK ops.toList dn 0 ops.toList):sO ops (i :: dn) (listed.setIfInBounds i true):=by
 obtain ⟨h1,h2,h3⟩:=rY.1 ho
 have cI:i<ops.size:=(Array.getElem?_eq_some_iff.1 h1).1
 refine ⟨by simp [h.size],fun j hj=>?_,fun j hj=>?_,fun j oj zA hm x hx=>?_⟩
 ·by_cases e:i=j
  ·subst e
   have:i<listed.size:=by rw [h.size]; exact cI
   simp [this]
  ·rw [getD_set_ne false e,h.iff j hj]
   simp [Ne.symm e]
 ·cases hj with
  | head=>exact cI
  | tail _ hm=>exact h.lt j hm
 ·cases hm with
  | head=>
   rw [h1] at zA; cases zA
   exact List.mem_cons_of_mem _ (h3 x hx)
  | tail _ hm=>exact List.mem_cons_of_mem _ (h.closed j oj zA hm x hx)
theorem Yy {acc:List Nat} {i:Nat}:∀ {l:List Nat},Nat.testBit (yJ acc l) i=true→∃ x∈l,i=x∨Nat.testBit (acc.getD x 0) i=true
 | [],h=>by simp [yJ] at h
 | y :: r,h=>by
  simp only [yJ] at h
  have h':Nat.testBit (2 ^ y ||| acc.getD y 0 ||| yJ acc r) i=true:=h
  rw [Nat.testBit_or,Nat.testBit_or] at h'
  simp only [Bool.or_eq_true] at h'
  rcases h' with (h1 | h1) | h1
  ·rw [Nat.testBit_two_pow] at h1
   exact ⟨y,List.mem_cons_self,.inl (of_decide_eq_true h1).symm⟩
  ·exact ⟨y,List.mem_cons_self,.inr h1⟩
  ·obtain ⟨x,hx,h2⟩:=Yy h1
   exact ⟨x,List.mem_cons_of_mem _ hx,h2⟩
theorem YW:∀ (l:List Oper) (acc:List Nat) (j:Nat),(j<acc.length→(nM l acc).getD j 0=acc.getD j 0)∧
  (∀ k o,j=acc.length+k→l[k]? = some o→∃ A0,(∀ x,x<A0.length→A0.getD x 0=(nM l acc).getD x 0)∧A0.length=j∧(nM l acc).getD j 0=yJ A0 (after o))
 | [],acc,j=>⟨fun _=>rfl,fun k o _ h=>by simp at h⟩
 | o' :: r,acc,j=>by
  have ih:=YW r (acc ++ [yJ acc (after o')])
  simp only [nM]
  refine ⟨fun hj=>?_,fun k o hj hk=>?_⟩
  ·rw [(ih j).1 (by simp; omega)]
   simp [List.getD_eq_getElem?_getD,List.getElem?_append_left hj]
  ·cases k with
   | zero=>
    simp at hk; subst hk
    refine ⟨acc,fun x hx=>?_,by omega,?_⟩
    ·rw [(ih x).1 (by simp; omega)]
     simp [List.getD_eq_getElem?_getD,List.getElem?_append_left hx]
    ·rw [(ih j).1 (by simp; omega)]
     subst hj
     simp [List.getD_eq_getElem?_getD]
   | succ k=>exact (ih j).2 k o (by simp; omega) (by simpa using hk)
theorem ajA {dn:List Nat} {listed:Array Bool} (h:sO ops dn listed) {i:Nat}:∀ (j:Nat) (o:Oper),ops[j]? = some o→(∀ x∈after o,x∈dn)→Nat.testBit ((nM ops.toList []).getD j 0) i=true→i∈dn:=by
 intro j
 induction j using Nat.strongRecOn with
 | _ j ih=>
  intro o ho nP hb
  obtain ⟨A0,h1,h2,h3⟩:=(YW ops.toList [] j).2 j o (by simp) (by simpa using ho)
  rw [h3] at hb
  obtain ⟨x,hx,GC⟩:=Yy hb
  have Um:=nP x hx
  rcases GC with rfl | GC
  ·exact Um
  ·have cI:x<A0.length:=by
    rcases Nat.lt_or_ge x A0.length with h' | h'
    ·exact h'
    ·simp [List.getD_eq_getElem?_getD,List.getElem?_eq_none h'] at GC
   rw [h1 x cI] at GC
   have oV:=h.lt x Um
   exact ih x (by omega) ops[x] (Array.getElem?_eq_getElem oV) (h.closed x ops[x] (Array.getElem?_eq_getElem oV) Um) GC
def Q0 (K:Act→World→Prop):Exit→Act→World→Prop:=fun e a w=>match e with | .normal=>K a w | _=>False
def yU (P:Program) (ops:Array Oper) (Q:Act→World→Prop) (mk:List Nat):Nat→Array Bool→Rd→Act→World→Prop
 | 0,listed,_,a,w=>Region.ready .any ops listed=[]∧Q a w
 | f+1,listed,C,a,w=>(Region.ready .any ops listed=[]→Q a w)∧∀ i∈Region.ready .any ops listed,
   wpOp P ops (Q0 Q) i (fun a' w'=>(∀ c∈C,Nat.testBit (mk.getD i 0) c.1=false→kept c.2.1 c.2.2 w w')∧yU P ops Q mk f (listed.setIfInBounds i true) C a' w') a w
theorem RM {Q:Act→World→Prop} {mk:List Nat}:∀ {f:Nat} {listed:Array Bool} {C:Rd} {a:Act} {w:World},yU P ops Q mk f listed C a w→wpAny P .any ops (Q0 Q) f listed a w
 | 0,_,_,_,_,h=>h
 | _+1,_,_,_,_,h=>⟨h.1,fun i hi=>wpOp_mono (fun _ _ h=>RM h.2) (h.2 i hi)⟩
theorem RA {Q:Act→World→Prop} {mk:List Nat}:∀ {f:Nat} {listed:Array Bool} {C C':Rd} {a:Act} {w:World},(∀ c∈C',c∈C)→yU P ops Q mk f listed C a w→yU P ops Q mk f listed C' a w
 | 0,_,_,_,_,_,_,h=>h
 | _+1,_,_,_,_,_,hs,h=>⟨h.1,fun i hi=>wpOp_mono (fun _ _ h=>⟨fun c hc hb=>h.1 c (hs c hc) hb,RA hs h.2⟩) (h.2 i hi)⟩
theorem YR.wpOp {i:Nat} {o:Oper} {v:Value} {a:Act} {w:World} {rd:Rd} {Q:Exit→Act→World→Prop} (hi:ops[i]? = some o) (hy:YR P ops o v a w rd) {K:Act→World→Prop} (h:K (a.put o.dst v) w):wpOp P ops Q i K a w:=by
 unfold Go.wpOp
 simp only [hi]
 rcases hy with ⟨hw,hv⟩ | ⟨hw,rfl⟩
 ·simp only [hw,if_true,Oper.wp,hv w (fun c _=>kept_refl _ _ _),Oper.upon]; exact .inl h
 ·simp only [hw,Bool.false_eq_true,if_false]; exact h
theorem aiZ {a:Addr} {n:Nat} {w w1 w2:World} (h:kept a n w w1) (h':kept a n w1 w2):kept a n w w2:=fun j hj=>(h' j hj).trans (h j hj)
theorem YR.of_same {o:Oper} {v:Value} {a a':Act} {w w':World} {rd:Rd} (hy:YR P ops o v a w rd) (he:execOp a'.eval o=execOp a.eval o)
  (hw:Region.wanted o (yielded ops a'.tmps)=Region.wanted o (yielded ops a.tmps)) (hk:∀ c∈rd,kept c.2.1 c.2.2 w w'):YR P ops o v a' w' rd:=by
 unfold YR at *
 rw [he,hw]
 rcases hy with ⟨h1,h2⟩ | h
 ·exact .inl ⟨h1,fun w2 h3=>h2 w2 fun c hc=>aiZ (hk c hc) (h3 c hc)⟩
 ·exact .inr h
theorem ajB {j:Nat} {oi oj:Oper} {v:Value} {rd:Rd} {Q:Act→World→Prop} (hj:ops[j]? = some oj) (xB:oi.apart ops oj=true)
  (hsi:∀ cs b,oi.op≠.select cs b) (hsj:∀ cs b,oj.op≠.select cs b) {K:Act→World→Prop} {a:Act} {w:World}
  (hy:YR P ops oi v a w rd) (Dm:∀ a' w',K a' w'→∀ c∈rd,kept c.2.1 c.2.2 w w') (h:wpOp P ops (Q0 Q) j K (a.put oi.dst v) w) :
  wpOp P ops (Q0 Q) j (fun a' w'=>YR P ops oi v a' w' rd∧K (a'.put oi.dst v) w') a w:=by
 obtain ⟨h1,h2,h3⟩:=Oper.apart_spec xB
 have keep:∀ (u:Value) (w':World),(∀ c∈rd,kept c.2.1 c.2.2 w w')→YR P ops oi v (a.put oj.dst u) w' rd:=fun u w' hk=>
  hy.of_same (execOp_put oi hsi a oj.dst u h3) (wanted_put oi a oj.dst u h3) hk
 have fin:∀ u w',K ((a.put oi.dst v).put oj.dst u) w'→YR P ops oi v (a.put oj.dst u) w' rd∧K ((a.put oj.dst u).put oi.dst v) w':=fun u w' hK=>
  ⟨keep u w' (Dm _ _ hK),by rw [← Act.put_comm a v u h2]; exact hK⟩
 unfold wpOp at *
 simp only [hj] at *
 rw [wanted_put oj a oi.dst v h1] at h
 split
 ·rename_i hw
  simp only [hw,if_true] at h
  rcases h with h | ⟨abv,ank⟩
  case inr=>exact .inr ⟨by unfold Oper.asks at *; rw [execOp_put oj hsj a oi.dst v h1] at abv; exact abv,ank⟩
  refine .inl ?_
  unfold Oper.wp at *
  rw [execOp_put oj hsj a oi.dst v h1] at h
  generalize (execOp a.eval oj).run P w=r at *
  cases r with
  | ok n w'=>
   cases n <;> simp only [Oper.upon] at h ⊢
   case value u=>exact fin u w' h
   case skip=>exact fin _ w' h
   case defer d=>
    have hk:=Dm _ _ h
    refine ⟨(keep undef w' hk).of_same (by cases oj.dst <;> rfl) (by cases oj.dst <;> rfl) (fun c _=>kept_refl _ _ _),?_⟩
    rw [← Act.put_comm _ v undef h2,← Act.put_defers]
    exact h
   case enter f args=>
    refine Calls.mono h fun e eU he=>?_
    cases e with
    | returned u=>exact fin u eU he
    | panicked c=>exact he
    | outgrown=>exact he
   case row row args=>exact Rows.mono h fun u eU he=>fin u eU he
  | halt x w'=>
   cases x <;> simp only [Oper.upon] at h ⊢
   case panic u=>exact h
 ·rename_i hw
  simp only [hw] at h
  exact fin _ w h
theorem Zw:∀ {l:List Oper},AO l=true→∀ o∈l,∀ cs b,o.op≠.select cs b
 | [],_,_,h=>by cases h
 | x :: r,h,o,ho=>by
  simp only [AO] at h
  intro cs b e
  cases ho with
  | head=>rw [e] at h; cases h
  | tail _ ho=>
   have hr:AO r=true:=by split at h <;> first | cases h | exact h
   exact Zw hr o ho cs b e
theorem Zx (o:Oper):slotsOf ops.toList o=o.looksAt ops:=by
 unfold slotsOf Oper.looksAt
 congr 1
 cases o.guard with
 | none=>rfl
 | some g=>simp
theorem ahw (d:Nat) (l:List Nat):mH d l=l.contains d:=by
 rw [Bool.eq_iff_iff,wK]; simp
theorem ajC {x y:Oper} (h:Kt ops.toList x y=true):x.apart ops y=true:=by
 unfold Kt at h
 unfold Oper.apart
 rw [Zx,Zx] at h
 cases hx:x.dst <;> cases hy:y.dst <;> simp only [hx,hy,ahw] at h ⊢
 ·exact h
 ·exact h
 ·rename_i d
  cases hc:(Oper.looksAt ops y).contains d with
  | true=>rw [hc] at h; cases h
  | false=>rfl
 ·rename_i d e
  cases hc:(Oper.looksAt ops y).contains d with
  | true=>rw [hc] at h; cases h
  | false=>
   rw [hc] at h
   simp only [cond_false,Bool.and_eq_true,Bool.not_eq_true',gC] at h
   simp only [Bool.not_false,Bool.true_and,Bool.and_eq_true,Bool.not_eq_true']
   exact ⟨by simp; exact fun e'=>h.1 e'.symm,h.2⟩
theorem XX {i:Nat} {o:Oper}:∀ {l:List Oper} {k:Nat},CC ops.toList i o k l=true→∀ j x,l[j]? = some x→i=k+j∨i∈after x∨(k+j)∈after o∨o.apart ops x=true
 | [],_,_,j,x,hx=>by simp at hx
 | y :: r,k,h,j,x,hx=>by
  simp only [CC] at h
  cases hc:(Nat.beq i k || mH i (after y) || mH k (after o) || Kt ops.toList o y) with
  | false=>rw [hc] at h; cases h
  | true=>
   rw [hc] at h
   cases j with
   | zero=>
    simp at hx; subst hx
    simp only [Bool.or_eq_true,beq_eq,wK] at hc
    rcases hc with ((h1 | h1) | h1) | h1
    ·exact .inl (by omega)
    ·exact .inr (.inl h1)
    ·exact .inr (.inr (.inl (by simpa using h1)))
    ·exact .inr (.inr (.inr (ajC h1)))
   | succ j=>
    have:=XX h j x (by simpa using hx)
    rwa [show k+1+j=k+(j+1) by omega] at this
theorem XY:∀ {l:List Oper} {k:Nat},Ay ops.toList k l=true→∀ i o,l[i]? = some o→CC ops.toList (k+i) o 0 ops.toList=true
 | [],_,_,i,o,ho=>by simp at ho
 | y :: r,k,h,i,o,ho=>by
  simp only [Ay] at h
  cases hc:CC ops.toList k y 0 ops.toList with
  | false=>rw [hc] at h; cases h
  | true=>
   rw [hc] at h
   cases i with
   | zero=>simp at ho; subst ho; exact hc
   | succ i=>
    have:=XY h i o (by simpa using ho)
    rwa [show k+1+i=k+(i+1) by omega] at this
theorem akh {dn:List Nat} (xB:Ay ops.toList 0 ops.toList=true) {i j:Nat} {oi oj:Oper} (hi:(i,oi)∈nK ops.toList dn 0 ops.toList) (hj:ops[j]? = some oj) (gp:j≠i)
  (Un:j∉dn) (jE:i∉after oj):oi.apart ops oj=true:=by
 obtain ⟨h1,h2,h3⟩:=rY.1 hi
 have jL:=XY xB i oi (by simpa using h1)
 rw [Nat.zero_add] at jL
 have:=XX jL j oj (by simpa using hj)
 rw [Nat.zero_add] at this
 rcases this with h | h | h | h
 ·exact absurd h.symm gp
 ·exact absurd h jE
 ·exact absurd (h3 j h) Un
 ·exact h
theorem ajD {dn:List Nat} {i j:Nat} {o:Oper} (h:(i,o)∈nK ops.toList dn 0 ops.toList) (gp:i≠j):(i,o)∈nK ops.toList (j :: dn) 0 ops.toList:=by
 obtain ⟨h1,h2,h3⟩:=rY.1 h
 exact rY.2 ⟨h1,by simp [gp,h2],fun x hx=>List.mem_cons_of_mem _ (h3 x hx)⟩
theorem ai0 {Q:Act→World→Prop} (FQ:AO ops.toList=true) (xB:Ay ops.toList 0 ops.toList=true) {i:Nat} {oi:Oper} {v:Value} {rd:Rd} (qD:∀ c∈rd,c.1=i) :
  ∀ (f:Nat) (listed:Array Bool) (dn:List Nat) (C:Rd) (a:Act) (w:World),sO ops dn listed→(i,oi)∈nK ops.toList dn 0 ops.toList→YR P ops oi v a w rd→
   yU P ops Q (nM ops.toList []) f (listed.setIfInBounds i true) (rd ++ C) (a.put oi.dst v) w→yU P ops Q (nM ops.toList []) (f+1) listed C a w:=by
 have eu:∀ (j:Nat) (o:Oper),ops[j]? = some o→∀ cs b,o.op≠.select cs b:=fun j o ho=>Zw FQ o (by
  have:=List.mem_of_getElem? (l:=ops.toList) (i:=j) (a:=o) (by simpa using ho)
  exact this)
 intro f
 induction f with
 | zero=>
  intro listed dn C a w hl hi hy H
  have GD:=(At hl).2 ⟨oi,hi⟩
  refine ⟨fun h=>(by rw [h] at GD; cases GD),fun j hj=>?_⟩
  by_cases sP:j=i
  ·subst sP
   exact hy.wpOp (rY.1 hi).1 ⟨fun c _ _=>kept_refl _ _ _,RA (fun c hc=>List.mem_append_right _ hc) H⟩
  ·have:=ready_mono hj sP
   rw [H.1] at this
   cases this
 | succ f ih=>
  intro listed dn C a w hl hi hy H
  have GD:=(At hl).2 ⟨oi,hi⟩
  refine ⟨fun h=>(by rw [h] at GD; cases GD),fun j hj=>?_⟩
  by_cases sP:j=i
  ·subst sP
   exact hy.wpOp (rY.1 hi).1 ⟨fun c _ _=>kept_refl _ _ _,RA (fun c hc=>List.mem_append_right _ hc) H⟩
  ·have h1:=H.2 j (ready_mono hj sP)
   obtain ⟨oj,uy⟩:=(At hl).1 hj
   obtain ⟨zA,Un,Uo⟩:=rY.1 uy
   obtain ⟨hoi,dM,hia⟩:=rY.1 hi
   have jE:i∉after oj:=fun hm=>dM (Uo i hm)
   have an6:Nat.testBit ((nM ops.toList []).getD j 0) i=false:=by
    cases hb:Nat.testBit ((nM ops.toList []).getD j 0) i with
    | false=>rfl
    | true=>exact absurd (ajA hl j oj zA Uo hb) dM
   have h2:=ajB zA (akh xB hi zA sP Un jE) (eu i oi hoi) (eu j oj zA) hy (fun a' w' hK c hc=>hK.1 c (List.mem_append_left _ hc) (by rw [qD c hc]; exact an6)) h1
   refine wpOp_mono (fun a' w' h3=>⟨fun c hc hb=>h3.2.1 c (List.mem_append_right _ hc) hb,?_⟩) h2
   refine ih (listed.setIfInBounds j true) (j :: dn) C a' w' (hl.set uy) (ajD hi (Ne.symm sP)) h3.1 ?_
   rw [Array.setIfInBounds_comm _ _ sP]
   exact h3.2.2
theorem QW {mask:Nat} {w w':World} {A:Prop}:∀ {C:Rd},CO mask w w' A C→(∀ c∈C,Nat.testBit mask c.1=false→kept c.2.1 c.2.2 w w')∧A
 | [],h=>⟨fun _ h=>(by cases h),h⟩
 | (i,a,n) :: r,h=>by
  simp only [CO] at h
  cases hb:Nat.testBit mask i with
  | true=>
   rw [hb] at h
   obtain ⟨h1,h2⟩:=QW h
   refine ⟨fun c hc uz=>?_,h2⟩
   cases hc with
   | head=>rw [hb] at uz; cases uz
   | tail _ hc=>exact h1 c hc uz
  | false=>
   rw [hb] at h
   obtain ⟨h0,h⟩:=h
   obtain ⟨h1,h2⟩:=QW h
   refine ⟨fun c hc uz=>?_,h2⟩
   cases hc with
   | head=>exact h0
   | tail _ hc=>exact h1 c hc uz
theorem ai1 {s:St} {i:Nat} {o:Oper}:∀ c∈wL P ops.toList s i o,c.1=i:=by
 intro c hc
 unfold wL at hc
 split at hc
 ·split at hc
  ·rw [List.mem_singleton.1 hc]
  ·cases hc
 ·cases hc
theorem Xr:∀ {l:List (Nat×Oper)} {i:Nat} {o:Oper},Jr P l=some (i,o)→(i,o)∈l∧cls P o.op≤1
 | [],_,_,h=>by cases h
 | (j,x) :: r,i,o,h=>by
  simp only [Jr] at h
  cases hb:Nat.ble (cls P x.op) 1 with
  | true=>rw [hb] at h; cases h; exact ⟨List.mem_cons_self,Nat.le_of_ble_eq_true hb⟩
  | false=>rw [hb] at h; obtain ⟨h1,h2⟩:=Xr h; exact ⟨List.mem_cons_of_mem _ h1,h2⟩
theorem Z6 {A:Nat×Oper→Prop}:∀ {l:List (Nat×Oper)},Ty A l→∀ x∈l,A x
 | [],_,_,h=>by cases h
 | [x],h,y,hy=>by
  cases hy with
  | head=>exact h
  | tail _ hy=>cases hy
 | x :: z :: r,h,y,hy=>by
  cases hy with
  | head=>exact h.1
  | tail _ hy=>exact Z6 (l:=z :: r) h.2 y hy
theorem Kv [gF] (hP:Good P) {m:Mode} {K:Fr→World→Prop} {Q:Act→World→Prop} (hQ:∀ fr a w,Kn n ws f0 ⟨fr,[],[]⟩ a→K fr w→Q a w)
  (FQ:AO ops.toList=true) (xB:Ay ops.toList 0 ops.toList=true) (hd:∀ o∈ops.toList,∀ d,o.dst=some d→d<n∧d∈ws) :
  ∀ (f:Nat) (dn:List Nat) (C:Rd) (s:St) (a:Act) (w:World) (listed:Array Bool),sO ops dn listed→Kn n ws f0 s a→Bu P m ops (nM ops.toList []) f dn C s w K→
   yU P ops Q (nM ops.toList []) f listed C a w
 | 0,dn,C,s,a,w,listed,hl,hk,h=>by
  simp only [Bu] at h
  split at h
  ·rename_i ht
   refine ⟨List.eq_nil_iff_forall_not_mem.2 fun i hi=>?_,hQ s.fr a w hk.out h⟩
   obtain ⟨o,ho⟩:=(At hl).1 hi
   rw [ht] at ho; cases ho
  ·exact h.elim
 | f+1,dn,C,s,a,w,listed,hl,hk,h=>by
  simp only [Bu] at h
  split at h
  ·rename_i ht
   have A5:Region.ready .any ops listed=[]:=List.eq_nil_iff_forall_not_mem.2 fun i hi=>by
    obtain ⟨o,ho⟩:=(At hl).1 hi
    rw [ht] at ho; cases ho
   exact ⟨fun _=>hQ s.fr a w hk.out h,fun i hi=>by rw [A5] at hi; cases hi⟩
  ·rename_i x r ht
   have Z7:∀ {i:Nat} {o:Oper},(i,o)∈nK ops.toList dn 0 ops.toList→∀ d,o.dst=some d→d<n∧d∈ws:=fun {i o} ho=>
    hd o (List.mem_of_getElem? (l:=ops.toList) (i:=i) (by simpa using (rY.1 ho).1))
   split at h
   ·rename_i i o hq
    obtain ⟨hm,hc⟩:=Xr hq
    rw [← ht] at hm
    obtain ⟨v,s',h1,h2,h3⟩:=Yx (i:=i) hd hk (Z7 hm) hc h
    have:=Kv hP hQ FQ xB hd f (i :: dn) _ s' _ w _ (hl.set hm) h2 h3
    exact ai0 FQ xB ai1 f listed dn C a w hl hm h1 this
   ·rw [← ht] at h
    refine ⟨fun A5=>?_,fun i hi=>?_⟩
    ·exfalso
     have hx:x∈nK ops.toList dn 0 ops.toList:=by rw [ht]; exact List.mem_cons_self
     have:=(At hl).2 ⟨x.2,by simpa using hx⟩
     rw [A5] at this; cases this
    ·obtain ⟨o,ho⟩:=(At hl).1 hi
     have h1:=Z6 h (i,o) ho
     have h2:=Z5 (ops:=ops) (Q:=Q0 Q) hP hd hk (Z7 ho) h1
     unfold wpOp
     rw [(rY.1 ho).1]
     simp only
     have go:∀ a' w',(∃ s',Kn n ws f0 s' a'∧CO ((nM ops.toList []).getD i 0) w w' (Bu P m ops (nM ops.toList []) f (i :: dn) C s' w' K) C)→
       (∀ c∈C,Nat.testBit ((nM ops.toList []).getD i 0) c.1=false→kept c.2.1 c.2.2 w w')∧yU P ops Q (nM ops.toList []) f (listed.setIfInBounds i true) C a' w':=fun a' w' ⟨s',h3,h4⟩=>by
      obtain ⟨h5,h6⟩:=QW h4
      exact ⟨h5,Kv hP hQ FQ xB hd f (i :: dn) C s' a' w' _ (hl.set ho) h3 h6⟩
     split
     ·rename_i hw
      rw [if_pos hw] at h2
      exact .inl (Oper.wp_mono go h2)
     ·rename_i hw
      rw [if_neg hw] at h2
      exact go _ _ h2
theorem aaK [gF] (hP:Good P) {m:Mode} {draw:Bool} {id:Nat} {fr:Fr} {a:Act} {w:World} {K:Fr→World→Prop} {Q:Exit→Act→World→Prop} (hQ:∀ fr a w,Kn n ws f0 ⟨fr,[],[]⟩ a→K fr w→Q .normal a w)
  (hd:∀ o∈ops.toList,∀ d,o.dst=some d→d<n∧d∈ws) (hk:Kn n ws f0 ⟨fr,[],[]⟩ a) (h:Bv P m ops draw fr w K):(Code.region id ops draw).wp P Q a w:=by
 unfold Bv at h
 cases draw with
 | false=>
  exact wp_region_list (Fw hP hd hQ _ _ a w hd hk h)
 | true=>
  obtain ⟨hc,h⟩:=iO h
  simp only [Bool.and_eq_true] at hc
  have hl:sO ops [] (Array.replicate ops.size false):=⟨by simp,fun j hj=>(by simp [hj]),fun j hj=>(by cases hj),fun j o _ hm=>(by cases hm)⟩
  have h1:=Kv hP (Q:=fun a w=>Q .normal a w) (fun fr a w h1 h2=>hQ fr a w h1 h2) hc.1 hc.2 hd _ [] [] _ a w.drew _ hl hk h
  have h2:(Code.region id ops true).wp P (Q0 fun a w=>Q .normal a w) a w:=wp_region_any hP.mixed (by
   have:=RM h1
   rw [Array.length_toList] at this
   exact this)
  exact wp_mono h2 fun e a w hq=>by cases e <;> first | exact hq | exact hq.elim
end Go.Ev
end
section
set_option linter.unusedVariables false
set_option linter.unusedSimpArgs false
namespace Go.Ev
open Go
variable {P:Program} {n:Nat} {m:Mode} {J L:sJ}
structure KF [gF] (n:Nat) (fr:Fr) (a:Act):Prop where
 size:a.tmps.size=n
 defers:a.defers=gF.ds
 fr:∀ t v,look t fr=some v→slot a t=v
theorem KF.kn [gF] {fr:Fr} {a:Act} (h:KF n fr a) (ws:List Nat):Kn n ws fr ⟨fr,[],[]⟩ a:=
 ⟨h.size,h.defers,fun t v hl _=>h.fr t v hl,fun t k v hl=>(by cases hl),List.nodup_nil,fun g b hl=>(by cases hl),fun t kv hl=>(by cases hl),fun _ _=>rfl,fun x hx=>(by cases hx)⟩
theorem Kn.kf [gF] {ws:List Nat} {f0 fr:Fr} {a:Act} (h:Kn n ws f0 ⟨fr,[],[]⟩ a):KF n fr a:=⟨h.size,h.defers,fun t v hl=>h.fr t v hl rfl⟩
theorem CF:∀ {l:List Oper} {d:Nat},d∈rm l↔∃ o∈l,o.dst=some d
 | [],d=>by simp [rm]
 | o :: r,d=>by
  simp only [rm]
  cases ho:o.dst with
  | none=>simp [CF (l:=r),ho]
  | some x=>
   simp only [List.mem_cons,CF (l:=r)]
   constructor
   ·rintro (rfl | ⟨o',h1,h2⟩)
    ·exact ⟨o,.inl rfl,ho⟩
    ·exact ⟨o',.inr h1,h2⟩
   ·rintro ⟨o',h1 | h1,h2⟩
    ·subst h1; rw [ho] at h2; cases h2; exact .inl rfl
    ·exact .inr ⟨o',h1,h2⟩
def FR (ws:List Nat) (f g:Fr):Prop:=∀ t,t∉ws→look t g=look t f
set_option linter.unusedVariables false
theorem XZ (t:Nat) (f g:Fr):look t (f ++ g)=if t∈f.map (·.1) then look t f else look t g:=by
 induction f with
 | nil=>simp
 | cons y r ih=>
  obtain ⟨s,v⟩:=y
  simp only [List.cons_append,look]
  cases hb:Nat.beq s t with
  | true=>simp [beq_eq.1 hb]
  | false=>
   have:t≠s:=fun e=>gC.1 hb e.symm
   simp only [cond_false,ih,List.map_cons,List.mem_cons,this,false_or]
theorem QX (ws:List Nat) (t:Nat):∀ (f:Fr),look t (strip ws f)=if t∈ws then none else look t f
 | []=>by simp [strip,look]
 | (s,v) :: r=>by
  have ih:=QX ws t r
  simp only [strip]
  cases hw:mH s ws with
  | true=>
   simp only [cond_true,ih,look]
   cases hb:Nat.beq s t with
   | true=>have:=wK.1 hw; rw [beq_eq.1 hb] at this; simp [this]
   | false=>rfl
  | false=>
   simp only [cond_false,look]
   cases hb:Nat.beq s t with
   | true=>
    have:t∉ws:=fun hm=>by rw [← beq_eq.1 hb] at hm; rw [wK.2 hm] at hw; cases hw
    simp [this]
   | false=>simpa using ih
theorem X0 (fr:Fr):∀ ls:List (Nat×Sh),(carry fr ls).map (·.1)=ls.map (·.1)
 | []=>rfl
 | (t,s) :: r=>by simp [carry,X0 fr r]
theorem Yz (fr:Fr) (t:Nat):∀ ls:List (Nat×Sh),t∈ls.map (·.1)→look t (carry fr ls)=look t fr
 | [],h=>by cases h
 | (s,x) :: r,h=>by
  simp only [carry,look]
  cases hb:Nat.beq s t with
  | true=>rw [beq_eq.1 hb]; rfl
  | false=>
   have:t≠s:=fun e=>gC.1 hb e.symm
   simp [this] at h
   exact Yz fr t r (by simpa using h)
theorem yC {ws:List Nat}:∀ {ls:List (Nat×Sh)},yP ls ws=true→∀ t∈ls.map (·.1),t∈ws
 | [],_,t,h=>by cases h
 | (s,x) :: r,h,t,ht=>by
  simp only [yP] at h
  cases hw:mH s ws with
  | true=>
   rw [hw] at h
   rcases List.mem_cons.1 ht with h1 | h1
   ·rw [h1]; exact wK.1 hw
   ·exact yC h t h1
  | false=>rw [hw] at h; cases h
theorem Xs {s:Sh} {F:Value→Prop} (h:∀ v,F v):J1 s F:=by
 cases s <;> simp only [J1] <;> intros <;> exact h _
theorem WW:∀ {l:List Sh} {F:List Value→Prop},(∀ v,F v)→Rw l F
 | [],F,h=>h []
 | s :: r,F,h=>Xs fun v=>WW fun vs=>h (v :: vs)
theorem aiy {s:Sh} {F:Value→Prop} (h:∀ v,F v):S5 s F:=by
 cases s
 case cells l=>exact WW fun vs=>h _
 all_goals (simp only [S5]; exact Xs h)
theorem yo:∀ {ls:List (Nat×Sh)} {F:Fr→Prop},(∀ fr:Fr,fr.map (·.1)=ls.map (·.1)→F fr)→AP ls F
 | [],F,h=>h [] rfl
 | (t,s) :: r,F,h=>aiy fun v=>yo fun fr hf=>h _ (by simp [hf])
theorem vu [gF] {ws:List Nat} {f f':Fr} {ls:List (Nat×Sh)} {a:Act} (h:KF n f' a) (hs:∀ t,t∉ws→look t f'=look t f):KF n (carry f' ls ++ strip ws f) a:=by
 refine ⟨h.size,h.defers,fun t v hl=>?_⟩
 rw [XZ,X0] at hl
 split at hl
 ·rename_i hm
  rw [Yz f' t ls hm] at hl
  exact h.fr t v hl
 ·rw [QX] at hl
  split at hl
  ·cases hl
  ·rename_i hw
   exact h.fr t v ((hs t hw).trans hl)
theorem Au {ws:List Nat} {f fr:Fr} {ls:List (Nat×Sh)} (hf:fr.map (·.1)=ls.map (·.1)) (dM:∀ t∈ls.map (·.1),t∈ws) {t:Nat} (ht:t∉ws):look t (fr ++ strip ws f)=look t f:=by
 rw [XZ,hf,if_neg (fun hm=>ht (dM t hm)),QX,if_neg ht]
def KG (P:Program) (c:Code) (Q:Exit→Act→World→Prop) (a:Act) (w:World):Prop:=
 ∀ (b:Frame) (k:List Item) (cs:List Frame),∃ e a' w',Q e a' w'∧Arrives P (lone (b.at a (.code c :: .inLoop c :: k)) cs w) b k cs e a' w'
theorem aki {c:Code} {Q:Exit→Act→World→Prop} {a:Act} {w:World} (h:c.wp P (Exit.then (KG P c Q) Q) a w):KG P c Q a w:=by
 intro b k cs
 obtain ⟨e,a₁,w₁,hq,jW⟩:=h b (.inLoop c :: k) cs
 cases e with
 | normal=>
  obtain ⟨e₂,a₂,w₂,FH,E4⟩:=hq b k cs
  exact ⟨e₂,a₂,w₂,FH,.of_steps (Steps.trans jW (.one step_inLoop)) E4⟩
 | exit id=>exact ⟨_,a₁,w₁,hq,.pass (x:=.inLoop c) rfl (fun _ _=>.inl (by simp)) jW⟩
 | goto l=>exact ⟨_,a₁,w₁,hq,.pass (x:=.inLoop c) rfl (fun _ _=>.inl (by simp)) jW⟩
 | ret=>exact ⟨_,a₁,w₁,hq,.pass (x:=.inLoop c) rfl (fun _ _=>.inl (by simp)) jW⟩
 | panic ch=>exact ⟨_,a₁,w₁,hq,.pass (x:=.inLoop c) rfl (fun _ _=>.inl (by simp)) jW⟩
 | outgrown=>exact ⟨_,a₁,w₁,hq,.pass (x:=.inLoop c) rfl (fun _ _=>.inl (by simp)) jW⟩
theorem alq {c:Code} {Q:Exit→Act→World→Prop} {a:Act} {w:World} (h:KG P c Q a w):(Code.loop c).wp P Q a w:=by
 intro b k cs
 obtain ⟨e,a',w',hq,jW⟩:=h b k cs
 exact ⟨e,a',w',hq,.of_steps (.one step_loop) jW⟩
theorem tM [gF] (hP:Good P):∀ (c:Code),(∀ d∈writes c,d<n)→∀ {fr:Fr} {a:Act} {w:World} {Q':rq} {Q:Exit→Act→World→Prop},KF n fr a→
  (∀ e aS a' w',KF n aS a'→FR (writes c) fr aS→Q' e aS w'→Q e a' w')→gE P m J L c fr w Q'→c.wp P Q a w
 | .skip,_,fr,a,w,Q',Q,hk,hq,h=>wp_skip (hq _ _ _ _ hk (fun _ _=>rfl) h)
 | .exit id,_,fr,a,w,Q',Q,hk,hq,h=>wp_exit (hq _ _ _ _ hk (fun _ _=>rfl) h)
 | .ret,_,fr,a,w,Q',Q,hk,hq,h=>wp_ret (hq _ _ _ _ hk (fun _ _=>rfl) h)
 | .region id ops draw,hw,fr,a,w,Q',Q,hk,hq,h=>by
  refine aaK (n:=n) (ws:=rm ops.toList) (f0:=fr) (m:=m) hP (K:=fun aS w'=>Q' .normal aS w') (fun aS a' w' h1 h2=>hq .normal aS a' w' h1.kf (fun t ht=>h1.AY t ht) h2) (fun o ho d hd=>?_) (hk.kn _) h
  have:d∈rm ops.toList:=CF.2 ⟨o,ho,hd⟩
  exact ⟨hw d this,this⟩
 | .cond c x y,hw,fr,a,w,Q',Q,hk,hq,h=>by
  simp only [gE] at h
  split at h
  ·rename_i t ht
   have hc:=(hk.kn []).val (Sat.nil a) ht
   have hx:∀ d∈writes x,d<n:=fun d hd=>hw d (List.mem_append_left _ hd)
   have hy:∀ d∈writes y,d<n:=fun d hd=>hw d (List.mem_append_right _ hd)
   refine wp_cond hc ?_
   cases t with
   | true=>
    exact tM hP x hx hk (fun e aS a' w' h1 h2 h3=>hq e aS a' w' h1 (fun t ht=>h2 t (fun hm=>ht (List.mem_append_left _ hm))) h3) h
   | false=>
    exact tM hP y hy hk (fun e aS a' w' h1 h2 h3=>hq e aS a' w' h1 (fun t ht=>h2 t (fun hm=>ht (List.mem_append_right _ hm))) h3) h
  ·exact h.elim
 | .block id c,hw,fr,a,w,Q',Q,hk,hq,h=>by
  refine wp_block (tM hP c hw hk (fun e aS a' w' h1 h2 h3=>?_) h)
  cases e with
  | exit i=>
   simp only [EX] at h3
   simp only [Exit.inBlock]
   cases hb:Nat.beq i id with
   | true=>rw [hb] at h3; rw [if_pos (beq_eq.1 hb)]; exact hq _ _ _ _ h1 h2 h3
   | false=>rw [hb] at h3; rw [if_neg (gC.1 hb)]; exact hq _ _ _ _ h1 h2 h3
  | _=>exact hq _ _ _ _ h1 h2 h3
 | .seq x y,hw,fr,a,w,Q',Q,hk,hq,h=>by
  have hx:∀ d∈writes x,d<n:=fun d hd=>hw d (List.mem_append_left _ hd)
  have hy:∀ d∈writes y,d<n:=fun d hd=>hw d (List.mem_append_right _ hd)
  simp only [gE] at h
  refine wp_seq ?_
  split at h
  ·refine tM hP x hx hk (fun e aS a' w' h1 h2 h3=>?_) h
   have off:∀ e,Q' e aS w'→Q e a' w':=fun e h4=>hq e aS a' w' h1 (fun t ht=>h2 t (fun hm=>ht (List.mem_append_left _ hm))) h4
   cases e with
   | normal=>
    exact tM hP y hy h1 (fun e jm a2 w2 h4 h5 h6=>hq e jm a2 w2 h4 (fun t ht=>
     (h5 t (fun hm=>ht (List.mem_append_right _ hm))).trans (h2 t (fun hm=>ht (List.mem_append_left _ hm)))) h6) h3
   | _=>exact off _ h3
  ·rename_i ls DF
   obtain ⟨dM,h⟩:=iO h
   have dM:=yC dM
   have h':=h (fun iG w'=>∀ a',KF n (iG ++ strip (writes x) fr) a'→y.wp P Q a' w') (yo fun iG hf w' zB a' gO=>
    tM hP y hy gO (fun e jm a2 w2 h4 h5 h6=>hq e jm a2 w2 h4 (fun t ht=>
     (h5 t (fun hm=>ht (List.mem_append_right _ hm))).trans (Au hf dM (fun hm=>ht (List.mem_append_left _ hm)))) h6) zB)
   refine tM hP x hx hk (fun e aS a' w' h1 h2 h3=>?_) h'
   have off:∀ e,Q' e aS w'→Q e a' w':=fun e h4=>hq e aS a' w' h1 (fun t ht=>h2 t (fun hm=>ht (List.mem_append_left _ hm))) h4
   cases e with
   | normal=>exact h3 a' (vu h1 h2)
   | _=>exact off _ h3
 | .loop c,hw,fr,a,w,Q',Q,hk,hq,h=>by
  simp only [gE] at h
  split at h
  ·exact h.elim
  ·rename_i ls DF
   obtain ⟨dM,h⟩:=iO h
   have dM:=yC dM
   have h':=h (fun iG w'=>∀ a',KF n (iG ++ strip (writes c) fr) a'→KG P c Q a' w') (yo fun iG hf w' vU a' gO=>aki (
    tM hP c hw gO (fun e jm a2 w2 h4 h5 h6=>by
     have same:∀ t,t∉writes c→look t jm=look t fr:=fun t ht=>(h5 t ht).trans (Au hf dM ht)
     have off:∀ e,Q' e jm w2→Q e a2 w2:=fun e h7=>hq e jm a2 w2 h4 same h7
     cases e with
     | normal=>exact h6 a2 (vu h4 same)
     | _=>exact off _ h6) vU))
   exact alq (h' a (vu hk (fun _ _=>rfl)))
 | .rangeFunc ..,_,_,_,_,_,_,_,_,h=>(by simp only [gE] at h)
 | .scope c,hw,fr,a,w,Q',Q,hk,hq,h=>by
  simp only [gE] at h
  refine wp_scope_straight (tM hP c hw hk (fun e aS a' w' h1 h2 h3=>?_) h)
  cases e with
  | goto l=>exact h3.elim
  | _=>exact hq _ _ _ _ h1 h2 h3
 | .label l,hw,fr,a,w,Q',Q,hk,hq,h=>by
  simp only [gE] at h
  exact wp_label (hq _ _ _ _ hk (fun _ _=>rfl) h)
 | .goto _,_,_,_,_,_,_,_,_,h=>(by simp only [gE] at h)
 | .refuse _,_,_,_,_,_,_,_,_,h=>(by simp only [gE] at h)
theorem RB [gF] {fr:Fr} {a:Act} (hk:KF n fr a) {w:World}:∀ {l:List ResultVar} {K:List Value→Prop},wO P fr w l K→
  ∃ vs,vs.length=l.length∧(l.mapM fun | .tmp t=>pure (a.tmps.getD t undef) | .cell x t=>do loadVar t (← asAddr (a.tmps.getD x undef)):Sem (List Value)).run P w=.ok vs w∧K vs
 | [],K,h=>⟨[],rfl,rfl,h⟩
 | .tmp t :: r,K,h=>by
  simp only [wO] at h
  split at h
  ·rename_i v hv
   obtain ⟨vs,h1,h2,h3⟩:=RB hk h
   refine ⟨v :: vs,by simp [h1],?_,h3⟩
   have hs:a.tmps.getD t undef=v:=hk.fr t v hv
   rw [List.mapM_cons,Sem.run_bind]
   simp only [Sem.run_pure,Result.andThen_ok]
   rw [Sem.run_bind,h2,hs]; rfl
  ·exact h.elim
 | .cell t ty :: r,K,h=>by
  simp only [wO] at h
  split at h
  ·rename_i p hv
   obtain ⟨v,h0,h1⟩:=So h
   obtain ⟨vs,h2,h3,h4⟩:=RB hk h0
   refine ⟨v :: vs,by simp [h2],?_,h4⟩
   have hs:a.tmps.getD t undef=.pointer (some p):=hk.fr t _ hv
   rw [List.mapM_cons,Sem.run_bind]
   show ((asAddr (a.tmps.getD t undef) >>= fun p=>loadVar ty p).run P w).andThen _=_
   have e1:(asAddr (a.tmps.getD t undef) >>= fun p=>loadVar ty p).run P w=.ok v w:=by rw [hs]; exact h1 w (kept_refl _ _ _)
   rw [e1,Result.andThen_ok,Sem.run_bind,h3]; rfl
  ·exact h.elim
theorem Cu [gF] {fn:Func} {fr:Fr} {a:Act} (hk:KF n fr a) {w:World} {R:Value→World→Prop} (h:wO P fr w fn.results.toList (Ku R w)) :
  ∃ v,(results fn a.tmps).run P w=.ok v w∧R v w:=by
 obtain ⟨vs,h1,h2,h3⟩:=RB hk h
 have hm:(fn.results.mapM fun | .tmp t=>pure (a.tmps.getD t undef) | .cell x t=>do loadVar t (← asAddr (a.tmps.getD x undef)):Sem (Array Value)).run P w=.ok ⟨vs⟩ w:=by
  rw [Array.mapM_eq_mapM_toList,Sem.run_map,h2]; rfl
 refine ⟨if h:(Array.mk vs).size=1 then (Array.mk vs)[0] else .tuple ⟨vs⟩,?_,?_⟩
 ·unfold results
  rw [Sem.run_bind]
  exact (congrArg (fun r=>Result.andThen r fun (vs:Array Value) w'=>Sem.run P (pure (if h:vs.size=1 then vs[0] else .tuple vs)) w') hm).trans rfl
 ·match vs,h3 with
  | [],h3=>exact h3
  | [v],h3=>exact h3
  | v :: u :: r,h3=>exact h3
theorem JC:∀ {l:List Value} {i t:Nat} {v:Value},look t (wY i l)=some v→i≤t∧l[t - i]? = some v
 | [],_,_,_,h=>by cases h
 | x :: r,i,t,v,h=>by
  simp only [wY,look] at h
  cases hb:Nat.beq i t with
  | true=>
   rw [hb] at h; cases h
   have:=beq_eq.1 hb
   exact ⟨by omega,by simp [this]⟩
  | false=>
   rw [hb] at h
   have gp:=gC.1 hb
   obtain ⟨h1,h2⟩:=JC h
   refine ⟨by omega,?_⟩
   rw [show t - i=(t - (i+1))+1 by omega]
   simpa using h2
theorem JD {n:Nat}:∀ {l:List Nat},Dh n l=true→∀ d∈l,d<n
 | [],_,d,h=>by cases h
 | x :: r,h,d,hd=>by
  simp only [Dh] at h
  cases hb:Nat.blt x n with
  | true=>
   rw [hb] at h
   rcases List.mem_cons.1 hd with h1 | h1
   ·rw [h1]; exact Nat.le_of_ble_eq_true hb
   ·exact JD h d h1
  | false=>rw [hb] at h; cases h
theorem aP (hP:Good P) {f:FuncId} {fn:Func} (hf:P.funcs[f]? = some fn) {args:List Value} (FI:Nat.ble args.length fn.ntmps=true) {w:World} {R:Value→World→Prop}
  (h:aO P m J L fn args w R):Ok P f args w R:=by
 have hlen:args.length≤fn.ntmps:=Nat.le_of_ble_eq_true FI
 unfold aO at h
 split at h
 ·rename_i c hc
  obtain ⟨cI,h⟩:=iO h
  refine calls_of_wp hf hc (tM (n:=fn.ntmps) (m:=m) (J:=J) (L:=L) hP c (JD cI) (fr:=wY 0 args) ⟨?_,rfl,fun t v hl=>?_⟩ (fun e aS a' w' hk _ hq=>?_) h)
  ·simp; omega
  ·obtain ⟨_,h2⟩:=JC hl
   have h3:args[t]? = some v:=by simpa using h2
   have h4:t<args.length:=(List.getElem?_eq_some_iff.1 h3).1
   show Array.getD _ t undef=v
   rw [Array.getD_eq_getD_getElem?,Array.getElem?_append_left (by simpa using h4)]
   simp [h3]
  ·cases e with
   | normal=>
    obtain ⟨v,h1,h2⟩:=Cu (fn:=fn) hk hq
    exact ⟨hk.defers,v,h1,v,rfl,h2⟩
   | ret=>
    obtain ⟨v,h1,h2⟩:=Cu (fn:=fn) hk hq
    exact ⟨hk.defers,v,h1,v,rfl,h2⟩
   | _=>exact hq.elim
 ·exact h.elim
#print axioms aP
end Go.Ev
end
section
set_option linter.unusedVariables false
set_option linter.unusedSimpArgs false
namespace Go.Ev
open Go Go.RowKit
variable {P:Program}
structure Mod (S:List Nat) (w w':World):Prop where
 os:w'.os=w.os
 tape:w'.tape=w.tape
 output:w'.output=w.output
 size:w.heap.size≤w'.heap.size
 block:∀ k,k<w.heap.size→k∉S→w'.heap[k]? = w.heap[k]?
theorem Mod.refl (S:List Nat) (w:World):Mod S w w:=⟨rfl,rfl,rfl,Nat.le_refl _,fun _ _ _=>rfl⟩
theorem Mod.trans' {S T:List Nat} {w w1 w2:World} (h:Mod S w w1) (k:Mod T w1 w2) (hT:∀ b∈T,b∈S∨w.heap.size≤b):Mod S w w2:=
 ⟨k.os.trans h.os,k.tape.trans h.tape,k.output.trans h.output,Nat.le_trans h.size k.size,fun b hb hn=>
  (k.block b (Nat.lt_of_lt_of_le hb h.size) (fun hm=>(hT b hm).elim hn (fun h1=>by omega))).trans (h.block b hb hn)⟩
theorem Mod.trans {S:List Nat} {w w1 w2:World} (h:Mod S w w1) (k:Mod S w1 w2):Mod S w w2:=h.trans' k fun _ hb=>.inl hb
theorem Mod.then {S:List Nat} {w w1 w2:World} (h:Mod S w w1) (k:Mod [] w1 w2):Mod S w w2:=h.trans' k fun _ hb=>by cases hb
theorem Mod.mono {S T:List Nat} {w w':World} (h:Mod S w w') (hs:∀ b∈S,b∈T):Mod T w w':=
 ⟨h.os,h.tape,h.output,h.size,fun b hb hn=>h.block b hb fun hm=>hn (hs b hm)⟩
theorem Mod.of_nil {T:List Nat} {w w':World} (h:Mod [] w w'):Mod T w w':=h.mono fun _ hb=>by cases hb
theorem Mod.drew (S:List Nat) (w:World):Mod S w w.drew:=⟨rfl,rfl,rfl,Nat.le_refl _,fun _ _ _=>rfl⟩
theorem Mod.alloc (S:List Nat) (w:World) (o:Obj):Mod S w (w.alloc o):=⟨rfl,rfl,rfl,by simp,fun k hk _=>Below.heap_alloc _ _ _ hk⟩
theorem Mod.setCell (w:World) (a:Addr) (v:Value):Mod [a.block] w (w.setCell a v):=
 ⟨rfl,rfl,rfl,by simp,fun k _ hn=>Below.heap_setCell _ _ _ _ (fun e=>hn (by simp [e]))⟩
theorem Mod.grown {w w':World} {row:Option Nat} (h:w.grownBy w' row):Mod row.toList w w':=
 ⟨h.os,h.tape,h.output,h.size,fun k hk hn=>h.block k hk (fun e=>hn (by rw [← e]; simp))⟩
theorem Mod.below {w w':World} (h:Mod [] w w'):Below w.heap.size w w':=⟨h.os,h.tape,h.output,h.size,fun k hk=>h.block k hk (by simp)⟩
theorem Mod.cell? {S:List Nat} {w w':World} (h:Mod S w w') {a:Addr} (ha:a.block<w.heap.size) (hn:a.block∉S):w'.cell? a=w.cell? a:=
 World.cell?_of_block (h.block _ ha hn)
theorem Mod.cell {S:List Nat} {w w':World} (h:Mod S w w') {a:Addr} {v:Value} (hv:w.cell? a=some v) (hn:a.block∉S):w'.cell? a=some v:=
 (h.cell? (World.block_lt_of_cell? _ _ hv) hn).trans hv
theorem Mod.yQ {w w':World} (h:Mod [] w w') {a:Addr} {v:Value} (hv:w.cell? a=some v):w'.cell? a=some v:=h.cell hv (by simp)
theorem J7 {S:List Nat} {w w':World} (h:Mod S w w') {a:Addr} {n:Nat} (ha:a.block<w.heap.size) (hn:a.block∉S):kept a n w w':=fun j _=>by
 have:(a.add j).block=a.block:=by unfold Addr.add; split <;> rfl
 exact h.cell? (this ▸ ha) (this ▸ hn)
theorem RN {w w':World} (h:Mod [] w w') {a:Addr} {n:Nat} {v:Value} (ha:w.cell? a=some v):kept a n w w':=J7 h (World.block_lt_of_cell? _ _ ha) (by simp)
def bQ (w:World) (b:Nat) (cs:List Value) (t:TypeId):Prop:=w.heap[b]? = some (.cells ⟨cs⟩ t (0,0))
section
variable {w w':World} {b:Nat} {cs:List Value} {t:TypeId}
theorem bQ.lt (h:bQ w b cs t):b<w.heap.size:=(Array.getElem?_eq_some_iff.1 h).1
theorem bQ.cell (h:bQ w b cs t) (i:Nat):w.cell? ⟨b,i,none⟩=cs[i]?:=by
 unfold bQ at h; simp [World.cell?,h]
theorem bQ.frozen (h:bQ w b cs t) (i:Nat):w.frozen? ⟨b,i,none⟩=false:=by
 unfold bQ at h; simp [World.frozen?,h]
theorem bQ.mod {S:List Nat} (h:bQ w b cs t) (hm:Mod S w w') (hn:b∉S):bQ w' b cs t:=(hm.block b h.lt hn).trans h
theorem bQ.aI (h:bQ w b cs t) (hm:Mod [] w w'):bQ w' b cs t:=h.mod hm (by simp)
theorem bQ.new (w:World) (cs:List Value) (t:TypeId):bQ (w.alloc (.cells ⟨cs⟩ t)) w.heap.size cs t:=by
 unfold bQ World.alloc; simp
theorem bQ.set (h:bQ w b cs t) (i:Nat) (v:Value):bQ (w.setCell ⟨b,i,none⟩ v) b (cs.set i v) t:=by
 unfold bQ at *
 simp only [World.setCell,Array.getElem?_modify,if_true,h,Option.map_some]
 simp
end
theorem tN (b o n:Nat):Addr.add ⟨b,o,none⟩ n=⟨b,o+n,none⟩:=by
 unfold Addr.add; split <;> simp_all
theorem rZ (a:Addr) (n:Nat):(a.add n).block=a.block:=by unfold Addr.add; split <;> rfl
theorem add_add (a:Addr) (m n:Nat):(a.add m).add n=a.add (m+n):=by
 unfold Addr.add
 split <;> split <;> simp_all <;> omega
theorem cN {b:Bool} {A B:Prop} (h1:b=true→A) (h2:b=false→B):az b A B:=by cases b <;> first | exact h2 rfl | exact h1 rfl
theorem ite_true {b:Bool} {A B:Prop} (hb:b=true) (h:A):az b A B:=by rw [hb]; exact h
theorem ite_false {b:Bool} {A B:Prop} (hb:b=false) (h:B):az b A B:=by rw [hb]; exact h
theorem aC {f:FuncId} {args:List Value} {w:World} {R K:Value→World→Prop} (h:Ok P f args w R) (hk:∀ v w',R v w'→K v w'):ax P f args w K:=
 Calls.mono h fun _ _ ⟨v,h1,h2⟩=>⟨v,h1,hk v _ h2⟩
theorem Ok.mono {f:FuncId} {args:List Value} {w:World} {R K:Value→World→Prop} (h:Ok P f args w R) (hk:∀ v w',R v w'→K v w'):Ok P f args w K:=aC h hk
theorem oL {t:TypeId} {cs:List Value} {w:World} {K:Addr→World→Prop} (h:∀ b w',b=w.heap.size→bQ w' b cs t→Mod [] w w'→w'.heap.size=w.heap.size+1→K ⟨b,0,none⟩ w'):nw t cs w K:=
 h _ _ rfl (bQ.new w cs t) (Mod.alloc _ _ _) (by simp)
theorem anl {a:Addr} {u v:Value} {w:World} {K:World→Prop} (h1:w.cell? a=some u) (h2:w.frozen? a=false) (h3:fW v=true) (h:K (w.setCell a v)):st a v w K:=
 ⟨⟨u,h1⟩,h2,by cases v <;> first | exact h | cases h3⟩
theorem SM {b i:Nat} {v:Value} {w:World} {cs:List Value} {t:TypeId} {K:World→Prop} (hb:bQ w b cs t) (hi:i<cs.length) (h3:fW v=true)
  (h:∀ w',bQ w' b (cs.set i v) t→Mod [b] w w'→w'.heap.size=w.heap.size→K w'):st ⟨b,i,none⟩ v w K:=
 anl (u:=cs[i]) (by rw [hb.cell]; simp [hi]) (hb.frozen i) h3 (h _ (hb.set i v) (Mod.setCell w ⟨b,i,none⟩ v) (by simp))
structure Sl (w:World) (s:ah) (sz:Nat) (vs:List Value):Prop where
 len:vs.length=s.n * sz
 cap:s.n≤s.c
 pre:0<s.n→s.a.isSome=true
 cell:∀ i v,vs[i]? = some v→w.cell? ((base s.a).add i)=some v
def off (S:List Nat) (s:ah):Prop:=0<s.n→∀ a,s.a=some a→a.block∉S
theorem sq (s:ah):off [] s:=fun _ _ _=>by simp
theorem off.mono {S T:List Nat} {s:ah} (h:off S s) (hs:∀ b∈T,b∈S):off T s:=fun h0 a ha hb=>h h0 a ha (hs _ hb)
theorem Sl.mod {w w':World} {s:ah} {sz:Nat} {vs:List Value} (h:Sl w s sz vs) {S:List Nat} (hm:Mod S w w') (hn:off S s):Sl w' s sz vs:=by
 refine ⟨h.len,h.cap,h.pre,fun i v hv=>?_⟩
 have h1:=h.cell i v hv
 refine hm.cell h1 ?_
 rw [rZ]
 have h0:0<s.n:=by
  rcases Nat.eq_zero_or_pos s.n with e | e
  ·have:=h.len; rw [e,Nat.zero_mul] at this
   have:=List.length_eq_zero_iff.1 this; rw [this] at hv; simp at hv
  ·exact e
 obtain ⟨a,ha⟩:=Option.isSome_iff_exists.1 (h.pre h0)
 rw [ha]; exact hn h0 a ha
theorem Sl.aI {w w':World} {s:ah} {sz:Nat} {vs:List Value} (h:Sl w s sz vs) (hm:Mod [] w w'):Sl w' s sz vs:=h.mod hm (sq s)
theorem Sl.block {w:World} {s:ah} {sz:Nat} {vs:List Value} (h:Sl w s sz vs) (gV:0<sz) (h0:0<s.n) {a:Addr} (ha:s.a=some a):a.block<w.heap.size:=by
 have hl:0<vs.length:=by rw [h.len]; exact Nat.mul_pos h0 gV
 have h1:=h.cell 0 vs[0] (by simp [hl])
 have:=World.block_lt_of_cell? _ _ h1
 rw [rZ,ha] at this
 exact this
theorem Sl.alr {w:World} {s:ah} {sz:Nat} {vs:List Value} (h:Sl w s sz vs) (gV:0<sz) {S:List Nat} (hS:∀ b∈S,w.heap.size≤b):off S s:=fun h0 a ha hb=>by
 have:=h.block gV h0 ha
 have:=hS _ hb
 omega
theorem Sl.nil (w:World) (sz:Nat):Sl w ⟨none,0,0⟩ sz []:=⟨by simp,by simp,by simp,by simp⟩
def TD (w:World) (s:ah) (k:IntKind) (xs:List Int):Prop:=Sl w s 1 (xs.map (Value.int k))∧∀ x∈xs,k.min≤x∧x≤k.max
def abR (P:Program) (t e:TypeId) (sz bytes:Nat):Bool:=
 (match P.underlying t with | some (.slice e')=>Nat.beq e' e | _=>false) &&
 (match P.info? e with | some i=>Nat.beq i.size sz && Nat.beq i.bytes bytes && (match i.zero with | some z=>Nat.beq z.cells.toList.length sz | none=>false) | none=>false) && Nat.ble 1 sz
structure fQ (P:Program) (t e:TypeId) (sz bytes:Nat):Prop where
 pP:P.underlying t=some (.slice e)
 pos:0<sz
 info:∃ i z,P.info? e=some i∧i.zero=some z∧i.size=sz∧i.bytes=bytes∧z.cells.size=sz
theorem fQ.of {t e:TypeId} {sz bytes:Nat} (h:abR P t e sz bytes=true):fQ P t e sz bytes:=by
 unfold abR at h
 simp only [Bool.and_eq_true] at h
 obtain ⟨⟨h1,h2⟩,h3⟩:=h
 refine ⟨?_,Nat.le_of_ble_eq_true h3,?_⟩
 ·split at h1
  ·rename_i e' he; rw [he,beq_eq.1 h1]
  ·cases h1
 ·split at h2
  ·rename_i i hi
   simp only [Bool.and_eq_true,beq_eq] at h2
   obtain ⟨⟨h4,h5⟩,h6⟩:=h2
   split at h6
   ·rename_i z hz; exact ⟨i,z,hi,hz,h4,h5,by simpa using beq_eq.1 h6⟩
   ·cases h6
  ·cases h2
def Own (w:World) (lo:Nat) (e:TypeId) (sz:Nat) (s:ah) (vs:List Value):Prop:=w.ownsRow lo e sz s.v s.n vs
def ah.row (s:ah):List Nat:=match s.a with | some a=>[a.block] | none=>[]
theorem Own.sl {w:World} {lo:Nat} {e:TypeId} {sz:Nat} {s:ah} {vs:List Value} (h:Own w lo e sz s vs):Sl w s sz vs:=by
 obtain ⟨a,n,c⟩:=s
 obtain ⟨hl,h1 | ⟨g,cap,cur,h1,h2,h3,h4,h5,h6,h7⟩⟩:=h
 ·obtain ⟨h1,h2⟩:=h1
  simp only [ah.v,Value.slice.injEq] at h1
  obtain ⟨rfl,rfl,rfl⟩:=h1
  simp only [Nat.zero_mul] at hl
  have:=List.length_eq_zero_iff.1 hl
  subst this
  exact Sl.nil w sz
 ·simp only [ah.v,Value.slice.injEq] at h1
  obtain ⟨rfl,-,rfl⟩:=h1
  refine ⟨hl,h4,fun _=>rfl,fun i v hv=>?_⟩
  show w.cell? (Addr.add ⟨g,0,none⟩ i)=some v
  rw [tN,Nat.zero_add]
  unfold World.cell?
  simp only [h3]
  rw [← h7] at hv
  rw [List.getElem?_take] at hv
  split at hv
  ·simpa using hv
  ·cases hv
theorem Own.nil (w:World) (lo:Nat) (e:TypeId) (sz:Nat):Own w lo e sz ⟨none,0,0⟩ []:=World.ownsRow_nil w lo e sz
theorem Own.tP {w:World} {lo:Nat} {e:TypeId} {sz:Nat} {s:ah} {vs:List Value} (h:Own w lo e sz s vs):∀ b∈s.row,lo≤b∧b<w.heap.size:=by
 intro b hb
 obtain ⟨a,n,c⟩:=s
 unfold ah.row at hb
 cases a with
 | none=>cases hb
 | some a=>
  have j4:b=a.block:=by simpa using hb
  have:=World.ownsRow.lt h a.block rfl
  rw [j4]; exact this
theorem als {t ty e:TypeId} {sz bytes lo:Nat} {s x:ah} {vs us:List Value} {w:World} (dH:fQ P t e sz bytes) (hs:Own w lo e sz s vs) (hx:Sl w x sz us)
  (h1:∀ u∈us,fW u=true) (hb:(s.n+x.n) * bytes≤140737488355328) (hm:s.n+x.n≤maxLen) (nU:lo≤w.heap.size) :
  ∃ s':ah,∃ w',(Builtin.append_ #[t,t] ty #[s.v,x.v]).run P w=.ok s'.v w'∧Own w' lo e sz s' (vs ++ us)∧Mod s.row w w'∧s'.n=s.n+x.n∧(∀ b∈s'.row,b∈s.row∨w.heap.size≤b):=by
 obtain ⟨i,z,hi,hz,gV,qE,qF⟩:=dH.info
 have DG:∀ u∈us,u.oneCell'=true:=fun u hu=>by
  have:=h1 u hu
  cases u <;> first | rfl | cases this
 obtain ⟨xa,xn,xc⟩:=x
 cases xa with
 | none=>
  have h0:xn=0:=by
   rcases Nat.eq_zero_or_pos xn with e | e
   ·exact e
   ·cases hx.pre e
  have h2:=hx.cap
  subst h0
  have hu:us=[]:=List.eq_nil_of_length_eq_zero (by simpa using hx.len)
  subst hu
  have hr:(Builtin.append_ #[t,t] ty #[s.v,.slice none 0 xc]).run P w=.ok s.v w:=by
   obtain ⟨sa,sn,sc⟩:=s
   rcases hs.2 with ⟨hv,hn⟩ | ⟨g,cap,cur,hv,_,_,Bx,_⟩
   ·simp only [ah.v,Value.slice.injEq] at hv
    obtain ⟨rfl,rfl,rfl⟩:=hv
    simp [ah.v,Builtin.append_,run_underlying dH.pP,Go.sizeOf,Go.typeInfo,hi,Builtin.lenOf,Builtin.firstCells]
   ·simp only [ah.v,Value.slice.injEq] at hv
    obtain ⟨rfl,-,rfl⟩:=hv
    simp [ah.v,Builtin.append_,run_underlying dH.pP,Go.sizeOf,Go.typeInfo,hi,Builtin.lenOf,Builtin.firstCells,Bx,storeCells]
  exact ⟨s,w,hr,by simpa using hs,Mod.refl _ _,by simp,fun b hb=>.inl hb⟩
 | some xa=>
  obtain ⟨sa,sn,sc⟩:=s
  have cH:us.length=xn * sz:=hx.len
  have DH:∀ j u,us[j]? = some u→w.cell? (xa.add j)=some u:=hx.cell
  rcases hs.2 with ⟨hv,hn⟩ | ⟨g,cap,cur,hv,K9,hg,Bx,vV,gN,wT⟩
  ·simp only [ah.v,Value.slice.injEq] at hv
   obtain ⟨rfl,rfl,rfl⟩:=hv
   have pQ:vs=[]:=List.eq_nil_of_length_eq_zero (by simpa using hs.1)
   subst pQ
   obtain ⟨v',w',hr,ho,hg,hi⟩:=run_append_own (P:=P) w w.heap.size t ty e i z sz bytes dH.pP hi hz gV qE qF dH.pos (.slice none 0 0) 0 [] (World.ownsRow_nil w _ e sz) xa xn xc us cH DH DG
    (by simpa using hm) (by simpa using hb) (Nat.le_refl _)
   have Dx:Mod [] w w':=⟨hg.os,hg.tape,hg.output,hg.size,fun k hk _=>hg.block k hk (by simp [Value.ownBlock])⟩
   simp only [Nat.zero_add] at ho
   rcases ho.2 with ⟨rfl,h0⟩ | ⟨g,cap,cur,rfl,h3,h4,h5⟩
   ·subst h0
    exact ⟨⟨none,0,0⟩,w',hr,⟨ho.1,.inl ⟨rfl,rfl⟩⟩,Dx.of_nil,rfl,by simp [ah.row]⟩
   ·exact ⟨⟨some ⟨g,0,none⟩,xn,cap⟩,w',hr,⟨ho.1,.inr ⟨g,cap,cur,rfl,Nat.le_trans nU h3,h4,h5⟩⟩,Dx.of_nil,by simp,fun b hb=>by
     simp only [ah.row,List.mem_singleton] at hb; subst hb; exact .inr h3⟩
  ·simp only [ah.v,Value.slice.injEq] at hv
   obtain ⟨rfl,-,rfl⟩:=hv
   have an7:∀ {w'},w.grownBy w' (some g)→Mod (ah.row ⟨some ⟨g,0,none⟩,sn,sc⟩) w w':=fun hg=>by simpa [ah.row] using Mod.grown hg
   by_cases qz:sn+xn≤sc
   ·obtain ⟨w',hr,ho,hg⟩:=run_append_fits (P:=P) w lo t ty e i sz dH.pP hi gV g sn sc vs hs xa xn xc us cH DH DG qz
    exact ⟨⟨some ⟨g,0,none⟩,sn+xn,sc⟩,w',hr,ho,an7 hg,rfl,fun b hb=>.inl hb⟩
   ·have holds:∀ j u,vs[j]? = some u→w.cell? ((⟨g,0,none⟩:Addr).add j)=some u:=World.ownsRow.cells (g:=g) hs rfl
    subst gV qE
    have GF:sn+xn≤9223372036854775807:=by have h:sn+xn≤maxLen:=hm; simp only [maxLen] at h; omega
    have hr:=run_append_grow (P:=P) w t ty e i z dH.pP hi hz ⟨g,0,none⟩ sn sc vs hs.1 holds xa xn xc us cH DH (by omega) (by omega) (growslice_fits (by omega) hb)
    have kW:=grownCap_ge w (sn+xn) sc e
    have vV:grownCap w (sn+xn) sc e≤maxLen:=grownCap_le_maxLen w (sn+xn) sc e hm
    have hlen:(vs ++ us).length=(sn+xn) * i.size:=by rw [List.length_append,hs.1,cH,Nat.add_mul]
    refine ⟨⟨some ⟨w.heap.size,0,none⟩,sn+xn,grownCap w (sn+xn) sc e⟩,_,hr,⟨hlen,.inr ⟨w.heap.size,_,_,rfl,nU,heap_alloc_new w.drew _,kW,vV,?_,?_⟩⟩,(Mod.drew _ w).trans (Mod.alloc _ w.drew _),rfl,?_⟩
    ·simp only [Array.size_append,List.size_toArray,size_zeroCells,qF,hs.1,cH,← Nat.add_mul]
     congr 1
     omega
    ·simp only [Array.toList_append,List.append_assoc]
     rw [← List.append_assoc,← hlen]
     exact List.take_left
    ·intro b hb
     simp only [ah.row,List.mem_singleton] at hb
     exact .inr (by omega)
theorem alu {t ty e:TypeId} {sz bytes lo:Nat} {s x:ah} {vs us:List Value} {w:World} {K:ah→World→Prop} (dH:fQ P t e sz bytes) (hs:Own w lo e sz s vs) (hx:Sl w x sz us)
  (h1:∀ u∈us,fW u=true) (hb:(s.n+x.n) * bytes≤140737488355328) (hm:s.n+x.n≤9223372036854775807) (nU:lo≤w.heap.size)
  (hk:∀ s' w',Own w' lo e sz s' (vs ++ us)→Mod s.row w w'→s'.n=s.n+x.n→(∀ b∈s'.row,b∈s.row∨w.heap.size≤b)→K s' w'):cS P [t,t] ty [s.v,x.v] w K:=by
 obtain ⟨s',w',hr,h2,h3,h4,h5⟩:=als (ty:=ty) dH hs hx h1 hb (by simp only [maxLen]; omega) nU
 exact ⟨_,w',hr,s',rfl,hk s' w' h2 h3 h4 h5⟩
end Go.Ev
end
section
set_option linter.unusedVariables false
set_option linter.unusedSimpArgs false
namespace Go.Ev
open Go Go.RowKit Go.ChangeShapes Go.WideShapes Go.ChangeAt
variable {H:Type} {enc:TypeId×Value→H} {P:Program}
theorem afD {W W':World} (hb:Below W.heap.size W W') (may:MemPlace→Prop):W.keptBut W' may:=by
 refine ⟨hb.os,hb.output,fun i hi=>?_⟩
 rw [hb.block i hi]
 cases W.heap[i]? with
 | none=>rfl
 | some o=>cases o <;> simp
def vC (P:Program) (ts:List TypeId):Bool:=ts.all fun t=>P.readableRec t && decide (t<P.types.size)
theorem Xt (hl:laidOutB P=true) {W W':World} (hb:Below W.heap.size W W'):∀ {ts:List TypeId} {vs:List Value} {ds:List (DataW H)} {ps:List MemPlace},vC P ts=true→
  DataW.TrodAll enc P W 0 (fun _=>true) true ts vs ds ps→DataW.TrodAll enc P W' 0 (fun b=>decide (b<W.heap.size)) true ts vs ds ps
 | [],[],[],_,_,h=>h
 | t :: ts,v :: vs,d :: ds,ps,ht,h=>by
  have cI:=DataW.TrodAll.lt h
  obtain ⟨p,q,h1,h2,rfl⟩:=h
  simp only [vC,List.all_cons,Bool.and_eq_true,decide_eq_true_eq] at ht
  exact ⟨p,q,Below.trod hl ht.1.1 ht.1.2 h1 hb (fun x hx=>cI x (List.mem_append_left _ hx)),Xt hl hb (by simpa [vC] using ht.2) h2,rfl⟩
 | [],[],_ :: _,_,_,h=>h.elim
 | [],_ :: _,_,_,_,h=>by cases ‹List (DataW H)› <;> exact h.elim
 | _ :: _,[],_,_,_,h=>by cases ‹List (DataW H)› <;> exact h.elim
 | _ :: _,_ :: _,[],_,_,h=>h.elim
theorem CG {f:Func} {s:ChangeSpec} {apart fresh handsOn:Bool} {W W':World} {args:Array Value} {ds gs:List (DataW H)} {before:List MemPlace} {tb:TypeId}
  (hW:DataW.Whole enc P f.params.toList s.vars apart W args.toList ds gs before) (hb:Below W.heap.size W W') (hl:laidOutB P=true) (ht:vC P f.params.toList=true) (hr:f.resultTypes=#[tb]) (anm:P.underlying tb=some .bool)
  (hv:s.vars=[]) (hf:s.fn H ds={ results:=[.lit (.bool true)],args:=ds }):s.post enc P f apart fresh handsOn false W args (.bool true) W':=by
 have rE:=hW
 obtain ⟨p,q,h1,h2,h3,h4,h5⟩:=hW
 rw [hv] at h2
 obtain ⟨rfl,rfl⟩:=trodVars_none h2
 refine ⟨ds,[],before,[],p,[],rE,?_,?_,?_,afD hb _,fun h=>by cases h⟩
 ·rw [List.append_nil,hf,hr]
  exact trodAll_cons_mk (shut_bool anm _) trodAll_mk0
 ·rw [List.append_nil,hf]
  exact Xt hl hb ht h1
 ·rw [List.append_nil,hf,hv]
  rfl
end Go.Ev
end
section
set_option linter.unusedVariables false
set_option linter.unusedSimpArgs false
namespace Go.Proofs.YtpchgbolambkcaaGreatDoor
open Go Go.Ev
@[reducible] noncomputable def Pr:Program:=Tryz.prog
abbrev WB:FuncId:=3
abbrev WJ:FuncId:=4
abbrev WO:FuncId:=5
abbrev WC:FuncId:=6
abbrev WK:FuncId:=7
abbrev WQ:FuncId:=8
abbrev NA:FuncId:=9
abbrev jG:FuncId:=10
abbrev Js:FuncId:=11
abbrev zY:FuncId:=12
abbrev IZ:FuncId:=13
abbrev Et:FuncId:=14
abbrev Pf:FuncId:=15
abbrev th:FuncId:=16
abbrev II:FuncId:=17
abbrev uY:FuncId:=18
abbrev BU:FuncId:=19
abbrev uZ:FuncId:=20
abbrev yp:FuncId:=21
abbrev rW:FuncId:=22
abbrev yq:FuncId:=23
abbrev qn:FuncId:=24
abbrev tq:FuncId:=25
abbrev Ns:FuncId:=26
abbrev Eh:FuncId:=27
abbrev Em:FuncId:=28
abbrev En:FuncId:=29
abbrev tu:FuncId:=30
abbrev B2:FuncId:=31
abbrev NW:FuncId:=32
abbrev B4:FuncId:=33
abbrev xY:FuncId:=34
abbrev Co:FuncId:=35
abbrev cW:FuncId:=36
abbrev fV:FuncId:=37
abbrev Cq:FuncId:=38
abbrev BY:FuncId:=39
abbrev IC:FuncId:=40
abbrev EC:FuncId:=41
abbrev Jt:FuncId:=42
abbrev p8:FuncId:=43
abbrev pZ:FuncId:=44
abbrev BT:FuncId:=45
abbrev p7:FuncId:=46
abbrev Iy:FuncId:=47
abbrev wG:FuncId:=48
abbrev Pg:FuncId:=49
abbrev zU:FuncId:=50
abbrev MJ:FuncId:=51
abbrev I8:FuncId:=52
abbrev X2:FuncId:=53
abbrev Cv:FuncId:=54
abbrev NB:FuncId:=55
abbrev P6:FuncId:=56
abbrev wB:FuncId:=57
abbrev JE:FuncId:=58
abbrev I0:FuncId:=59
abbrev EI:FuncId:=60
abbrev NY:FuncId:=61
abbrev Ph:FuncId:=62
abbrev P7:FuncId:=63
abbrev I9:FuncId:=64
abbrev MK:FuncId:=65
abbrev M3:FuncId:=66
abbrev M4:FuncId:=67
abbrev NZ:FuncId:=68
abbrev zV:FuncId:=69
abbrev ML:FuncId:=70
abbrev M5:FuncId:=71
abbrev N0:FuncId:=72
abbrev qP:FuncId:=73
abbrev QY:FuncId:=74
abbrev ah6:FuncId:=75
abbrev ah7:FuncId:=76
abbrev Jh:FuncId:=77
abbrev Er:FuncId:=78
abbrev I1:FuncId:=79
abbrev ED:FuncId:=80
abbrev sY:FuncId:=81
abbrev Iu:FuncId:=82
abbrev oG:FuncId:=83
abbrev Is:FuncId:=84
abbrev EJ:FuncId:=91
abbrev IQ:FuncId:=92
abbrev Pj:FuncId:=93
abbrev Eu:FuncId:=94
abbrev B7:FuncId:=95
abbrev I2:FuncId:=96
abbrev Iv:FuncId:=97
abbrev NC:FuncId:=98
abbrev IS:FuncId:=99
abbrev zZ:FuncId:=100
abbrev EK:FuncId:=101
abbrev P8:FuncId:=102
abbrev P9:FuncId:=103
abbrev Qh:FuncId:=104
abbrev Pk:FuncId:=105
abbrev MM:FuncId:=106
abbrev I3:FuncId:=107
abbrev Qm:FuncId:=108
abbrev Oy:FuncId:=109
abbrev agU:FuncId:=110
abbrev ahx:FuncId:=111
abbrev Jm:FuncId:=112
abbrev Iz:FuncId:=114
abbrev Jn:FuncId:=115
abbrev Mh:FuncId:=116
abbrev Oz:FuncId:=117
abbrev EP:FuncId:=118
abbrev ai2:FuncId:=119
abbrev wD:FuncId:=120
abbrev ah8:FuncId:=121
abbrev Cw:FuncId:=124
abbrev Ew:FuncId:=125
abbrev Pm:FuncId:=126
abbrev I4:FuncId:=127
abbrev EE:FuncId:=128
abbrev QZ:FuncId:=129
abbrev LW:FuncId:=130
abbrev OA:FuncId:=131
abbrev Iw:FuncId:=132
abbrev Ex:FuncId:=133
abbrev Q4:FuncId:=134
abbrev Q5:FuncId:=135
abbrev Pn:FuncId:=136
abbrev ND:FuncId:=137
abbrev fU:FuncId:=138
abbrev Eo:FuncId:=139
abbrev Po:FuncId:=140
abbrev Qn:FuncId:=141
abbrev OB:FuncId:=142
abbrev OC:FuncId:=143
abbrev OD:FuncId:=144
abbrev ahy:FuncId:=145
abbrev agV:FuncId:=146
abbrev Qo:FuncId:=147
abbrev aiz:FuncId:=148
abbrev agW:FuncId:=149
abbrev OE:FuncId:=157
abbrev vh:FuncId:=158
abbrev Mr:FuncId:=159
abbrev IT:FuncId:=160
abbrev IJ:FuncId:=161
abbrev OF:FuncId:=163
abbrev Pp:FuncId:=165
abbrev ID:FuncId:=167
abbrev IE:FuncId:=168
abbrev OG:FuncId:=169
abbrev Qp:FuncId:=170
abbrev Av:FuncId:=171
abbrev Q6:FuncId:=172
abbrev L0:FuncId:=173
abbrev IU:FuncId:=174
abbrev XJ:FuncId:=175
abbrev Pq:FuncId:=176
abbrev RC:FuncId:=182
abbrev Ah:FuncId:=183
abbrev Pt:FuncId:=184
abbrev IA:FuncId:=185
abbrev It:FuncId:=186
abbrev MN:FuncId:=187
abbrev ae5:FuncId:=188
abbrev ae6:FuncId:=189
abbrev agj:FuncId:=190
abbrev afp:FuncId:=191
abbrev ae7:FuncId:=192
abbrev Ip:FuncId:=193
abbrev L5:FuncId:=194
abbrev Mn:FuncId:=195
abbrev L8:FuncId:=196
abbrev L1:FuncId:=197
abbrev LU:FuncId:=199
abbrev M6:FuncId:=200
abbrev EL:FuncId:=201
abbrev RO:FuncId:=202
abbrev Ju:FuncId:=203
abbrev EM:FuncId:=214
abbrev CH:FuncId:=215
abbrev Mp:FuncId:=216
abbrev N1:FuncId:=217
abbrev X3:FuncId:=218
abbrev NF:FuncId:=219
abbrev W1:FuncId:=220
abbrev agk:FuncId:=221
abbrev OH:FuncId:=222
abbrev LY:FuncId:=232
abbrev NG:FuncId:=233
abbrev Mt:FuncId:=253
abbrev Wx:FuncId:=254
abbrev N2:FuncId:=255
abbrev xX:FuncId:=258
abbrev IF:FuncId:=259
abbrev WL:FuncId:=271
abbrev Mx:FuncId:=288
abbrev bn:TypeId:=3
abbrev jA:TypeId:=4
abbrev aM:TypeId:=5
abbrev so:TypeId:=9
abbrev bp:TypeId:=22
abbrev dx:TypeId:=24
abbrev cV:TypeId:=26
abbrev alv:TypeId:=33
abbrev jU:TypeId:=42
abbrev nE:TypeId:=43
abbrev nH:TypeId:=44
abbrev nF:TypeId:=45
abbrev aA:TypeId:=47
abbrev JN:TypeId:=58
abbrev nJ:TypeId:=59
abbrev Q7:TypeId:=63
abbrev IV:TypeId:=65
abbrev yu:TypeId:=67
abbrev eH:TypeId:=69
abbrev mz:TypeId:=82
abbrev rR:TypeId:=84
abbrev gP:TypeId:=93
abbrev kH:TypeId:=95
abbrev WX:TypeId:=97
abbrev qo:TypeId:=99
abbrev cZ:TypeId:=103
abbrev ey:TypeId:=106
abbrev rS:TypeId:=108
abbrev bW:TypeId:=110
abbrev oI:TypeId:=113
abbrev dJ:TypeId:=122
abbrev gh:TypeId:=145
abbrev Xu:TypeId:=160
abbrev eW:TypeId:=162
abbrev lM:TypeId:=166
abbrev IK:TypeId:=168
abbrev aeL:TypeId:=196
abbrev Cr:TypeId:=215
abbrev oH:TypeId:=221
abbrev Jo:TypeId:=252
abbrev EV:TypeId:=280
end Go.Proofs.YtpchgbolambkcaaGreatDoor
end
section
set_option linter.unusedVariables false
set_option linter.unusedSimpArgs false
namespace Go.Proofs.YtpchgbolambkcaaGreatDoor
open Go Go.Ev
set_option maxRecDepth 100000
set_option linter.unusedVariables false
theorem ai3:(Pr.funcs.all fun fn=>fn.name != "runtime.NumGoroutine")=true:=by kernel_rfl
theorem ai4:Pr.follows .mixedOrders=true:=by kernel_rfl
theorem aN:Go.Ev.Good Pr where
 names:=fun f fn h e=>by
  have:=Array.all_eq_true_iff_forall_mem.1 ai3 fn (Array.mem_of_getElem? h)
  simp [e] at this
 mixed:=ai4
abbrev gq:ByteArray:=⟨#[114]⟩
abbrev eO:ByteArray:=⟨#[]⟩
abbrev fY:ByteArray:=⟨#[97]⟩
abbrev kC:ByteArray:=⟨#[98]⟩
abbrev xC:ByteArray:=⟨#[120]⟩
abbrev amt:ByteArray:=⟨#[115,108,111,116]⟩
abbrev aaL:ByteArray:=⟨#[99,111,100,101]⟩
abbrev amu:ByteArray:=⟨#[116,97,105,108]⟩
abbrev alw:ByteArray:=⟨#[98,108,111,99,107]⟩
abbrev alx:ByteArray:=⟨#[116,97,98,108,101]⟩
abbrev RP:ByteArray:=⟨#[110,111,110,99,101,115]⟩
abbrev ajE:ByteArray:=⟨#[116,101,110,97,110,116,115]⟩
abbrev aly:ByteArray:=⟨#[97,112,112,108,121]⟩
abbrev uU:ByteArray:=⟨#[0,1,2,2,3,3,3,3,4,4,4,4,4,4,4,4,5,5,5,5,5,5,5,5,5,5,5,5,5,5,5,5,6,6,6,6,6,6,6,6,6,6,6,6,6,6,6,6,6,6,6,6,6,6,6,6,6,6,6,6,6,6,6,6,7,7,7,7,7,7,7,7,7,7,7,7,7,7,7,7,7,7,7,7,7,7,7,7,7,7,7,7,7,7,7,7,7,7,7,7,7,7,7,7,7,7,7,7,7,7,7,7,7,7,7,7,7,7,7,7,7,7,7,7,7,7,7,7,8,8,8,8,8,8,8,8,8,8,8,8,8,8,8,8,8,8,8,8,8,8,8,8,8,8,8,8,8,8,8,8,8,8,8,8,8,8,8,8,8,8,8,8,8,8,8,8,8,8,8,8,8,8,8,8,8,8,8,8,8,8,8,8,8,8,8,8,8,8,8,8,8,8,8,8,8,8,8,8,8,8,8,8,8,8,8,8,8,8,8,8,8,8,8,8,8,8,8,8,8,8,8,8,8,8,8,8,8,8,8,8,8,8,8,8,8,8,8,8,8,8,8,8,8,8,8,8]⟩
@[reducible] def akj (x0 x1:Bool) (x2 x3 x4:Bool):List Value:=[.bool x0,.bool x1,.bool x2,.bool x3,.bool x4]
@[reducible] def SN (x0 x1:Int) (x2:Bool):List Value:=[.int .i64 x0,.int .i64 x1,.bool x2]
@[reducible] def jB (x0 x1 x2:Int):List Value:=[.int .i64 x0,.int .i64 x1,.int .i64 x2]
@[reducible] def Z8 (x0 x1:Int) (x2 x3:Int):List Value:=[.int .i64 x0,.int .i64 x1,.int .i64 x2,.int .i64 x3]
@[reducible] def EY (x0 x1:Int) (x2 x3 x4:Int):List Value:=[.int .i64 x0,.int .i64 x1,.int .i64 x2,.int .i64 x3,.int .i64 x4]
@[reducible] def pz (x0 x1:Int) (x2 x3 x4:Int) (x5:Bool):List Value:=[.int .i64 x0,.int .i64 x1,.int .i64 x2,.int .i64 x3,.int .i64 x4,.bool x5]
@[reducible] def ajF (x0 x1:Int) (x2 x3:Int) (x4 x5:Int):List Value:=[.int .i64 x0,.int .i64 x1,.int .i64 x2,.int .i64 x3,.int .i64 x4,.int .i64 x5]
@[reducible] def aiA (x0 x1:Int) (x2 x3:Int) (x4 x5:Int) (x6 x7:Int):List Value:=[.int .i64 x0,.int .i64 x1,.int .i64 x2,.int .i64 x3,.int .i64 x4,.int .i64 x5,.int .i64 x6,.int .i64 x7]
@[reducible] def tv (x0 x1:Int) (x2 x3:Int) (x4 x5:Int) (x6 x7 x8:Int):List Value:=[.int .i64 x0,.int .i64 x1,.int .i64 x2,.int .i64 x3,.int .i64 x4,.int .i64 x5,.int .i64 x6,.int .i64 x7,.int .i64 x8]
@[reducible] def W4 (x0 x1:Int) (x2 x3:Int) (x4 x5:Int) (x6 x7:Int) (x8 x9 By:Int):List Value:=[.int .i64 x0,.int .i64 x1,.int .i64 x2,.int .i64 x3,.int .i64 x4,.int .i64 x5,.int .i64 x6,.int .i64 x7,.int .i64 x8,.int .i64 x9,.int .i64 By]
@[reducible] def dW (x0 x1:Int) (x2 x3:Int) (x4 x5:Int) (x6 x7:Int) (x8 x9 By:Int) (Bz:ByteArray) (mL uA:ah):List Value:=[.int .i64 x0,.int .i64 x1,.int .i64 x2,.int .i64 x3,.int .i64 x4,.int .i64 x5,.int .i64 x6,.int .i64 x7,.int .i64 x8,.int .i64 x9,.int .i64 By,.string Bz,.slice mL.a mL.n mL.c,.slice uA.a uA.n uA.c]
@[reducible] def ad6 (x0 x1:Int) (x2 x3:Int) (x4 x5:Int) (x6 x7:Int) (x8 x9 By:Int) (Bz:ByteArray) (mL uA:ah) (GH:Int) (Up GI:ah) (Uq Ur Us:ah) (Lh:Int) (Ut:ah):List Value:=[.int .i64 x0,.int .i64 x1,.int .i64 x2,.int .i64 x3,.int .i64 x4,.int .i64 x5,.int .i64 x6,.int .i64 x7,.int .i64 x8,.int .i64 x9,.int .i64 By,.string Bz,.slice mL.a mL.n mL.c,.slice uA.a uA.n uA.c,.int .i64 GH,.slice Up.a Up.n Up.c,.slice GI.a GI.n GI.c,.slice Uq.a Uq.n Uq.c,.slice Ur.a Ur.n Ur.c,.slice Us.a Us.n Us.c,.int .i64 Lh,.slice Ut.a Ut.n Ut.c]
@[reducible] def kQ (x0 x1:Int) (x2 x3:Int) (x4 x5:Int) (x6 x7:Int) (x8 x9 By:Int) (Bz:ByteArray) (mL uA GH:ah):List Value:=[.int .i64 x0,.int .i64 x1,.int .i64 x2,.int .i64 x3,.int .i64 x4,.int .i64 x5,.int .i64 x6,.int .i64 x7,.int .i64 x8,.int .i64 x9,.int .i64 By,.string Bz,.slice mL.a mL.n mL.c,.slice uA.a uA.n uA.c,.slice GH.a GH.n GH.c]
@[reducible] def fu (x0 x1 x2:Int) (x3:ah):List Value:=[.int .i64 x0,.int .i64 x1,.int .i64 x2,.slice x3.a x3.n x3.c]
@[reducible] def RQ (x0 x1:Int) (x2:ah) (x3 x4:Int):List Value:=[.int .i64 x0,.int .i64 x1,.slice x2.a x2.n x2.c,.int .i64 x3,.int .u64 x4]
@[reducible] def jI (x0 x1:Int) (x2 x3:ah):List Value:=[.int .i64 x0,.int .i64 x1,.slice x2.a x2.n x2.c,.slice x3.a x3.n x3.c]
@[reducible] def tQ (x0 x1:Int) (x2:ByteArray):List Value:=[.int .i64 x0,.int .i64 x1,.string x2]
@[reducible] def aT (x0:Int) (x1 x2:ah) (x3 x4 x5:ah):List Value:=[.int .i64 x0,.slice x1.a x1.n x1.c,.slice x2.a x2.n x2.c,.slice x3.a x3.n x3.c,.slice x4.a x4.n x4.c,.slice x5.a x5.n x5.c]
@[reducible] def qv (x0 x1 x2:Int):List Value:=[.int .i64 x0,.int .u64 x1,.int .i64 x2]
@[reducible] def Kw (x0:ah) (x1:Int) (x2:Bool):List Value:=[.slice x0.a x0.n x0.c,.int .i64 x1,.bool x2]
@[reducible] def sr (x0:ah) (x1 x2:Int):List Value:=[.slice x0.a x0.n x0.c,.int .i64 x1,.int .i64 x2]
@[reducible] def akk (x0:ah) (x1 x2 x3:Int) (x4:ah):List Value:=[.slice x0.a x0.n x0.c,.int .i64 x1,.int .i64 x2,.int .i64 x3,.slice x4.a x4.n x4.c]
@[reducible] def AH (x0:ah) (x1:Int) (x2:ByteArray):List Value:=[.slice x0.a x0.n x0.c,.int .i64 x1,.string x2]
@[reducible] def CY (x0 x1 x2:ah):List Value:=[.slice x0.a x0.n x0.c,.slice x1.a x1.n x1.c,.slice x2.a x2.n x2.c]
@[reducible] def wP (x0:ByteArray) (x1 x2:ah):List Value:=[.string x0,.slice x1.a x1.n x1.c,.slice x2.a x2.n x2.c]
def dD (a:Addr) (w:World) (K:Int→Int→Int→Int→Int→Int→Int→Int→Int→Int→Int→ByteArray→ah→ah→Prop):Prop:=
 au .i64 (Addr.add a 0) w fun c0=>
 au .i64 (Addr.add a 1) w fun c1=>
 au .i64 (Addr.add a 2) w fun c2=>
 au .i64 (Addr.add a 3) w fun c3=>
 au .i64 (Addr.add a 4) w fun c4=>
 au .i64 (Addr.add a 5) w fun c5=>
 au .i64 (Addr.add a 6) w fun c6=>
 au .i64 (Addr.add a 7) w fun c7=>
 au .i64 (Addr.add a 8) w fun c8=>
 au .i64 (Addr.add a 9) w fun c9=>
 au .i64 (Addr.add a 10) w fun eZ=>
 dR (Addr.add a 11) w fun fh=>
 ay (Addr.add a 12) w fun dS=>
 ay (Addr.add a 13) w fun dU=>
 K c0 c1 c2 c3 c4 c5 c6 c7 c8 c9 eZ fh dS dU
def rX (a:Addr) (c0:Int) (c1:Int) (c2:Int) (c3:Int) (c4:Int) (c5:Int) (c6:Int) (c7:Int) (c8:Int) (c9:Int) (eZ:Int) (fh:ByteArray) (dS:ah) (dU:ah) (w:World) (K:World→Prop):Prop:=
 st (Addr.add a 0) (.int .i64 c0) w fun w=>
 st (Addr.add a 1) (.int .i64 c1) w fun w=>
 st (Addr.add a 2) (.int .i64 c2) w fun w=>
 st (Addr.add a 3) (.int .i64 c3) w fun w=>
 st (Addr.add a 4) (.int .i64 c4) w fun w=>
 st (Addr.add a 5) (.int .i64 c5) w fun w=>
 st (Addr.add a 6) (.int .i64 c6) w fun w=>
 st (Addr.add a 7) (.int .i64 c7) w fun w=>
 st (Addr.add a 8) (.int .i64 c8) w fun w=>
 st (Addr.add a 9) (.int .i64 c9) w fun w=>
 st (Addr.add a 10) (.int .i64 eZ) w fun w=>
 st (Addr.add a 11) (.string fh) w fun w=>
 st (Addr.add a 12) (.slice dS.a dS.n dS.c) w fun w=>
 st (Addr.add a 13) (.slice dU.a dU.n dU.c) w fun w=>
 K w
def YA (v:Value) (K:Int→Int→Int→Int→Int→Int→Int→Int→Int→Int→Int→ByteArray→ah→ah→Prop):Prop:=
 qy v fun r=>
 aD r fun v0 r=>
 aF .i64 v0 fun c0=>
 aD r fun v1 r=>
 aF .i64 v1 fun c1=>
 aD r fun v2 r=>
 aF .i64 v2 fun c2=>
 aD r fun v3 r=>
 aF .i64 v3 fun c3=>
 aD r fun v4 r=>
 aF .i64 v4 fun c4=>
 aD r fun v5 r=>
 aF .i64 v5 fun c5=>
 aD r fun v6 r=>
 aF .i64 v6 fun c6=>
 aD r fun v7 r=>
 aF .i64 v7 fun c7=>
 aD r fun v8 r=>
 aF .i64 v8 fun c8=>
 aD r fun v9 r=>
 aF .i64 v9 fun c9=>
 aD r fun v10 r=>
 aF .i64 v10 fun eZ=>
 aD r fun v11 r=>
 tU v11 fun fh=>
 aD r fun Uu r=>
 aK Uu fun dS=>
 aD r fun Uv r=>
 aK Uv fun dU=>
 (r=[]∧K c0 c1 c2 c3 c4 c5 c6 c7 c8 c9 eZ fh dS dU)
def jH (a:Addr) (w:World) (K:Int→Int→Int→Int→Int→Int→Int→Int→Int→Int→Int→ByteArray→ah→ah→ah→Prop):Prop:=
 au .i64 (Addr.add a 0) w fun c0=>
 au .i64 (Addr.add a 1) w fun c1=>
 au .i64 (Addr.add a 2) w fun c2=>
 au .i64 (Addr.add a 3) w fun c3=>
 au .i64 (Addr.add a 4) w fun c4=>
 au .i64 (Addr.add a 5) w fun c5=>
 au .i64 (Addr.add a 6) w fun c6=>
 au .i64 (Addr.add a 7) w fun c7=>
 au .i64 (Addr.add a 8) w fun c8=>
 au .i64 (Addr.add a 9) w fun c9=>
 au .i64 (Addr.add a 10) w fun eZ=>
 dR (Addr.add a 11) w fun fh=>
 ay (Addr.add a 12) w fun dS=>
 ay (Addr.add a 13) w fun dU=>
 ay (Addr.add a 14) w fun kD=>
 K c0 c1 c2 c3 c4 c5 c6 c7 c8 c9 eZ fh dS dU kD
def iN (a:Addr) (c0:Int) (c1:Int) (c2:Int) (c3:Int) (c4:Int) (c5:Int) (c6:Int) (c7:Int) (c8:Int) (c9:Int) (eZ:Int) (fh:ByteArray) (dS:ah) (dU:ah) (kD:ah) (w:World) (K:World→Prop):Prop:=
 st (Addr.add a 0) (.int .i64 c0) w fun w=>
 st (Addr.add a 1) (.int .i64 c1) w fun w=>
 st (Addr.add a 2) (.int .i64 c2) w fun w=>
 st (Addr.add a 3) (.int .i64 c3) w fun w=>
 st (Addr.add a 4) (.int .i64 c4) w fun w=>
 st (Addr.add a 5) (.int .i64 c5) w fun w=>
 st (Addr.add a 6) (.int .i64 c6) w fun w=>
 st (Addr.add a 7) (.int .i64 c7) w fun w=>
 st (Addr.add a 8) (.int .i64 c8) w fun w=>
 st (Addr.add a 9) (.int .i64 c9) w fun w=>
 st (Addr.add a 10) (.int .i64 eZ) w fun w=>
 st (Addr.add a 11) (.string fh) w fun w=>
 st (Addr.add a 12) (.slice dS.a dS.n dS.c) w fun w=>
 st (Addr.add a 13) (.slice dU.a dU.n dU.c) w fun w=>
 st (Addr.add a 14) (.slice kD.a kD.n kD.c) w fun w=>
 K w
def wE (v:Value) (K:Int→Int→Int→Int→Int→Int→Int→Int→Int→Int→Int→ByteArray→ah→ah→ah→Prop):Prop:=
 qy v fun r=>
 aD r fun v0 r=>
 aF .i64 v0 fun c0=>
 aD r fun v1 r=>
 aF .i64 v1 fun c1=>
 aD r fun v2 r=>
 aF .i64 v2 fun c2=>
 aD r fun v3 r=>
 aF .i64 v3 fun c3=>
 aD r fun v4 r=>
 aF .i64 v4 fun c4=>
 aD r fun v5 r=>
 aF .i64 v5 fun c5=>
 aD r fun v6 r=>
 aF .i64 v6 fun c6=>
 aD r fun v7 r=>
 aF .i64 v7 fun c7=>
 aD r fun v8 r=>
 aF .i64 v8 fun c8=>
 aD r fun v9 r=>
 aF .i64 v9 fun c9=>
 aD r fun v10 r=>
 aF .i64 v10 fun eZ=>
 aD r fun v11 r=>
 tU v11 fun fh=>
 aD r fun Uu r=>
 aK Uu fun dS=>
 aD r fun Uv r=>
 aK Uv fun dU=>
 aD r fun v14 r=>
 aK v14 fun kD=>
 (r=[]∧K c0 c1 c2 c3 c4 c5 c6 c7 c8 c9 eZ fh dS dU kD)
def aG (a:Addr) (w:World) (K:Int→ah→ah→ah→ah→ah→Prop):Prop:=
 au .i64 (Addr.add a 0) w fun c0=>
 ay (Addr.add a 1) w fun c1=>
 ay (Addr.add a 2) w fun c2=>
 ay (Addr.add a 3) w fun c3=>
 ay (Addr.add a 4) w fun c4=>
 ay (Addr.add a 5) w fun c5=>
 K c0 c1 c2 c3 c4 c5
def aV (a:Addr) (c0:Int) (c1:ah) (c2:ah) (c3:ah) (c4:ah) (c5:ah) (w:World) (K:World→Prop):Prop:=
 st (Addr.add a 0) (.int .i64 c0) w fun w=>
 st (Addr.add a 1) (.slice c1.a c1.n c1.c) w fun w=>
 st (Addr.add a 2) (.slice c2.a c2.n c2.c) w fun w=>
 st (Addr.add a 3) (.slice c3.a c3.n c3.c) w fun w=>
 st (Addr.add a 4) (.slice c4.a c4.n c4.c) w fun w=>
 st (Addr.add a 5) (.slice c5.a c5.n c5.c) w fun w=>
 K w
def ez (v:Value) (K:Int→ah→ah→ah→ah→ah→Prop):Prop:=
 qy v fun r=>
 aD r fun v0 r=>
 aF .i64 v0 fun c0=>
 aD r fun v1 r=>
 aK v1 fun c1=>
 aD r fun v2 r=>
 aK v2 fun c2=>
 aD r fun v3 r=>
 aK v3 fun c3=>
 aD r fun v4 r=>
 aK v4 fun c4=>
 aD r fun v5 r=>
 aK v5 fun c5=>
 (r=[]∧K c0 c1 c2 c3 c4 c5)
def eX (a:Addr) (w:World) (K:Int→Int→ah→ah→Prop):Prop:=
 au .i64 (Addr.add a 0) w fun c0=>
 au .i64 (Addr.add a 1) w fun c1=>
 ay (Addr.add a 2) w fun c2=>
 ay (Addr.add a 3) w fun c3=>
 K c0 c1 c2 c3
def ew (a:Addr) (c0:Int) (c1:Int) (c2:ah) (c3:ah) (w:World) (K:World→Prop):Prop:=
 st (Addr.add a 0) (.int .i64 c0) w fun w=>
 st (Addr.add a 1) (.int .i64 c1) w fun w=>
 st (Addr.add a 2) (.slice c2.a c2.n c2.c) w fun w=>
 st (Addr.add a 3) (.slice c3.a c3.n c3.c) w fun w=>
 K w
def qh (v:Value) (K:Int→Int→ah→ah→Prop):Prop:=
 qy v fun r=>
 aD r fun v0 r=>
 aF .i64 v0 fun c0=>
 aD r fun v1 r=>
 aF .i64 v1 fun c1=>
 aD r fun v2 r=>
 aK v2 fun c2=>
 aD r fun v3 r=>
 aK v3 fun c3=>
 (r=[]∧K c0 c1 c2 c3)
def Am (a:Addr) (w:World) (K:Int→Int→ByteArray→Prop):Prop:=
 au .i64 (Addr.add a 0) w fun c0=>
 au .i64 (Addr.add a 1) w fun c1=>
 dR (Addr.add a 2) w fun c2=>
 K c0 c1 c2
def uX (a:Addr) (c0:Int) (c1:Int) (c2:ByteArray) (w:World) (K:World→Prop):Prop:=
 st (Addr.add a 0) (.int .i64 c0) w fun w=>
 st (Addr.add a 1) (.int .i64 c1) w fun w=>
 st (Addr.add a 2) (.string c2) w fun w=>
 K w
def B5 (a:Addr) (w:World) (K:Int→Int→ah→Int→Int→Prop):Prop:=
 au .i64 (Addr.add a 0) w fun c0=>
 au .i64 (Addr.add a 1) w fun c1=>
 ay (Addr.add a 2) w fun c2=>
 au .i64 (Addr.add a 3) w fun c3=>
 au .u64 (Addr.add a 4) w fun c4=>
 K c0 c1 c2 c3 c4
def p9 (a:Addr) (c0:Int) (c1:Int) (c2:ah) (c3:Int) (c4:Int) (w:World) (K:World→Prop):Prop:=
 st (Addr.add a 0) (.int .i64 c0) w fun w=>
 st (Addr.add a 1) (.int .i64 c1) w fun w=>
 st (Addr.add a 2) (.slice c2.a c2.n c2.c) w fun w=>
 st (Addr.add a 3) (.int .i64 c3) w fun w=>
 st (Addr.add a 4) (.int .u64 c4) w fun w=>
 K w
def iI (a:Addr) (w:World) (K:Int→Int→Int→ah→Prop):Prop:=
 au .i64 (Addr.add a 0) w fun c0=>
 au .i64 (Addr.add a 1) w fun c1=>
 au .i64 (Addr.add a 2) w fun c2=>
 ay (Addr.add a 3) w fun c3=>
 K c0 c1 c2 c3
def kR (a:Addr) (c0:Int) (c1:Int) (c2:Int) (c3:ah) (w:World) (K:World→Prop):Prop:=
 st (Addr.add a 0) (.int .i64 c0) w fun w=>
 st (Addr.add a 1) (.int .i64 c1) w fun w=>
 st (Addr.add a 2) (.int .i64 c2) w fun w=>
 st (Addr.add a 3) (.slice c3.a c3.n c3.c) w fun w=>
 K w
def Cx (v:Value) (K:Int→Int→Int→ah→Prop):Prop:=
 qy v fun r=>
 aD r fun v0 r=>
 aF .i64 v0 fun c0=>
 aD r fun v1 r=>
 aF .i64 v1 fun c1=>
 aD r fun v2 r=>
 aF .i64 v2 fun c2=>
 aD r fun v3 r=>
 aK v3 fun c3=>
 (r=[]∧K c0 c1 c2 c3)
def qm (a:Addr) (w:World) (K:Int→Int→Int→Int→Int→Bool→Prop):Prop:=
 au .i64 (Addr.add a 0) w fun c0=>
 au .i64 (Addr.add a 1) w fun c1=>
 au .i64 (Addr.add a 2) w fun c2=>
 au .i64 (Addr.add a 3) w fun c3=>
 au .i64 (Addr.add a 4) w fun c4=>
 nq (Addr.add a 5) w fun c5=>
 K c0 c1 c2 c3 c4 c5
def tw (a:Addr) (c0:Int) (c1:Int) (c2:Int) (c3:Int) (c4:Int) (c5:Bool) (w:World) (K:World→Prop):Prop:=
 st (Addr.add a 0) (.int .i64 c0) w fun w=>
 st (Addr.add a 1) (.int .i64 c1) w fun w=>
 st (Addr.add a 2) (.int .i64 c2) w fun w=>
 st (Addr.add a 3) (.int .i64 c3) w fun w=>
 st (Addr.add a 4) (.int .i64 c4) w fun w=>
 st (Addr.add a 5) (.bool c5) w fun w=>
 K w
def Pu (v:Value) (K:Int→Int→Int→Int→Int→Bool→Prop):Prop:=
 qy v fun r=>
 aD r fun v0 r=>
 aF .i64 v0 fun c0=>
 aD r fun v1 r=>
 aF .i64 v1 fun c1=>
 aD r fun v2 r=>
 aF .i64 v2 fun c2=>
 aD r fun v3 r=>
 aF .i64 v3 fun c3=>
 aD r fun v4 r=>
 aF .i64 v4 fun c4=>
 aD r fun v5 r=>
 aQ v5 fun c5=>
 (r=[]∧K c0 c1 c2 c3 c4 c5)
def uV (a:Addr) (w:World) (K:Int→Int→Int→ah→Prop):Prop:=
 au .i64 (Addr.add a 0) w fun c0=>
 au .i64 (Addr.add a 1) w fun c1=>
 au .i64 (Addr.add a 2) w fun c2=>
 ay (Addr.add a 3) w fun c3=>
 K c0 c1 c2 c3
def rT (a:Addr) (c0:Int) (c1:Int) (c2:Int) (c3:ah) (w:World) (K:World→Prop):Prop:=
 st (Addr.add a 0) (.int .i64 c0) w fun w=>
 st (Addr.add a 1) (.int .i64 c1) w fun w=>
 st (Addr.add a 2) (.int .i64 c2) w fun w=>
 st (Addr.add a 3) (.slice c3.a c3.n c3.c) w fun w=>
 K w
def IL (v:Value) (K:Int→Int→Int→ah→Prop):Prop:=
 qy v fun r=>
 aD r fun v0 r=>
 aF .i64 v0 fun c0=>
 aD r fun v1 r=>
 aF .i64 v1 fun c1=>
 aD r fun v2 r=>
 aF .i64 v2 fun c2=>
 aD r fun v3 r=>
 aK v3 fun c3=>
 (r=[]∧K c0 c1 c2 c3)
def wH (a:Addr) (w:World) (K:Int→Int→Int→Int→Int→Prop):Prop:=
 au .i64 (Addr.add a 0) w fun c0=>
 au .i64 (Addr.add a 1) w fun c1=>
 au .i64 (Addr.add a 2) w fun c2=>
 au .i64 (Addr.add a 3) w fun c3=>
 au .i64 (Addr.add a 4) w fun c4=>
 K c0 c1 c2 c3 c4
def oJ (a:Addr) (c0:Int) (c1:Int) (c2:Int) (c3:Int) (c4:Int) (w:World) (K:World→Prop):Prop:=
 st (Addr.add a 0) (.int .i64 c0) w fun w=>
 st (Addr.add a 1) (.int .i64 c1) w fun w=>
 st (Addr.add a 2) (.int .i64 c2) w fun w=>
 st (Addr.add a 3) (.int .i64 c3) w fun w=>
 st (Addr.add a 4) (.int .i64 c4) w fun w=>
 K w
def Pv (v:Value) (K:Int→Int→Int→Int→Int→Prop):Prop:=
 qy v fun r=>
 aD r fun v0 r=>
 aF .i64 v0 fun c0=>
 aD r fun v1 r=>
 aF .i64 v1 fun c1=>
 aD r fun v2 r=>
 aF .i64 v2 fun c2=>
 aD r fun v3 r=>
 aF .i64 v3 fun c3=>
 aD r fun v4 r=>
 aF .i64 v4 fun c4=>
 (r=[]∧K c0 c1 c2 c3 c4)
def qQ (a:Addr) (w:World) (K:Int→Int→Int→Int→Int→Int→Int→Int→Int→Prop):Prop:=
 au .i64 (Addr.add a 0) w fun c0=>
 au .i64 (Addr.add a 1) w fun c1=>
 au .i64 (Addr.add a 2) w fun c2=>
 au .i64 (Addr.add a 3) w fun c3=>
 au .i64 (Addr.add a 4) w fun c4=>
 au .i64 (Addr.add a 5) w fun c5=>
 au .i64 (Addr.add a 6) w fun c6=>
 au .i64 (Addr.add a 7) w fun c7=>
 au .i64 (Addr.add a 8) w fun c8=>
 K c0 c1 c2 c3 c4 c5 c6 c7 c8
def rV (a:Addr) (c0:Int) (c1:Int) (c2:Int) (c3:Int) (c4:Int) (c5:Int) (c6:Int) (c7:Int) (c8:Int) (w:World) (K:World→Prop):Prop:=
 st (Addr.add a 0) (.int .i64 c0) w fun w=>
 st (Addr.add a 1) (.int .i64 c1) w fun w=>
 st (Addr.add a 2) (.int .i64 c2) w fun w=>
 st (Addr.add a 3) (.int .i64 c3) w fun w=>
 st (Addr.add a 4) (.int .i64 c4) w fun w=>
 st (Addr.add a 5) (.int .i64 c5) w fun w=>
 st (Addr.add a 6) (.int .i64 c6) w fun w=>
 st (Addr.add a 7) (.int .i64 c7) w fun w=>
 st (Addr.add a 8) (.int .i64 c8) w fun w=>
 K w
def Pw (v:Value) (K:Int→Int→Int→Int→Int→Int→Int→Int→Int→Prop):Prop:=
 qy v fun r=>
 aD r fun v0 r=>
 aF .i64 v0 fun c0=>
 aD r fun v1 r=>
 aF .i64 v1 fun c1=>
 aD r fun v2 r=>
 aF .i64 v2 fun c2=>
 aD r fun v3 r=>
 aF .i64 v3 fun c3=>
 aD r fun v4 r=>
 aF .i64 v4 fun c4=>
 aD r fun v5 r=>
 aF .i64 v5 fun c5=>
 aD r fun v6 r=>
 aF .i64 v6 fun c6=>
 aD r fun v7 r=>
 aF .i64 v7 fun c7=>
 aD r fun v8 r=>
 aF .i64 v8 fun c8=>
 (r=[]∧K c0 c1 c2 c3 c4 c5 c6 c7 c8)
def tB (a:Addr) (w:World) (K:Int→Int→Int→Int→Int→Int→Int→Int→Int→Prop):Prop:=
 au .i64 (Addr.add a 0) w fun c0=>
 au .i64 (Addr.add a 1) w fun c1=>
 au .i64 (Addr.add a 2) w fun c2=>
 au .i64 (Addr.add a 3) w fun c3=>
 au .i64 (Addr.add a 4) w fun c4=>
 au .i64 (Addr.add a 5) w fun c5=>
 au .i64 (Addr.add a 6) w fun c6=>
 au .i64 (Addr.add a 7) w fun c7=>
 au .i64 (Addr.add a 8) w fun c8=>
 K c0 c1 c2 c3 c4 c5 c6 c7 c8
def pq (a:Addr) (c0:Int) (c1:Int) (c2:Int) (c3:Int) (c4:Int) (c5:Int) (c6:Int) (c7:Int) (c8:Int) (w:World) (K:World→Prop):Prop:=
 st (Addr.add a 0) (.int .i64 c0) w fun w=>
 st (Addr.add a 1) (.int .i64 c1) w fun w=>
 st (Addr.add a 2) (.int .i64 c2) w fun w=>
 st (Addr.add a 3) (.int .i64 c3) w fun w=>
 st (Addr.add a 4) (.int .i64 c4) w fun w=>
 st (Addr.add a 5) (.int .i64 c5) w fun w=>
 st (Addr.add a 6) (.int .i64 c6) w fun w=>
 st (Addr.add a 7) (.int .i64 c7) w fun w=>
 st (Addr.add a 8) (.int .i64 c8) w fun w=>
 K w
def YB (v:Value) (K:Int→Int→Int→Int→Int→Int→Int→Int→Int→Prop):Prop:=
 qy v fun r=>
 aD r fun v0 r=>
 aF .i64 v0 fun c0=>
 aD r fun v1 r=>
 aF .i64 v1 fun c1=>
 aD r fun v2 r=>
 aF .i64 v2 fun c2=>
 aD r fun v3 r=>
 aF .i64 v3 fun c3=>
 aD r fun v4 r=>
 aF .i64 v4 fun c4=>
 aD r fun v5 r=>
 aF .i64 v5 fun c5=>
 aD r fun v6 r=>
 aF .i64 v6 fun c6=>
 aD r fun v7 r=>
 aF .i64 v7 fun c7=>
 aD r fun v8 r=>
 aF .i64 v8 fun c8=>
 (r=[]∧K c0 c1 c2 c3 c4 c5 c6 c7 c8)
def Nt (a b:ah) (w:World) (R:Value→World→Prop):Prop:=
 az (!decide ((a.n:Int)=(b.n:Int)))
 (R (.bool false) w)
 (dX (fun (c:Int)=>[(5,some (.int .i64 c))])
 (fun d c e=>az (decide (c<(a.n:Int)))
 (aZ a.a c a.n
 (au .u8 (Addr.add (base a.a) (Int.toNat c * 1)) (World.drew e) fun f=>
 aZ b.a c b.n
 (au .u8 (Addr.add (base b.a) (Int.toNat c * 1)) (World.drew e) fun g=>
 az (!decide (f=g))
 (R (.bool false) (World.drew e))
 ((aH (c+1)∧
 d (c+1) (World.drew e))))))
 (R (.bool true) e))
 0 w)
theorem aeM {a b:ah} {w:World} {R:Value→World→Prop} (h:Nt a b w R):Ok Pr th [.slice a.a a.n a.c,.slice b.a b.n b.c] w R:=
 aP (m:=⟨true,true⟩) (J:=[]) (L:=[(4,[(5,.int .i64)])]) aN Tryz.func16 (by kernel_rfl) ((by kernel_rfl:aO Pr _ _ _ Tryz.f16 _ w R=Nt a b w R).mpr h)
def Jv (e:Value) (w:World) (R:Value→World→Prop):Prop:=
 dF e fun a=>
 az a
 (R (.int .i64 0) w)
 (nw kH (zc Pr kH) w fun b c=>
 iJ []
 (fun d=>bO b d fun f=>
 cK f fun g=>
 au .i64 (Addr.add g 0) d fun i=>
 R (.int .i64 i) d)
 (fun j=>
 ax Pr I8 [e,.iface WX (.pointer (some b))] (World.drew c) fun k l=>
 aQ k fun m=>
 bO b l fun n=>
 bO b l fun o=>
 az ((!m) || (Option.isNone (α:=Addr) n))
 (bO b l fun p=>
 bO b l fun q=>
 (kept b 1 l l∧
 R (.int .i64 (-1:Int)) l))
 (cK o fun s=>
 au .i64 (Addr.add s 0) l fun t=>
 bO b l fun u=>
 az (decide (t=0))
 (bO b l fun v=>
 (kept b 1 l l∧
 R (.int .i64 (-1:Int)) l))
 (cK u fun x=>
 au .i64 (Addr.add x 0) l fun y=>
 ax Pr X2 [e,.iface yu (.int .i64 y)] l fun z A=>
 aQ z fun B=>
 bO b A fun C=>
 az (!B)
 ((kept b 1 A A∧
 R (.int .i64 (-1:Int)) A))
 (cK C fun D=>
 au .i64 (Addr.add D 0) A fun E=>
 ax Pr Cv [e] A fun F G=>
 aF .i64 F fun I=>
 (kept (Addr.add D 0) 1 A G∧
 (kept b 1 A G∧
 az (!decide (I=E))
 (R (.int .i64 (-1:Int)) G)
 (j G))))))))
theorem Xv {e:Value} {w:World} {R:Value→World→Prop} (h:Jv e w R):Ok Pr uY [e] w R:=
 aP (m:=⟨true,true⟩) (J:=[(6,[])]) (L:=[]) aN Tryz.func18 (by kernel_rfl) ((by kernel_rfl:aO Pr _ _ _ Tryz.f18 _ w R=Jv e w R).mpr h)
def Q8 (x n:Int) (w:World) (R:Value→World→Prop):Prop:=
 pos (IntKind.wrap .u64 (n)) ((0≤IntKind.wrap .u64 (x)∧
 (aH ((IntKind.wrap .u64 (x)) % (IntKind.wrap .u64 (n)))∧
 R (.int .i64 ((IntKind.wrap .u64 (x)) % (IntKind.wrap .u64 (n)))) w)))
theorem ahz {x n:Int} {w:World} {R:Value→World→Prop} (h:Q8 x n w R):Ok Pr uZ [.int .i64 x,.int .i64 n] w R:=
 aP (m:=⟨true,true⟩) (J:=[]) (L:=[]) aN Tryz.func20 (by kernel_rfl) ((by kernel_rfl:aO Pr _ _ _ Tryz.f20 _ w R=Q8 x n w R).mpr h)
def Q9 (e:Value) (w:World) (R:Value→World→Prop):Prop:=
 nw yu (zc Pr yu) w fun a b=>
 dF e fun c=>
 az c
 (R (.int .i64 0) b)
 (ax Pr I8 [e,.iface Xu (.pointer (some a))] b fun d f=>
 aQ d fun g=>
 az g
 (au .i64 a f fun i=>
 R (.int .i64 i) f)
 (R (.int .i64 2) f))
theorem ahA {e:Value} {w:World} {R:Value→World→Prop} (h:Q9 e w R):Ok Pr Cv [e] w R:=
 aP (m:=⟨true,true⟩) (J:=[]) (L:=[]) aN Tryz.func54 (by kernel_rfl) ((by kernel_rfl:aO Pr _ _ _ Tryz.f54 _ w R=Q9 e w R).mpr h)
def IB (l:ah) (w:World) (R:Value→World→Prop):Prop:=
 dX (fun (a:Int)=>[(2,some (.int .i64 a))])
 (fun b a c=>az (decide (a<(l.n:Int)))
 (aZ l.a a l.n
 (st (Addr.add (base l.a) (Int.toNat a * 1)) (.int .u8 238) c fun d=>
 (aH (a+1)∧
 b (a+1) d)))
 (nw aM [.int .u8 238] c fun e f=>
 cS Pr [bp,bp] bp [.slice l.a l.n l.c,.slice (some e) 1 1] f fun g i=>
 R (.tuple ⟨[]⟩) i))
 0 w
theorem WD {l:ah} {w:World} {R:Value→World→Prop} (h:IB l w R):Ok Pr zV [.slice l.a l.n l.c] w R:=
 aP (m:=⟨true,true⟩) (J:=[]) (L:=[(1,[(2,.int .i64)])]) aN Tryz.func69 (by kernel_rfl) ((by kernel_rfl:aO Pr _ _ _ Tryz.f69 _ w R=IB l w R).mpr h)
def Iq (s:ah) (w:World) (R:Value→World→Prop):Prop:=
 az (Option.isNone (α:=Addr) s.a)
 (R (.slice none 0 0) w)
 (nw aM [] w fun a b=>
 cS Pr [bp,bp] bp [.slice (some a) 0 0,.slice s.a s.n s.c] b fun c d=>
 R (.slice c.a c.n c.c) d)
theorem Ww {s:ah} {w:World} {R:Value→World→Prop} (h:Iq s w R):Ok Pr sY [.slice s.a s.n s.c] w R:=
 aP (m:=⟨true,true⟩) (J:=[]) (L:=[]) aN Tryz.func81 (by kernel_rfl) ((by kernel_rfl:aO Pr _ _ _ Tryz.f81 _ w R=Iq s w R).mpr h)
def Mm (s:ah) (f:Value) (w:World) (R:Value→World→Prop):Prop:=
 ax Pr Mr [.slice s.a s.n s.c,f] w fun a b=>
 aF .i64 a fun c=>
 R (.bool (decide (0≤c))) b
theorem adW {s:ah} {f:Value} {w:World} {R:Value→World→Prop} (h:Mm s f w R):Ok Pr Mh [.slice s.a s.n s.c,f] w R:=
 aP (m:=⟨true,true⟩) (J:=[]) (L:=[]) aN Tryz.func116 (by kernel_rfl) ((by kernel_rfl:aO Pr _ _ _ Tryz.f116 _ w R=Mm s f w R).mpr h)
def Ms (s:ah) (f:Value) (w:World) (R:Value→World→Prop):Prop:=
 dX (fun (a:Int)=>[(8,some (.int .i64 a))])
 (fun b a c=>az (decide (a<(s.n:Int)))
 (aZ s.a a s.n
 (au .u8 (Addr.add (base s.a) (Int.toNat a * 1)) c fun d=>
 qx Pr f [.int .u8 d] c fun e g=>
 aQ e fun i=>
 az i
 (R (.int .i64 a) g)
 ((aH (a+1)∧
 b (a+1) g))))
 (R (.int .i64 (-1:Int)) c))
 0 w
theorem adZ {s:ah} {f:Value} {w:World} {R:Value→World→Prop} (h:Ms s f w R):Ok Pr Mr [.slice s.a s.n s.c,f] w R:=
 aP (m:=⟨true,true⟩) (J:=[]) (L:=[(2,[(8,.int .i64)])]) aN Tryz.func159 (by kernel_rfl) ((by kernel_rfl:aO Pr _ _ _ Tryz.f159 _ w R=Ms s f w R).mpr h)
def L6 (s:ah) (w:World) (R:Value→World→Prop):Prop:=
 az (Option.isNone (α:=Addr) s.a)
 (R (.slice none 0 0) w)
 (nw cZ [] w fun a b=>
 cS Pr [jU,jU] jU [.slice (some a) 0 0,.slice s.a s.n s.c] b fun c d=>
 R (.slice c.a c.n c.c) d)
theorem adT {s:ah} {w:World} {R:Value→World→Prop} (h:L6 s w R):Ok Pr Ip [.slice s.a s.n s.c] w R:=
 aP (m:=⟨true,true⟩) (J:=[]) (L:=[]) aN Tryz.func193 (by kernel_rfl) ((by kernel_rfl:aO Pr _ _ _ Tryz.f193 _ w R=L6 s w R).mpr h)
def L7 (s:ah) (w:World) (R:Value→World→Prop):Prop:=
 az (Option.isNone (α:=Addr) s.a)
 (R (.slice none 0 0) w)
 (nw ey [] w fun a b=>
 cS Pr [nE,nE] nE [.slice (some a) 0 0,.slice s.a s.n s.c] b fun c d=>
 R (.slice c.a c.n c.c) d)
theorem adU {s:ah} {w:World} {R:Value→World→Prop} (h:L7 s w R):Ok Pr L5 [.slice s.a s.n s.c] w R:=
 aP (m:=⟨true,true⟩) (J:=[]) (L:=[]) aN Tryz.func194 (by kernel_rfl) ((by kernel_rfl:aO Pr _ _ _ Tryz.f194 _ w R=L7 s w R).mpr h)
def Mo (s:ah) (w:World) (R:Value→World→Prop):Prop:=
 az (Option.isNone (α:=Addr) s.a)
 (R (.slice none 0 0) w)
 (nw bW [] w fun a b=>
 cS Pr [nH,nH] nH [.slice (some a) 0 0,.slice s.a s.n s.c] b fun c d=>
 R (.slice c.a c.n c.c) d)
theorem adX {s:ah} {w:World} {R:Value→World→Prop} (h:Mo s w R):Ok Pr Mn [.slice s.a s.n s.c] w R:=
 aP (m:=⟨true,true⟩) (J:=[]) (L:=[]) aN Tryz.func195 (by kernel_rfl) ((by kernel_rfl:aO Pr _ _ _ Tryz.f195 _ w R=Mo s w R).mpr h)
def L3 (s:ah) (w:World) (R:Value→World→Prop):Prop:=
 az (Option.isNone (α:=Addr) s.a)
 (R (.slice none 0 0) w)
 (nw eW [] w fun a b=>
 cS Pr [rS,rS] rS [.slice (some a) 0 0,.slice s.a s.n s.c] b fun c d=>
 R (.slice c.a c.n c.c) d)
theorem adR {s:ah} {w:World} {R:Value→World→Prop} (h:L3 s w R):Ok Pr L1 [.slice s.a s.n s.c] w R:=
 aP (m:=⟨true,true⟩) (J:=[]) (L:=[]) aN Tryz.func197 (by kernel_rfl) ((by kernel_rfl:aO Pr _ _ _ Tryz.f197 _ w R=L3 s w R).mpr h)
def LV (s:ah) (f:Value) (w:World) (R:Value→World→Prop):Prop:=
 ax Pr LY [.slice s.a s.n s.c,f] w fun a b=>
 aF .i64 a fun c=>
 R (.bool (decide (0≤c))) b
theorem adO {s:ah} {f:Value} {w:World} {R:Value→World→Prop} (h:LV s f w R):Ok Pr LU [.slice s.a s.n s.c,f] w R:=
 aP (m:=⟨true,true⟩) (J:=[]) (L:=[]) aN Tryz.func199 (by kernel_rfl) ((by kernel_rfl:aO Pr _ _ _ Tryz.f199 _ w R=LV s f w R).mpr h)
def Mq (s:ah) (f:Value) (w:World) (R:Value→World→Prop):Prop:=
 ax Pr Mt [.slice s.a s.n s.c,f] w fun a b=>
 aF .i64 a fun c=>
 R (.bool (decide (0≤c))) b
theorem adY {s:ah} {f:Value} {w:World} {R:Value→World→Prop} (h:Mq s f w R):Ok Pr Mp [.slice s.a s.n s.c,f] w R:=
 aP (m:=⟨true,true⟩) (J:=[]) (L:=[]) aN Tryz.func216 (by kernel_rfl) ((by kernel_rfl:aO Pr _ _ _ Tryz.f216 _ w R=Mq s f w R).mpr h)
def LZ (s:ah) (f:Value) (w:World) (R:Value→World→Prop):Prop:=
 dX (fun (a:Int)=>[(8,some (.int .i64 a))])
 (fun b a c=>az (decide (a<(s.n:Int)))
 (aZ s.a a s.n
 (Am (Addr.add (base s.a) (Int.toNat a * 3)) c fun d e g=>
 qx Pr f [.agg ⟨tQ d e g⟩] c fun i j=>
 aQ i fun k=>
 az k
 (R (.int .i64 a) j)
 ((aH (a+1)∧
 b (a+1) j))))
 (R (.int .i64 (-1:Int)) c))
 0 w
theorem adQ {s:ah} {f:Value} {w:World} {R:Value→World→Prop} (h:LZ s f w R):Ok Pr LY [.slice s.a s.n s.c,f] w R:=
 aP (m:=⟨true,true⟩) (J:=[]) (L:=[(2,[(8,.int .i64)])]) aN Tryz.func232 (by kernel_rfl) ((by kernel_rfl:aO Pr _ _ _ Tryz.f232 _ w R=LZ s f w R).mpr h)
def NH (x:Int) (w:World) (R:Value→World→Prop):Prop:=
 ax Pr WL [.int .u64 x] w fun a b=>
 aF .i64 a fun c=>
 R (.int .i64 c) b
theorem ae8 {x:Int} {w:World} {R:Value→World→Prop} (h:NH x w R):Ok Pr NG [.int .u64 x] w R:=
 aP (m:=⟨true,true⟩) (J:=[]) (L:=[]) aN Tryz.func233 (by kernel_rfl) ((by kernel_rfl:aO Pr _ _ _ Tryz.f233 _ w R=NH x w R).mpr h)
def Mu (s:ah) (f:Value) (w:World) (R:Value→World→Prop):Prop:=
 dX (fun (a:Int)=>[(8,some (.int .i64 a))])
 (fun b a c=>az (decide (a<(s.n:Int)))
 (aZ s.a a s.n
 (au .i64 (Addr.add (base s.a) (Int.toNat a * 1)) c fun d=>
 qx Pr f [.int .i64 d] c fun e g=>
 aQ e fun i=>
 az i
 (R (.int .i64 a) g)
 ((aH (a+1)∧
 b (a+1) g))))
 (R (.int .i64 (-1:Int)) c))
 0 w
theorem ad0 {s:ah} {f:Value} {w:World} {R:Value→World→Prop} (h:Mu s f w R):Ok Pr Mt [.slice s.a s.n s.c,f] w R:=
 aP (m:=⟨true,true⟩) (J:=[]) (L:=[(2,[(8,.int .i64)])]) aN Tryz.func253 (by kernel_rfl) ((by kernel_rfl:aO Pr _ _ _ Tryz.f253 _ w R=Mu s f w R).mpr h)
def Mv (s:ah) (v:Int) (w:World) (R:Value→World→Prop):Prop:=
 ax Pr Mx [.slice s.a s.n s.c,.int .i64 v] w fun a b=>
 aF .i64 a fun c=>
 R (.bool (decide (0≤c))) b
theorem ad3 {s:ah} {v:Int} {w:World} {R:Value→World→Prop} (h:Mv s v w R):Ok Pr Wx [.slice s.a s.n s.c,.int .i64 v] w R:=
 aP (m:=⟨true,true⟩) (J:=[]) (L:=[]) aN Tryz.func254 (by kernel_rfl) ((by kernel_rfl:aO Pr _ _ _ Tryz.f254 _ w R=Mv s v w R).mpr h)
def M7 (x:Int) (w:World) (R:Value→World→Prop):Prop:=
 AQ (fun (a b:Int)=>[(0,some (.int .u64 a)),(2,some (.int .i64 b))])
 (fun a b c=>AQ (fun (d e:Int)=>[(0,some (.int .u64 d)),(2,some (.int .i64 e))])
 (fun d e f=>AQ (fun (g i:Int)=>[(0,some (.int .u64 g)),(2,some (.int .i64 i))])
 (fun g i j=>idx (IntKind.wrap .u8 (g)) (ByteArray.size uU)
 ((aH (vR uU (IntKind.wrap .u8 (g)))∧
 (aH (i+(vR uU (IntKind.wrap .u8 (g))))∧
 lt (A:=Int) (i+(vR uU (IntKind.wrap .u8 (g)))) fun k=>
 R (.int .i64 k) j))))
 (fun l=>
 az (decide (256≤d))
 ((aH (e+8)∧
 l (shr .u64 d 8) (e+8) f))
 (l d e f)))
 (fun m=>
 az (decide (65536≤a))
 ((aH (b+16)∧
 m (shr .u64 a 16) (b+16) c))
 (m a b c)))
 (fun n=>
 az (decide (4294967296≤x))
 (n (shr .u64 x 32) 32 w)
 (n x 0 w))
theorem aey {x:Int} {w:World} {R:Value→World→Prop} (h:M7 x w R):Ok Pr WL [.int .u64 x] w R:=
 aP (m:=⟨true,true⟩) (J:=[(4,[(0,.int .u64),(2,.int .i64)]),(7,[(0,.int .u64),(2,.int .i64)]),(10,[(0,.int .u64),(2,.int .i64)])]) (L:=[]) aN Tryz.func271 (by kernel_rfl) ((by kernel_rfl:aO Pr _ _ _ Tryz.f271 _ w R=M7 x w R).mpr h)
def My (s:ah) (v:Int) (w:World) (R:Value→World→Prop):Prop:=
 dX (fun (a:Int)=>[(8,some (.int .i64 a))])
 (fun b a c=>az (decide (a<(s.n:Int)))
 (aZ s.a a s.n
 (au .i64 (Addr.add (base s.a) (Int.toNat a * 1)) c fun d=>
 az (decide (v=d))
 (R (.int .i64 a) c)
 ((aH (a+1)∧
 b (a+1) c))))
 (R (.int .i64 (-1:Int)) c))
 0 w
theorem ad7 {s:ah} {v:Int} {w:World} {R:Value→World→Prop} (h:My s v w R):Ok Pr Mx [.slice s.a s.n s.c,.int .i64 v] w R:=
 aP (m:=⟨true,true⟩) (J:=[]) (L:=[(2,[(8,.int .i64)])]) aN Tryz.func288 (by kernel_rfl) ((by kernel_rfl:aO Pr _ _ _ Tryz.f288 _ w R=My s v w R).mpr h)
end Go.Proofs.YtpchgbolambkcaaGreatDoor
end
