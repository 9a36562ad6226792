/- WHAT A FUNCTION'S CODE ASKS FOR, as one proposition over values and worlds: definitions alone. Nothing of a program stands here. -/
import Derived.Tactics
import Derived.Orders
import Derived.Below
namespace Go.Ev
open Go

/-- how int's sums are asked for: 'nw': they fit, so nothing is wrapped; 'dv': what is divided is not below 0. -/
structure Mode where
  nw : Bool
  dv : Bool

def I64 (x : Int) : Prop := -9223372036854775808 ≤ x ∧ x ≤ 9223372036854775807

/-! ### words -/
/-- a name for what was reckoned -/
def lt {A : Type} (x : A) (K : A → Prop) : Prop := K x
/-- a slice's three words -/
structure SlV where
  a : Option Addr
  n : Nat
  c : Nat
@[reducible] def SlV.v (s : SlV) : Value := .slice s.a s.n s.c
def iteP (b : Bool) (A B : Prop) : Prop := Bool.rec B A b
def isI64 : IntKind → Bool | .i64 => true | _ => false
/-- a sum of kind k: of int's it is asked that it fits, if so wanted -/
def ar (nw : Bool) (k : IntKind) (z : Int) (K : Int → Prop) : Prop := cond (nw && isI64 k) (I64 z ∧ K z) (K (k.wrap z))
def pos (y : Int) (A : Prop) : Prop := match y with | .ofNat (_ + 1) => A | _ => 0 < y ∧ A
def cnt (y : Int) (A : Prop) : Prop := match y with | .ofNat _ => A | _ => 0 ≤ y ∧ A
def shl (k : IntKind) (x y : Int) : Int := k.wrap (x * 2 ^ (min y.toNat k.bits))
def shr (k : IntKind) (x y : Int) : Int := x.fdiv (2 ^ (min y.toNat k.bits))
def andI (k : IntKind) (x y : Int) : Int := k.wrap (BitVec.ofInt k.bits x &&& BitVec.ofInt k.bits y).toNat
def orI (k : IntKind) (x y : Int) : Int := k.wrap (BitVec.ofInt k.bits x ||| BitVec.ofInt k.bits y).toNat
def xorI (k : IntKind) (x y : Int) : Int := k.wrap (BitVec.ofInt k.bits x ^^^ BitVec.ofInt k.bits y).toNat
def clrI (k : IntKind) (x y : Int) : Int := k.wrap (BitVec.ofInt k.bits x &&& ~~~ BitVec.ofInt k.bits y).toNat
def notI (k : IntKind) (x : Int) : Int := xorI k (if k.signed then -1 else k.max) x
def ifaceNil (v : Value) (K : Bool → Prop) : Prop := match v with | .nilIface => K true | .iface _ _ => K false | _ => False
def funcNil (v : Value) (K : Bool → Prop) : Prop := match v with | .nilFunc => K true | .func _ _ _ => K false | _ => False
def ptrEq (p q : Option Addr) (K : Bool → Prop) : Prop := match q with | none => K p.isNone | some _ => match p with | none => K false | some _ => False
def slEq (p q : Option Addr) (K : Bool → Prop) : Prop := match q with | none => K p.isNone | some _ => match p with | none => K false | some _ => False
/-- an address that is asked for -/
def nilchk (p : Option Addr) (K : Addr → Prop) : Prop := match p with | some a => K a | none => False
def base (a : Option Addr) : Addr := a.getD ⟨0, 0, none⟩
def idx (i : Int) (n : Nat) (A : Prop) : Prop := (0 ≤ i ∧ i < (n : Int)) ∧ A
def idxS (a : Option Addr) (i : Int) (n : Nat) (A : Prop) : Prop := (a.isSome = true ∧ 0 ≤ i ∧ i < (n : Int)) ∧ A
/-- a byte of a string -/
def chr (b : ByteArray) (i : Int) : Int := (b.data.toList.getD i.toNat 0).toNat
/-- a number of an array -/
def atI (k : IntKind) (cs : List Value) (i : Int) (n : Nat) (K : Int → Prop) : Prop := idx i n (∃ z, cs[i.toNat]? = some (.int k z) ∧ K z)
/-- where a slice of a slice begins -/
def sub (a : Option Addr) (l m sz : Nat) : Option Addr := if m = l then a else a.map (·.add (l * sz))

/-! ### memory -/
def ldI (k : IntKind) (a : Addr) (w : World) (K : Int → Prop) : Prop := ∃ n, w.cell? a = some (.int k n) ∧ K n
def ldB (a : Addr) (w : World) (K : Bool → Prop) : Prop := ∃ b, w.cell? a = some (.bool b) ∧ K b
def ldS (a : Addr) (w : World) (K : ByteArray → Prop) : Prop := ∃ b, w.cell? a = some (.string b) ∧ K b
def ldP (a : Addr) (w : World) (K : Option Addr → Prop) : Prop := ∃ p, w.cell? a = some (.pointer p) ∧ K p
def ldL (a : Addr) (w : World) (K : SlV → Prop) : Prop := ∃ s : SlV, w.cell? a = some (.slice s.a s.n s.c) ∧ K s
def ldV (a : Addr) (w : World) (K : Value → Prop) : Prop := ∃ v, w.cell? a = some v ∧ K v
/-- n cells from a on -/
def rowAt (w : World) (a : Addr) (cs : List Value) : Prop := ∀ i v, cs[i]? = some v → w.cell? (a.add i) = some v
def ldA (n : Nat) (a : Addr) (w : World) (K : List Value → Prop) : Prop := ∃ cs, cs.length = n ∧ rowAt w a cs ∧ K cs
def isOne : Value → Bool | .agg _ | .tuple _ => false | _ => true
def oneC (v : Value) (A : Prop) : Prop := match v with | .agg _ | .tuple _ => False | _ => A
def st (a : Addr) (v : Value) (w : World) (K : World → Prop) : Prop := (∃ u, w.cell? a = some u) ∧ w.frozen? a = false ∧ oneC v (K (w.setCell a v))
def setRow : World → Addr → Nat → List Value → World
  | w, _, _, [] => w
  | w, a, i, v :: r => setRow (w.setCell (a.add i) v) a (i + 1) r
def stA (n : Nat) (a : Addr) (cs : List Value) (w : World) (K : World → Prop) : Prop :=
  cs.length = n ∧ (∀ i, i < n → (∃ u, w.cell? (a.add i) = some u) ∧ w.frozen? (a.add i) = false) ∧ (∀ v ∈ cs, isOne v = true) ∧ K (setRow w a 0 cs)
def nw (t : TypeId) (cs : List Value) (w : World) (K : Addr → World → Prop) : Prop := K ⟨w.heap.size, 0, none⟩ (w.alloc (.cells ⟨cs⟩ t))
def zc (P : Program) (t : TypeId) : List Value := match P.info? t with | some i => (match i.zero with | some v => v.cells.toList | none => []) | none => []
def zeroRow (n : Nat) (zs : List Value) : List Value := (List.replicate n zs).flatten
def bytesOf (P : Program) (t : TypeId) : Nat := match P.info? t with | some i => i.bytes | none => 0
def sizeOf (P : Program) (t : TypeId) : Nat := match P.info? t with | some i => i.size | none => 0
def known (P : Program) (t : TypeId) : Bool := (P.info? t).isSome
def hasUnd (P : Program) (t : TypeId) : Bool := (P.underlying t).isSome
def hasZero (P : Program) (t : TypeId) : Bool := match P.info? t with | some i => i.zero.isSome | none => false
def zeroOk (P : Program) (t : TypeId) : Bool := hasZero P t && Nat.beq (zc P t).length (sizeOf P t)
def mkSl (P : Program) (t : TypeId) (l c : Int) (w : World) (K : SlV → World → Prop) : Prop :=
  (0 ≤ l ∧ l ≤ c ∧ c ≤ 9223372036854775807 ∧ (bytesOf P t : Int) * c ≤ 2 ^ 48) ∧
    K ⟨some ⟨w.heap.size, 0, none⟩, l.toNat, c.toNat⟩ (w.alloc (.cells ⟨zeroRow c.toNat (zc P t)⟩ t))
/-- whatever the model's own operation makes of it -/
def runOp (P : Program) (s : Sem Value) (w : World) (K : Value → World → Prop) : Prop := ∃ v w', s.run P w = .ok v w' ∧ K v w'
def callK (P : Program) (f : FuncId) (args : List Value) (w : World) (K : Value → World → Prop) : Prop :=
  Calls P f ⟨args⟩ w fun e w' => ∃ v, e = .returned v ∧ K v w'
def bodied (P : Program) (f : Nat) : Bool := match P.funcs[f]? with | some fn => fn.body.isSome | none => false
def callV (P : Program) (g : Value) (args : List Value) (w : World) (K : Value → World → Prop) : Prop :=
  match g with | .func (.func f) first cap => cond (bodied P f) (callK P f (first.toList ++ args ++ cap.toList) w K) False | _ => False

/-! ### shapes of values -/
inductive Sh where
  | int (k : IntKind) | bool | str | ptr | adr | sl | val | arr
  | cells (l : List Sh) | tup (l : List Sh)

def asI (k : IntKind) (v : Value) (K : Int → Prop) : Prop := ∃ n, v = .int k n ∧ K n
def asB (v : Value) (K : Bool → Prop) : Prop := ∃ b, v = .bool b ∧ K b
def asStr (v : Value) (K : ByteArray → Prop) : Prop := ∃ b, v = .string b ∧ K b
def asP (v : Value) (K : Option Addr → Prop) : Prop := ∃ p, v = .pointer p ∧ K p
def asSl (v : Value) (K : SlV → Prop) : Prop := ∃ s : SlV, v = .slice s.a s.n s.c ∧ K s
def asArr (v : Value) (K : List Value → Prop) : Prop := ∃ cs, v = .agg ⟨cs⟩ ∧ K cs
def asTup (n : Nat) (v : Value) (K : List Value → Prop) : Prop := ∃ vs, v = .tuple ⟨vs⟩ ∧ vs.length = n ∧ K vs
/-- the head of a list that is long enough -/
def uncons (vs : List Value) (K : Value → List Value → Prop) : Prop := match vs with | [] => False | v :: r => K v r

/-- a leaf's shape -/
def shOf1 : TypeDesc → Sh
  | .int k => .int k | .bool => .bool | .string => .str | .pointer _ => .ptr | .slice _ => .sl | _ => .val
mutual
def shOf (P : Program) : Nat → TypeId → Sh
  | 0, _ => .val
  | d + 1, t => match P.underlying t with
    | some (.struct fs) => .cells (leaves P d fs.toList)
    | some (.array _ _) => .arr
    | some (.tuple ts) => .tup (shOfs P d ts.toList)
    | some u => shOf1 u
    | none => .val
def shOfs (P : Program) : Nat → List TypeId → List Sh
  | 0, _ => []
  | _, [] => []
  | d + 1, t :: r => shOf P d t :: shOfs P d r
/-- the cells of a struct's fields -/
def leaves (P : Program) : Nat → List Field → List Sh
  | 0, _ => []
  | _, [] => []
  | d + 1, f :: r => (match P.underlying f.type with
    | some (.struct fs) => leaves P d fs.toList
    | some (.array n e) => (List.replicate n (leaves P d [⟨"", e, 0, false, "", "", 0⟩])).flatten
    | some u => [shOf1 u]
    | none => [.val]) ++ leaves P d r
end
def shDepth : Nat := 64

def ldCell : Sh → Addr → World → (Value → Prop) → Prop
  | .int k, a, w, K => ldI k a w fun n => K (.int k n)
  | .bool, a, w, K => ldB a w fun b => K (.bool b)
  | .str, a, w, K => ldS a w fun b => K (.string b)
  | .ptr, a, w, K => ldP a w fun p => K (.pointer p)
  | .sl, a, w, K => ldL a w fun s => K (.slice s.a s.n s.c)
  | _, a, w, K => ldV a w fun v => K v
def ldCells : List Sh → Addr → Nat → World → (List Value → Prop) → Prop
  | [], _, _, _, K => K []
  | s :: r, a, i, w, K => ldCell s (a.add i) w fun v => ldCells r a (i + 1) w fun vs => K (v :: vs)
/-- a value of a leaf's shape -/
def asLeaf : Sh → Value → (Value → Prop) → Prop
  | .int k, v, K => asI k v fun n => K (.int k n)
  | .bool, v, K => asB v fun b => K (.bool b)
  | .str, v, K => asStr v fun b => K (.string b)
  | .ptr, v, K => asP v fun p => K (.pointer p)
  | .sl, v, K => asSl v fun s => K (.slice s.a s.n s.c)
  | .arr, v, K => asArr v fun cs => K (.agg ⟨cs⟩)
  | _, v, K => K v
def asLeaves : List Sh → List Value → (List Value → Prop) → Prop
  | [], vs, K => vs = [] ∧ K []
  | s :: r, vs, K => uncons vs fun v vs' => asLeaf s v fun v' => asLeaves r vs' fun vs'' => K (v' :: vs'')
/-- a value of whatever shape -/
def destr : Sh → Value → (Value → Prop) → Prop
  | .cells l, v, K => asArr v fun cs => asLeaves l cs fun cs' => K (.agg ⟨cs'⟩)
  | .tup l, v, K => asArr' v fun vs => asElems l vs fun vs' => K (.tuple ⟨vs'⟩)
  | s, v, K => asLeaf s v K
where
  asArr' (v : Value) (K : List Value → Prop) : Prop := ∃ cs, v = .tuple ⟨cs⟩ ∧ K cs
  asElems : List Sh → List Value → (List Value → Prop) → Prop
    | [], vs, K => vs = [] ∧ K []
    | .cells l :: r, vs, K => uncons vs fun v vs' => asArr v fun cs => asLeaves l cs fun cs' => asElems r vs' fun vs'' => K (.agg ⟨cs'⟩ :: vs'')
    | s :: r, vs, K => uncons vs fun v vs' => asLeaf s v fun v' => asElems r vs' fun vs'' => K (v' :: vs'')
/-- for every value of a shape -/
def allLeaf : Sh → (Value → Prop) → Prop
  | .int k, F => ∀ n : Int, F (.int k n)
  | .bool, F => ∀ b : Bool, F (.bool b)
  | .str, F => ∀ s : ByteArray, F (.string s)
  | .ptr, F => ∀ p : Option Addr, F (.pointer p)
  | .adr, F => ∀ a : Addr, F (.pointer (some a))
  | .sl, F => ∀ s : SlV, F (.slice s.a s.n s.c)
  | .arr, F => ∀ cs : List Value, F (.agg ⟨cs⟩)
  | _, F => ∀ v : Value, F v
def allLeaves : List Sh → (List Value → Prop) → Prop
  | [], F => F []
  | s :: r, F => allLeaf s fun v => allLeaves r fun vs => F (v :: vs)
def allSh : Sh → (Value → Prop) → Prop
  | .cells l, F => allLeaves l fun vs => F (.agg ⟨vs⟩)
  | s, F => allLeaf s F

def appK (P : Program) (ts : List TypeId) (ty : TypeId) (vs : List Value) (w : World) (K : SlV → World → Prop) : Prop := runOp P (Builtin.append_ ⟨ts⟩ ty ⟨vs⟩) w fun v w' => asSl v fun s => K s w'
def cpyK (P : Program) (ts : List TypeId) (ty : TypeId) (vs : List Value) (w : World) (K : Int → World → Prop) : Prop := runOp P (Builtin.copy_ ⟨ts⟩ ty ⟨vs⟩) w fun v w' => asI .i64 v fun n => K n w'
def s2bK (P : Program) (e : TypeId) (b : ByteArray) (w : World) (K : SlV → World → Prop) : Prop := runOp P (Conv.stringToBytes e b) w fun v w' => asSl v fun s => K s w'
def b2sK (P : Program) (x : SlV) (w : World) (K : ByteArray → World → Prop) : Prop := runOp P (Conv.bytesToString (.slice x.a x.n x.c)) w fun v w' => asStr v fun b => K b w'
def strishK (P : Program) (a : Option Addr) (w : World) (K : World → Prop) : Prop := match a with | some a => (∃ w', (markStringish a).run P w = .ok () w' ∧ K w') | none => False
def eqK (P : Program) (op : BinOp) (t : TypeId) (xs ys : List Value) (w : World) (K : Bool → World → Prop) : Prop := runOp P (do eqGuard op t (.tmp 0) (.tmp 0) (.agg ⟨xs⟩) (.agg ⟨ys⟩); binOp op t (.agg ⟨xs⟩) (.agg ⟨ys⟩)) w fun v w' => asB v fun b => K b w'

/-! ### the frame, as far as it is known -/
abbrev Key := List (Nat × Bool)
abbrev Fr := List (Nat × Option Value)
/-- fr: what slots hold ('none': not known); cd: slots that hold a value where their guards say so, else 'undef'; lt: guards that are settled -/
structure St where
  fr : Fr
  cd : List (Nat × Key × Value)
  lt : List (Nat × Bool)
def look (t : Nat) : Fr → Option Value
  | [] => none
  | (s, v) :: r => cond (Nat.beq s t) v (look t r)
def lookC (t : Nat) : List (Nat × Key × Value) → Option (Key × Value)
  | [] => none
  | (s, e) :: r => cond (Nat.beq s t) (some e) (lookC t r)
def lookL (t : Nat) : List (Nat × Bool) → Option Bool
  | [] => none
  | (s, b) :: r => cond (Nat.beq s t) (some b) (lookL t r)
def sameB (a b : Bool) : Bool := cond a b (cond b false true)
def keyIn (x : Nat × Bool) : Key → Bool
  | [] => false
  | y :: r => cond (Nat.beq x.1 y.1 && sameB x.2 y.2) true (keyIn x r)
def keyOn (d : Nat) : Key → Bool
  | [] => false
  | y :: r => cond (Nat.beq d y.1) true (keyOn d r)
def within : Key → Key → Bool
  | [], _ => true
  | x :: r, K => cond (keyIn x K) (within r K) false
/-- what an operand is, under guards -/
def St.val (s : St) (K : Key) : Operand → Option Value
  | .tmp t => match lookC t s.cd with
    | some (k, v) => cond (within k K) (some v) none
    | none => look t s.fr
  | .const v => some v
  | .global g => some (.pointer (some ⟨g, 0, none⟩))
  | .func f => some (.func (.func f) #[] #[])
/-- slot d is written: what was said of it, or under it, is said no more -/
def dropC (d : Nat) : List (Nat × Key × Value) → List (Nat × Key × Value)
  | [] => []
  | (s, k, v) :: r => cond (Nat.beq s d || keyOn d k) (dropC d r) ((s, k, v) :: dropC d r)
def dropL (d : Nat) : List (Nat × Bool) → List (Nat × Bool)
  | [] => []
  | (s, b) :: r => cond (Nat.beq s d) (dropL d r) ((s, b) :: dropL d r)
/-- (what is dropped of 'cd' for its key's sake is not known any more) -/
def tomb (d : Nat) (fr : Fr) : List (Nat × Key × Value) → Fr
  | [] => fr
  | (s, k, _) :: r => cond (keyOn d k) ((s, none) :: tomb d fr r) (tomb d fr r)
def St.put (s : St) (d : Option Nat) (v : Option Value) : St := match d with
  | none => s
  | some d => ⟨(d, v) :: tomb d s.fr s.cd, dropC d s.cd, dropL d s.lt⟩
def St.putC (s : St) (d : Option Nat) (k : Key) (v : Value) : St := match d with
  | none => s
  | some d => cond (keyOn d k) (s.put (some d) none) ⟨(d, none) :: tomb d s.fr s.cd, (d, k, v) :: dropC d s.cd, dropL d s.lt⟩
/-- guard g is settled: it says b -/
def without (g : Nat) : Key → Key
  | [] => []
  | y :: r => cond (Nat.beq g y.1) (without g r) (y :: without g r)
def settleC (g : Nat) (b : Bool) : List (Nat × Key × Value) → List (Nat × Key × Value)
  | [] => []
  | (s, k, v) :: r => cond (keyIn (g, !b) k) (settleC g b r) (cond (keyIn (g, b) k) (match without g k with | [] => settleC g b r | k' => (s, k', v) :: settleC g b r) ((s, k, v) :: settleC g b r))
def settleF (g : Nat) (b : Bool) (fr : Fr) : List (Nat × Key × Value) → Fr
  | [] => fr
  | (s, k, v) :: r => cond (keyIn (g, !b) k) ((s, some undef) :: settleF g b fr r) (cond (keyIn (g, b) k) (match without g k with | [] => (s, some v) :: settleF g b fr r | _ => settleF g b fr r) (settleF g b fr r))
def unC (g : Nat) : List (Nat × Key × Value) → List (Nat × Key × Value)
  | [] => []
  | (s, k, v) :: r => cond (Nat.beq s g) (unC g r) ((s, k, v) :: unC g r)
def St.settle (s : St) (g : Nat) (b : Bool) : St := ⟨(g, some (.bool b)) :: settleF g b s.fr s.cd, unC g (settleC g b s.cd), (g, b) :: s.lt⟩

/-! ### operations that only compute, whatever their operands -/
def totInt (op : BinOp) (k : IntKind) (x : Int) (k' : IntKind) (y : Int) : Option Value :=
  match op with
  | .add => cond (decide (k = k')) (some (.int k (k.wrap (x + y)))) none
  | .sub => cond (decide (k = k')) (some (.int k (k.wrap (x - y)))) none
  | .mul => cond (decide (k = k')) (some (.int k (k.wrap (x * y)))) none
  | .rem => cond (decide (k = k')) (match y with | .ofNat (_ + 1) => some (.int k (x.tmod y)) | _ => none) none
  | .quo => cond (decide (k = k')) (match y with | .ofNat (_ + 1) => some (.int k (k.wrap (x.tdiv y))) | _ => none) none
  | .shl => (match y with | .ofNat _ => some (.int k (shl k x y)) | _ => none)
  | .shr => (match y with | .ofNat _ => some (.int k (shr k x y)) | _ => none)
  | .and => cond (decide (k = k')) (some (.int k (andI k x y))) none
  | .or => cond (decide (k = k')) (some (.int k (orI k x y))) none
  | .xor => cond (decide (k = k')) (some (.int k (xorI k x y))) none
  | .andNot => cond (decide (k = k')) (some (.int k (clrI k x y))) none
  | .eql => cond (decide (k = k')) (some (.bool (decide (x = y)))) none
  | .neq => cond (decide (k = k')) (some (.bool (!decide (x = y)))) none
  | .lss => cond (decide (k = k')) (some (.bool (decide (x < y)))) none
  | .leq => cond (decide (k = k')) (some (.bool (decide (x ≤ y)))) none
  | .gtr => cond (decide (k = k')) (some (.bool (decide (y < x)))) none
  | .geq => cond (decide (k = k')) (some (.bool (decide (y ≤ x)))) none
def totBin (P : Program) (op : BinOp) (t : TypeId) (a b : Value) : Option Value :=
  match a, b with
  | .int k x, .int k' y => totInt op k x k' y
  | .bool x, .bool y => (match P.underlying t, op with | some .bool, .eql => some (.bool (x == y)) | some .bool, .neq => some (.bool (!(x == y))) | _, _ => none)
  | .string x, .string y => (match op with | .eql => some (.bool (decide (x = y))) | .neq => some (.bool (!decide (x = y))) | _ => none)
  | .slice p _ _, .slice none _ _ => (match P.underlying t, op with | some (.slice _), .eql => some (.bool p.isNone) | some (.slice _), .neq => some (.bool (!p.isNone)) | _, _ => none)
  | .pointer p, .pointer none => (match P.underlying t, op with | some (.pointer _), .eql => some (.bool p.isNone) | some (.pointer _), .neq => some (.bool (!p.isNone)) | _, _ => none)
  | .map p, .map none => (match P.underlying t, op with | some (.map _ _), .eql => some (.bool p.isNone) | some (.map _ _), .neq => some (.bool (!p.isNone)) | _, _ => none)
  | _, _ => none
/-- xs laid into cells at a place -/
def splice (off : Nat) (xs cells : List Value) : List Value := cells.take off ++ (xs ++ cells.drop (off + xs.length))
def fillL (place : Nat → Option (Nat × Nat)) (cells : List Value) : List (Nat × Value) → Option (List Value)
  | [] => some cells
  | (i, v) :: rest => match place i with
    | none => none
    | some (off, size) => cond (Nat.beq v.cells.toList.length size && Nat.ble (off + v.cells.toList.length) cells.length) (fillL place (splice off v.cells.toList cells) rest) none
def placesOf (P : Program) : List Field → Option (List (Nat × Nat))
  | [] => some []
  | f :: r => cond (known P f.type) (match placesOf P r with | some l => some ((f.offset, sizeOf P f.type) :: l) | none => none) none
def valsOf (ρ : Operand → Option Value) : List Operand → Option (List Value)
  | [] => some []
  | x :: r => match ρ x with | none => none | some v => match valsOf ρ r with | none => none | some vs => some (v :: vs)
def partsOf (ρ : Operand → Option Value) : List (Nat × Operand) → Option (List (Nat × Value))
  | [] => some []
  | (i, x) :: r => match ρ x with | none => none | some v => match partsOf ρ r with | none => none | some vs => some ((i, v) :: vs)
def isAggT (P : Program) (t : TypeId) : Bool := match P.underlying t with | some (.struct _) | some (.array _ _) => true | _ => false
def buildV (P : Program) (t : TypeId) (ps : List (Nat × Value)) : Option Value :=
  match P.underlying t with
  | some (.struct fs) => cond (hasZero P t) (match placesOf P fs.toList with | some pl => (match fillL (fun i => pl[i]?) (zc P t) ps with | some cs => some (.agg ⟨cs⟩) | none => none) | none => none) none
  | some (.array _ e) => cond (hasZero P t && known P e) (match fillL (fun i => some (i * sizeOf P e, sizeOf P e)) (zc P t) ps with | some cs => some (.agg ⟨cs⟩) | none => none) none
  | _ => none
def fieldV (P : Program) (t : TypeId) (v : Value) (f : Nat) : Option Value :=
  match v with
  | .agg cs => (match P.underlying t with
    | some (.struct fs) => (match fs.toList[f]? with
      | some fd => cond (known P fd.type && hasUnd P fd.type) (cond (isAggT P fd.type) (some (.agg ⟨(cs.toList.drop fd.offset).take (sizeOf P fd.type)⟩)) (cs.toList[fd.offset]?)) none
      | none => none)
    | _ => none)
  | _ => none
def tot (P : Program) (ρ : Operand → Option Value) : Op → Option Value
  | .move x | .assign x => ρ x
  | .binOp op t x y _ => (match ρ x, ρ y with | some a, some b => totBin P op t a b | _, _ => none)
  | .unOp op _ x => (match op, ρ x with
    | .not, some (.bool b) => some (.bool (!b))
    | .neg, some (.int k n) => some (.int k (k.wrap (0 - n)))
    | .xor, some (.int k n) => some (.int k (notI k n))
    | _, _ => none)
  | .convert s d x => (match P.underlying s, P.underlying d, ρ x with
    | some _, some (.int k), some (.int _ n) => some (.int k (k.wrap n))
    | some .string, some .string, some (.string b) => some (.string b)
    | _, _, _ => none)
  | .makeInterface t x => (match P.underlying t with | some (.interface _) => none | some _ => (ρ x).map (.iface t) | none => none)
  | .makeFunc fn first cap => (match valsOf ρ first.toList, valsOf ρ cap.toList with | some a, some b => some (.func fn ⟨a⟩ ⟨b⟩) | _, _ => none)
  | .build t ps => (match partsOf ρ ps.toList with | some vs => buildV P t vs | none => none)
  | .field t x f => (match ρ x with | some v => fieldV P t v f | none => none)
  | .extract x i => (match ρ x with | some (.tuple vs) => vs.toList[i]? | _ => none)
  | .fieldAddr t x f => (match ρ x with
    | some (.pointer (some a)) => (match P.underlying t with
      | some (.struct fs) => (match fs.toList[f]? with | some fd => cond (Nat.beq (sizeOf P fd.type) 0 || !known P fd.type) none (some (.pointer (some (a.add fd.offset)))) | none => none)
      | _ => none)
    | _ => none)
  | .call { callee := .builtin .len, args, argTypes } => (match valsOf ρ args.toList, argTypes.toList with
    | some [.slice _ n _], [t] => (match P.underlying t with | some (.slice _) => some (.int .i64 n) | _ => none)
    | some [.string s], [t] => (match P.underlying t with | some .string => some (.int .i64 s.size) | _ => none)
    | some [_], [t] => (match P.underlying t with | some (.array n _) => some (.int .i64 n) | _ => none)
    | _, _ => none)
  | .call { callee := .builtin .cap, args, argTypes } => (match valsOf ρ args.toList, argTypes.toList with
    | some [.slice _ _ c], [t] => (match P.underlying t with | some (.slice _) => some (.int .i64 c) | _ => none)
    | _, _ => none)
  | .call { callee := .builtin .min, args, .. } => (match valsOf ρ args.toList with
    | some (.int k x :: r) => minAll k x r
    | _ => none)
  | .call { callee := .builtin .max, args, .. } => (match valsOf ρ args.toList with
    | some (.int k x :: r) => maxAll k x r
    | _ => none)
  | _ => none
where
  minAll (k : IntKind) (x : Int) : List Value → Option Value
    | [] => some (.int k x)
    | .int _ y :: r => minAll k (min x y) r
    | _ => none
  maxAll (k : IntKind) (x : Int) : List Value → Option Value
    | [] => some (.int k x)
    | .int _ y :: r => maxAll k (max x y) r
    | _ => none

/-! ### all operations -/
def intEv (m : Mode) (op : BinOp) (k : IntKind) (x : Int) (k' : IntKind) (y : Int) (K : Value → Prop) : Prop :=
  match op with
  | .add => cond (decide (k = k')) (ar m.nw k (x + y) fun z => K (.int k z)) False
  | .sub => cond (decide (k = k')) (ar m.nw k (x - y) fun z => K (.int k z)) False
  | .mul => cond (decide (k = k')) (ar m.nw k (x * y) fun z => K (.int k z)) False
  | .quo => cond (decide (k = k')) (pos y (cond m.dv ((0 ≤ x ∧ x ≤ k.max) ∧ K (.int k (x / y))) (K (.int k (k.wrap (x.tdiv y)))))) False
  | .rem => cond (decide (k = k')) (pos y (cond m.dv (0 ≤ x ∧ K (.int k (x % y))) (K (.int k (x.tmod y))))) False
  | .shl => cnt y (K (.int k (shl k x y)))
  | .shr => cnt y (K (.int k (shr k x y)))
  | op => match totInt op k x k' y with | some v => K v | none => False
def isC : Operand → Bool | .const _ => true | _ => false
def binEv (P : Program) (m : Mode) (op : BinOp) (t : TypeId) (yc : Bool) (a b : Value) (w : World) (K : Value → World → Prop) : Prop :=
  match b with
  | .nilIface => (match op, P.underlying t with
    | .eql, some (.interface _) => cond yc (ifaceNil a fun z => K (.bool z) w) False
    | .neq, some (.interface _) => cond yc (ifaceNil a fun z => K (.bool (!z)) w) False
    | _, _ => False)
  | .nilFunc => (match op, P.underlying t with
    | .eql, some (.func _ _ _) => funcNil a fun z => K (.bool z) w
    | .neq, some (.func _ _ _) => funcNil a fun z => K (.bool (!z)) w
    | _, _ => False)
  | .int k' y => (match a with | .int k x => intEv m op k x k' y fun v => K v w | _ => False)
  | .agg ys => (match a with | .agg xs => (match P.underlying t with | some (.struct _) => eqK P op t xs.toList ys.toList w fun b w' => K (.bool b) w' | _ => False) | _ => False)
  | .string y => (match a, op with
    | .string x, .add => (((x.size + y.size : Nat) : Int) ≤ 9223372036854775807) ∧ K (.string (x ++ y)) w
    | .string x, op => (match totBin P op t (.string x) (.string y) with | some v => K v w | none => False)
    | _, _ => False)
  | b => match totBin P op t a b with | some v => K v w | none => False
def optVal (ρ : Operand → Option Value) : Option Operand → Option (Option Value)
  | none => some none
  | some x => match ρ x with | some v => some (some v) | none => none
/-- slices of slices -/
def slH (x : SlV) (h : Int) (K : SlV → Prop) : Prop := (0 ≤ h ∧ h ≤ (x.c : Int)) ∧ K ⟨x.a, h.toNat, x.c⟩
def slL (sz : Nat) (x : SlV) (l : Int) (K : SlV → Prop) : Prop := (0 ≤ l ∧ l ≤ (x.n : Int)) ∧ K ⟨sub x.a l.toNat x.c sz, x.n - l.toNat, x.c - l.toNat⟩
def slLH (sz : Nat) (x : SlV) (l h : Int) (K : SlV → Prop) : Prop := (0 ≤ l ∧ l ≤ h ∧ h ≤ (x.c : Int)) ∧ K ⟨sub x.a l.toNat x.c sz, h.toNat - l.toNat, x.c - l.toNat⟩
def slHM (x : SlV) (h m : Int) (K : SlV → Prop) : Prop := (0 ≤ h ∧ h ≤ m ∧ m ≤ (x.c : Int)) ∧ K ⟨x.a, h.toNat, m.toNat⟩
def slLHM (sz : Nat) (x : SlV) (l h m : Int) (K : SlV → Prop) : Prop := (0 ≤ l ∧ l ≤ h ∧ h ≤ m ∧ m ≤ (x.c : Int)) ∧ K ⟨sub x.a l.toNat m.toNat sz, h.toNat - l.toNat, m.toNat - l.toNat⟩
def slEv (P : Program) (t : TypeId) (x : SlV) (lo hi mx : Option Value) (K : SlV → Prop) : Prop :=
  match lo, hi, mx with
  | none, none, none => K x
  | none, some (.int _ h), none => slH x h K
  | some (.int _ l), none, none => slL (sizeOf P t) x l K
  | some (.int _ l), some (.int _ h), none => slLH (sizeOf P t) x l h K
  | none, some (.int _ h), some (.int _ m) => slHM x h m K
  | some (.int _ l), some (.int _ h), some (.int _ m) => slLHM (sizeOf P t) x l h m K
  | _, _, _ => False
def strSl (s : ByteArray) (lo hi : Option Value) (K : ByteArray → Prop) : Prop :=
  match lo, hi with
  | none, none => K s
  | none, some (.int _ h) => (0 ≤ h ∧ h ≤ (s.size : Int)) ∧ K (s.extract 0 h.toNat)
  | some (.int _ l), none => (0 ≤ l ∧ l ≤ (s.size : Int)) ∧ K (s.extract l.toNat s.size)
  | some (.int _ l), some (.int _ h) => (0 ≤ l ∧ l ≤ h ∧ h ≤ (s.size : Int)) ∧ K (s.extract l.toNat h.toNat)
  | _, _ => False
def ldEv (P : Program) (t : TypeId) (a : Addr) (w : World) (K : Value → Prop) : Prop :=
  match P.underlying t with
  | some (.struct _) => (match shOf P shDepth t with
    | .cells l => cond (known P t && Nat.beq l.length (sizeOf P t)) (ldCells l a 0 w fun vs => K (.agg ⟨vs⟩)) False
    | _ => False)
  | some (.array _ _) => cond (known P t) (ldA (sizeOf P t) a w fun cs => K (.agg ⟨cs⟩)) False
  | some u => cond (Nat.beq (sizeOf P t) 1) (ldCell (shOf1 u) a w K) False
  | none => False
def stCells : List Value → Addr → Nat → World → (World → Prop) → Prop
  | [], _, _, w, K => K w
  | v :: r, a, i, w, K => st (a.add i) v w fun w' => stCells r a (i + 1) w' K
def stEv (P : Program) (t : TypeId) (a : Addr) (v : Value) (w : World) (K : World → Prop) : Prop :=
  cond (known P t) (match P.underlying t with
  | some (.struct _) => (match v with | .agg cs => cond (Nat.beq cs.toList.length (sizeOf P t)) (stCells cs.toList a 0 w K) False | _ => False)
  | some (.array _ _) => (match v with | .agg cs => stA (sizeOf P t) a cs.toList w K | _ => False)
  | some _ => cond (Nat.beq (sizeOf P t) 1) (st a v w K) False
  | none => False) False
/-- what a call gives, by its type -/
def resEv (P : Program) (dst : Option Nat) (t : TypeId) (v : Value) (K : Value → Prop) : Prop :=
  match dst with
  | none => K v
  | some _ => match shOf P shDepth t with
    | .tup [] => K v
    | s => destr s v K
def opEv (P : Program) (m : Mode) (ρ : Operand → Option Value) (o : Oper) (w : World) (K : Value → World → Prop) : Prop :=
  match o.op with
  | .binOp op t x y _ => (match ρ x, ρ y with | some a, some b => binEv P m op t (isC y) a b w K | _, _ => False)
  | .unOp .neg _ x => (match ρ x with | some (.int k n) => ar m.nw k (0 - n) fun z => K (.int k z) w | _ => False)
  | .convert s d x => (match P.underlying s, P.underlying d, ρ x with
    | some (.int _), some (.int k), some (.int _ n) => ar m.nw k n fun z => K (.int k z) w
    | some .string, some .string, some (.string b) => K (.string b) w
    | some .string, some (.slice e), some (.string b) => (match P.underlying e with | some (.int .u8) => s2bK P e b w fun s w' => K (.slice s.a s.n s.c) w' | _ => False)
    | some (.slice _), some (.slice e), some (.slice a n c) => (match P.underlying e with | some (.int .u8) => cond (Nat.beq s d) (strishK P a w fun w' => K (.slice a n c) w') False | _ => False)
    | some (.slice e), some .string, some (.slice a n c) => (match P.underlying e with | some (.int .u8) => b2sK P ⟨a, n, c⟩ w fun b w' => K (.string b) w' | _ => False)
    | _, _, _ => False)
  | .index t x i => (match ρ x, ρ i with
    | some (.string b), some (.int _ i) => (match P.underlying t with | some .string => idx i b.size (K (.int .u8 (chr b i)) w) | _ => False)
    | some (.agg cs), some (.int _ i) => (match P.underlying t with
      | some (.array n e) => (match P.underlying e with
        | some (.int k) => cond (Nat.beq (sizeOf P e) 1 && known P e) (atI k cs.toList i n fun z => K (.int k z) w) False
        | _ => False)
      | _ => False)
    | _, _ => False)
  | .indexAddr t x i => (match ρ x, ρ i with
    | some (.slice a n _), some (.int _ i) => (match P.underlying t with | some (.slice e) => cond (known P e) (idxS a i n (K (.pointer (some ((base a).add (i.toNat * sizeOf P e)))) w)) False | _ => False)
    | some (.pointer (some a)), some (.int _ i) => (match P.underlying t with | some (.array n e) => cond (known P e) (idx i n (K (.pointer (some (a.add (i.toNat * sizeOf P e)))) w)) False | _ => False)
    | _, _ => False)
  | .slice t x lo hi mx => (match ρ x, optVal ρ lo, optVal ρ hi, optVal ρ mx with
    | some (.slice a n c), some lo, some hi, some mx => (match P.underlying t with | some (.slice e) => cond (known P e) (slEv P e ⟨a, n, c⟩ lo hi mx fun s => K (.slice s.a s.n s.c) w) False | _ => False)
    | some (.pointer (some a)), some lo, some hi, some mx => (match P.underlying t with | some (.array n e) => cond (known P e) (slEv P e ⟨some a, n, n⟩ lo hi mx fun s => K (.slice s.a s.n s.c) w) False | _ => False)
    | some (.string b), some lo, some hi, some none => (match P.underlying t with | some .string => strSl b lo hi fun s => K (.string s) w | _ => False)
    | _, _, _, _ => False)
  | .nilCheck x => (match ρ x with | some (.pointer p) => nilchk p fun a => K (.pointer (some a)) w | _ => False)
  | .load t x => (match ρ x with | some (.pointer (some a)) => ldEv P t a w fun v => K v w | _ => False)
  | .store t x y => (match ρ x, ρ y with | some (.pointer (some a)), some v => stEv P t a v w fun w' => K undef w' | _, _ => False)
  | .alloc t => cond (hasZero P t) (nw t (zc P t) w fun a w' => K (.pointer (some a)) w') False
  | .box t x => (match ρ x with | some v => nw t v.cells.toList w fun a w' => K (.pointer (some a)) w' | none => False)
  | .buildSlice t n ps => (match P.underlying t, partsOf ρ ps.toList with
    | some (.slice e), some vs => (match fillL (fun i => some (i * sizeOf P e, sizeOf P e)) (zeroRow n (zc P e)) vs with
      | some cs => cond (Nat.ble (n * sizeOf P e) 16777216 && zeroOk P e) (nw e cs w fun a w' => K (.slice (some a) n n) w') False
      | none => False)
    | _, _ => False)
  | .makeSlice t l c => (match P.underlying t, ρ l, ρ c with
    | some (.slice e), some (.int _ l), some (.int _ c) => cond (zeroOk P e) (mkSl P e l c w fun s w' => K (.slice s.a s.n s.c) w') False
    | _, _, _ => False)
  | .call c => (match valsOf ρ c.args.toList with
    | none => False
    | some vs => match c.callee with
      | .builtin .append => appK P c.argTypes.toList o.type vs w fun s w' => K (.slice s.a s.n s.c) w'
      | .builtin .copy => cpyK P c.argTypes.toList o.type vs w fun n w' => K (.int .i64 n) w'
      | .value g => (match ρ g with | some g => callV P g vs w fun v w' => resEv P o.dst o.type v fun v' => K v' w' | none => False)
      | _ => match tot P ρ o.op with | some v => K v w | none => False)
  | op => match tot P ρ op with | some v => K v w | none => False

/-- what else must be asked where a closure's number comes out of a value: that function has a body -/
def pickEv (c a b : Option Value) (K : Value → Prop) : Prop :=
  match c with
  | some (.bool t) => (match a, b with
    | some (.bool x), some (.bool y) => K (.bool (cond t x y))
    | some v, none => iteP t (K v) False
    | none, some v => iteP t False (K v)
    | some u, some v => iteP t (K u) (K v)
    | none, none => False)
  | _ => False
def pickTot (c a b : Option Value) : Option Value :=
  match c, a, b with
  | some (.bool t), some (.bool x), some (.bool y) => some (.bool (cond t x y))
  | _, _, _ => none
def totOp (P : Program) (s : St) (k : Key) (o : Oper) : Option Value :=
  match o.op with
  | .pick c a b => pickTot (s.val k c) (s.val ((match c with | .tmp t => [(t, true)] | _ => []) ++ k) a) (s.val ((match c with | .tmp t => [(t, false)] | _ => []) ++ k) b)
  | op => tot P (s.val k) op
/-- may it be done ahead of its guard? -/
def early : Op → Bool
  | .move _ | .assign _ | .pick .. | .unOp .. | .makeInterface .. | .makeFunc .. | .build .. | .field .. | .extract .. | .fieldAddr .. => true
  | .binOp op _ _ y _ => (match op, y with | _, .const .nilIface => false | _, .const .nilFunc => false | .quo, .const _ => true | .rem, .const _ => true | .shl, .const _ => true | .shr, .const _ => true | .quo, _ => false | .rem, _ => false | .shl, _ => false | .shr, _ => false | _, _ => true)
  | .call { callee := .builtin .len, .. } | .call { callee := .builtin .cap, .. } | .call { callee := .builtin .min, .. } | .call { callee := .builtin .max, .. } => true
  | _ => false
/-- a chain of guards, the outermost last, is settled -/
def settleAll (s : St) : Key → (St → Bool → Prop) → Prop
  | [], K => K s true
  | (g, want) :: r, K => settleAll s r fun s' on => cond on
      (match s'.val [] (.tmp g) with
       | some (.bool b) => iteP b (K (s'.settle g true) want) (K (s'.settle g false) (!want))
       | _ => False)
      (K s' false)
/-- one operation that is wanted -/
def runEv (P : Program) (m : Mode) (o : Oper) (s : St) (w : World) (K : St → World → Prop) : Prop :=
  match o.op with
  | .pick c a b => pickEv (s.val [] c) (s.val (match c with | .tmp t => [(t, true)] | _ => []) a) (s.val (match c with | .tmp t => [(t, false)] | _ => []) b) fun v => K (s.put o.dst (some v)) w
  | .move x | .assign x => K (s.put o.dst (s.val [] x)) w
  | _ => opEv P m (s.val []) o w fun v w' => K (s.put o.dst (some v)) w'
/-- one operation, whatever its guard says -/
def stepEv (P : Program) (m : Mode) (ops : Array Oper) (o : Oper) (s : St) (w : World) (K : St → World → Prop) : Prop :=
  match o.guard with
  | none => runEv P m o s w K
  | some (j, want) => match ((ops.toList[j]?).bind (·.dst)) with
    | none => False
    | some g => match lookL g s.lt with
      | some b => cond (sameB b want) (runEv P m o s w K) (K (s.put o.dst (some undef)) w)
      | none =>
        cond (early o.op)
          (match totOp P s ((g, want) :: (match lookC g s.cd with | some (k, _) => k | none => [])) o with
            | some v => K (s.putC o.dst ((g, want) :: (match lookC g s.cd with | some (k, _) => k | none => [])) v) w
            | none => settleAll s ((g, want) :: (match lookC g s.cd with | some (k, _) => k | none => [])) fun s' on => cond on (runEv P m o s' w K) (K (s'.put o.dst (some undef)) w))
          (match o.op with
           | .load t x => (match s.val ((g, want) :: (match lookC g s.cd with | some (k, _) => k | none => [])) x with
             | some (.pointer (some a)) => ldEv P t a w fun v => K (s.putC o.dst ((g, want) :: (match lookC g s.cd with | some (k, _) => k | none => [])) v) w
             | _ => False)
           | _ => settleAll s ((g, want) :: (match lookC g s.cd with | some (k, _) => k | none => [])) fun s' on => cond on (runEv P m o s' w K) (K (s'.put o.dst (some undef)) w))

/-! ### a region -/
def evL (P : Program) (m : Mode) (ops : Array Oper) : List Oper → St → World → (Fr → World → Prop) → Prop
  | [], s, w, K => K s.fr w
  | o :: r, s, w, K => stepEv P m ops o s w fun s' w' => evL P m ops r s' w' K
/-- 0: it only computes · 1: it reads cells · 2: it does more -/
def cls (P : Program) : Op → Nat
  | .load .. => 1
  | .store .. | .alloc _ | .box .. | .buildSlice .. | .makeSlice .. => 2
  | .call { callee := .builtin .len, .. } | .call { callee := .builtin .cap, .. } | .call { callee := .builtin .min, .. } | .call { callee := .builtin .max, .. } => 0
  | .call _ => 2
  | .convert s d _ => (match P.underlying s, P.underlying d with
    | some (.int _), some (.int _) => 0
    | some .string, some .string => 0
    | _, _ => 2)
  | .binOp _ t _ _ _ => (match P.underlying t with | some (.struct _) | some (.array _ _) => 2 | _ => 0)
  | .move _ | .assign _ | .pick .. | .unOp .. | .makeInterface .. | .makeFunc .. | .build .. | .field .. | .extract .. | .fieldAddr .. | .index .. | .indexAddr .. | .slice .. | .nilCheck _ => 0
  | _ => 2
def after (o : Oper) : List Nat := o.after.toList.filterMap fun e => cond (Region.binds .any e) (some e.on) none
def hasN (x : Nat) : List Nat → Bool
  | [] => false
  | y :: r => cond (Nat.beq x y) true (hasN x r)
def lists : List Oper → List (List Nat)
  | [] => []
  | o :: r => after o :: lists r
def slotsOf (ops : List Oper) (o : Oper) : List Nat :=
  (o.op.operands.toList.filterMap fun | .tmp t => some t | _ => none) ++ (match o.guard with | some (g, _) => ((ops[g]?).bind (·.dst)).toList | none => [])
def apartB (ops : List Oper) (x y : Oper) : Bool :=
  (match x.dst with | some d => cond (hasN d (slotsOf ops y)) false (match y.dst with | some e => !(Nat.beq d e) | none => true) | none => true) &&
  (match y.dst with | some d => !(hasN d (slotsOf ops x)) | none => true)
def apartRow (ops : List Oper) (i : Nat) (o : Oper) : Nat → List Oper → Bool
  | _, [] => true
  | j, x :: r => cond (Nat.beq i j || hasN i (after x) || hasN j (after o) || apartB ops o x) (apartRow ops i o (j + 1) r) false
def apartAll (ops : List Oper) : Nat → List Oper → Bool
  | _, [] => true
  | i, o :: r => cond (apartRow ops i o 0 ops) (apartAll ops (i + 1) r) false
def noSel : List Oper → Bool
  | [] => true
  | o :: r => match o.op with | .select .. => false | _ => noSel r
/-- what stands ahead of each operation, as bits -/
def maskOf (acc : List Nat) : List Nat → Nat
  | [] => 0
  | j :: r => Nat.lor (Nat.lor (2 ^ j) (acc.getD j 0)) (maskOf acc r)
def masks : List Oper → List Nat → List Nat
  | [], acc => acc
  | o :: r, acc => masks r (acc ++ [maskOf acc (after o)])
def kept (a : Addr) (n : Nat) (w w' : World) : Prop := ∀ j, j < n → w'.cell? (a.add j) = w.cell? (a.add j)
abbrev Rd := List (Nat × Addr × Nat)
def keptAll (mask : Nat) (w w' : World) (A : Prop) : Rd → Prop
  | [] => A
  | (i, a, n) :: r => cond (Nat.testBit mask i) (keptAll mask w w' A r) (kept a n w w' ∧ keptAll mask w w' A r)
/-- all that stands ahead of it is done -/
def freeN (dn : List Nat) : List Nat → Bool
  | [] => true
  | j :: r => cond (hasN j dn) (freeN dn r) false
def todoOf (ops : List Oper) (dn : List Nat) : Nat → List Oper → List (Nat × Oper)
  | _, [] => []
  | i, o :: r => cond (hasN i dn) (todoOf ops dn (i + 1) r) (cond (freeN dn (after o)) ((i, o) :: todoOf ops dn (i + 1) r) (todoOf ops dn (i + 1) r))
def firstQuiet (P : Program) : List (Nat × Oper) → Option (Nat × Oper)
  | [] => none
  | (i, o) :: r => cond (Nat.ble (cls P o.op) 1) (some (i, o)) (firstQuiet P r)
def readsOf (P : Program) (ops : List Oper) (s : St) (i : Nat) (o : Oper) : Rd :=
  match o.op with
  | .load t x => (match s.val (match o.guard with
      | none => []
      | some (j, want) => (match ((ops[j]?).bind (·.dst)) with
        | none => []
        | some g => (match lookL g s.lt with | some _ => [] | none => (g, want) :: (match lookC g s.cd with | some (k, _) => k | none => [])))) x with
    | some (.pointer (some a)) => [(i, a, sizeOf P t)]
    | _ => [])
  | _ => []
def effs (A : Nat × Oper → Prop) : List (Nat × Oper) → Prop
  | [] => True
  | x :: r => match r with | [] => A x | y :: r' => A x ∧ effs A (y :: r')
/-- in whatever order the edges allow: what only computes and what reads goes first; what else is ready is tried in each order -/
def evD (P : Program) (m : Mode) (ops : Array Oper) (mk : List Nat) : Nat → List Nat → Rd → St → World → (Fr → World → Prop) → Prop
  | 0, dn, _, s, w, K => (match todoOf ops.toList dn 0 ops.toList with | [] => K s.fr w | _ :: _ => False)
  | n + 1, dn, C, s, w, K =>
    match todoOf ops.toList dn 0 ops.toList with
    | [] => K s.fr w
    | x :: r => match firstQuiet P (x :: r) with
      | some (i, o) => stepEv P m ops o s w fun s' w' => evD P m ops mk n (i :: dn) (readsOf P ops.toList s i o ++ C) s' w' K
      | none => effs (fun y => stepEv P m ops y.2 s w fun s' w' => keptAll (mk.getD y.1 0) w w' (evD P m ops mk n (y.1 :: dn) C s' w' K) C) (x :: r)
def evR (P : Program) (m : Mode) (ops : Array Oper) (draw : Bool) (fr : Fr) (w : World) (K : Fr → World → Prop) : Prop :=
  cond draw
    (cond (noSel ops.toList && apartAll ops.toList 0 ops.toList) (evD P m ops (masks ops.toList []) ops.toList.length [] [] ⟨fr, [], []⟩ w.drew K) False)
    (evL P m ops ops.toList ⟨fr, [], []⟩ w K)

/-! ### code -/
/-- what is carried on behind a place where ways meet, and round a loop: by the number of the region that comes next -/
abbrev Ann := List (Nat × List (Nat × Sh))
def annOf (k : Option Nat) : Ann → Option (List (Nat × Sh))
  | [] => none
  | (i, l) :: r => match k with | none => none | some k => cond (Nat.beq i k) (some l) (annOf (some k) r)
def keyOf : Code → Option Nat
  | .region id _ _ => some id
  | .seq a b => (match keyOf a with | some k => some k | none => keyOf b)
  | .cond _ a b => (match keyOf a with | some k => some k | none => keyOf b)
  | .block _ a | .loop a | .scope a => keyOf a
  | _ => none
def carry (fr : Fr) : List (Nat × Sh) → Fr
  | [] => []
  | (t, _) :: r => (t, look t fr) :: carry fr r
def allFr : List (Nat × Sh) → (Fr → Prop) → Prop
  | [], F => F []
  | (t, s) :: r, F => allSh s fun v => allFr r fun fr => F ((t, some v) :: fr)
def dsts : List Oper → List Nat
  | [] => []
  | o :: r => match o.dst with | some d => d :: dsts r | none => dsts r
/-- the slots that a code may write -/
def writes : Code → List Nat
  | .region _ ops _ => dsts ops.toList
  | .seq a b | .cond _ a b => writes a ++ writes b
  | .block _ a | .loop a => writes a
  | _ => []
def allIn : List (Nat × Sh) → List Nat → Bool
  | [], _ => true
  | (t, _) :: r, ws => cond (hasN t ws) (allIn r ws) false
/-- what was known of slots that are not written -/
def strip (ws : List Nat) : Fr → Fr
  | [] => []
  | (t, v) :: r => cond (hasN t ws) (strip ws r) ((t, v) :: strip ws r)
/-! the same, over what is carried -/
def join0 (mk : Fr) (rest : World → Prop) (first : (World → Prop) → Prop) : Prop :=
  ∀ K : Fr → World → Prop, (∀ w, rest w → K mk w) → first (fun w => K mk w)
def loop0 (mk : Fr) (body : (World → Prop) → World → Prop) (v : World) : Prop :=
  ∀ X : Fr → World → Prop, (∀ w, body (fun w => X mk w) w → X mk w) → X mk v
def join1 {A1 : Type} (mk : A1 → Fr) (rest : A1 → World → Prop) (first : (A1 → World → Prop) → Prop) : Prop :=
  ∀ K : Fr → World → Prop, (∀ x1 w, rest x1 w → K (mk x1) w) → first (fun x1 w => K (mk x1) w)
def loop1 {A1 : Type} (mk : A1 → Fr) (body : (A1 → World → Prop) → A1 → World → Prop) (y1 : A1) (v : World) : Prop :=
  ∀ X : Fr → World → Prop, (∀ x1 w, body (fun x1 w => X (mk x1) w) x1 w → X (mk x1) w) → X (mk y1) v
def join2 {A1 A2 : Type} (mk : A1 → A2 → Fr) (rest : A1 → A2 → World → Prop) (first : (A1 → A2 → World → Prop) → Prop) : Prop :=
  ∀ K : Fr → World → Prop, (∀ x1 x2 w, rest x1 x2 w → K (mk x1 x2) w) → first (fun x1 x2 w => K (mk x1 x2) w)
def loop2 {A1 A2 : Type} (mk : A1 → A2 → Fr) (body : (A1 → A2 → World → Prop) → A1 → A2 → World → Prop) (y1 : A1) (y2 : A2) (v : World) : Prop :=
  ∀ X : Fr → World → Prop, (∀ x1 x2 w, body (fun x1 x2 w => X (mk x1 x2) w) x1 x2 w → X (mk x1 x2) w) → X (mk y1 y2) v
def join3 {A1 A2 A3 : Type} (mk : A1 → A2 → A3 → Fr) (rest : A1 → A2 → A3 → World → Prop) (first : (A1 → A2 → A3 → World → Prop) → Prop) : Prop :=
  ∀ K : Fr → World → Prop, (∀ x1 x2 x3 w, rest x1 x2 x3 w → K (mk x1 x2 x3) w) → first (fun x1 x2 x3 w => K (mk x1 x2 x3) w)
def loop3 {A1 A2 A3 : Type} (mk : A1 → A2 → A3 → Fr) (body : (A1 → A2 → A3 → World → Prop) → A1 → A2 → A3 → World → Prop) (y1 : A1) (y2 : A2) (y3 : A3) (v : World) : Prop :=
  ∀ X : Fr → World → Prop, (∀ x1 x2 x3 w, body (fun x1 x2 x3 w => X (mk x1 x2 x3) w) x1 x2 x3 w → X (mk x1 x2 x3) w) → X (mk y1 y2 y3) v
def join4 {A1 A2 A3 A4 : Type} (mk : A1 → A2 → A3 → A4 → Fr) (rest : A1 → A2 → A3 → A4 → World → Prop) (first : (A1 → A2 → A3 → A4 → World → Prop) → Prop) : Prop :=
  ∀ K : Fr → World → Prop, (∀ x1 x2 x3 x4 w, rest x1 x2 x3 x4 w → K (mk x1 x2 x3 x4) w) → first (fun x1 x2 x3 x4 w => K (mk x1 x2 x3 x4) w)
def loop4 {A1 A2 A3 A4 : Type} (mk : A1 → A2 → A3 → A4 → Fr) (body : (A1 → A2 → A3 → A4 → World → Prop) → A1 → A2 → A3 → A4 → World → Prop) (y1 : A1) (y2 : A2) (y3 : A3) (y4 : A4) (v : World) : Prop :=
  ∀ X : Fr → World → Prop, (∀ x1 x2 x3 x4 w, body (fun x1 x2 x3 x4 w => X (mk x1 x2 x3 x4) w) x1 x2 x3 x4 w → X (mk x1 x2 x3 x4) w) → X (mk y1 y2 y3 y4) v
def join5 {A1 A2 A3 A4 A5 : Type} (mk : A1 → A2 → A3 → A4 → A5 → Fr) (rest : A1 → A2 → A3 → A4 → A5 → World → Prop) (first : (A1 → A2 → A3 → A4 → A5 → World → Prop) → Prop) : Prop :=
  ∀ K : Fr → World → Prop, (∀ x1 x2 x3 x4 x5 w, rest x1 x2 x3 x4 x5 w → K (mk x1 x2 x3 x4 x5) w) → first (fun x1 x2 x3 x4 x5 w => K (mk x1 x2 x3 x4 x5) w)
def loop5 {A1 A2 A3 A4 A5 : Type} (mk : A1 → A2 → A3 → A4 → A5 → Fr) (body : (A1 → A2 → A3 → A4 → A5 → World → Prop) → A1 → A2 → A3 → A4 → A5 → World → Prop) (y1 : A1) (y2 : A2) (y3 : A3) (y4 : A4) (y5 : A5) (v : World) : Prop :=
  ∀ X : Fr → World → Prop, (∀ x1 x2 x3 x4 x5 w, body (fun x1 x2 x3 x4 x5 w => X (mk x1 x2 x3 x4 x5) w) x1 x2 x3 x4 x5 w → X (mk x1 x2 x3 x4 x5) w) → X (mk y1 y2 y3 y4 y5) v
def join6 {A1 A2 A3 A4 A5 A6 : Type} (mk : A1 → A2 → A3 → A4 → A5 → A6 → Fr) (rest : A1 → A2 → A3 → A4 → A5 → A6 → World → Prop) (first : (A1 → A2 → A3 → A4 → A5 → A6 → World → Prop) → Prop) : Prop :=
  ∀ K : Fr → World → Prop, (∀ x1 x2 x3 x4 x5 x6 w, rest x1 x2 x3 x4 x5 x6 w → K (mk x1 x2 x3 x4 x5 x6) w) → first (fun x1 x2 x3 x4 x5 x6 w => K (mk x1 x2 x3 x4 x5 x6) w)
def loop6 {A1 A2 A3 A4 A5 A6 : Type} (mk : A1 → A2 → A3 → A4 → A5 → A6 → Fr) (body : (A1 → A2 → A3 → A4 → A5 → A6 → World → Prop) → A1 → A2 → A3 → A4 → A5 → A6 → World → Prop) (y1 : A1) (y2 : A2) (y3 : A3) (y4 : A4) (y5 : A5) (y6 : A6) (v : World) : Prop :=
  ∀ X : Fr → World → Prop, (∀ x1 x2 x3 x4 x5 x6 w, body (fun x1 x2 x3 x4 x5 x6 w => X (mk x1 x2 x3 x4 x5 x6) w) x1 x2 x3 x4 x5 x6 w → X (mk x1 x2 x3 x4 x5 x6) w) → X (mk y1 y2 y3 y4 y5 y6) v
def join7 {A1 A2 A3 A4 A5 A6 A7 : Type} (mk : A1 → A2 → A3 → A4 → A5 → A6 → A7 → Fr) (rest : A1 → A2 → A3 → A4 → A5 → A6 → A7 → World → Prop) (first : (A1 → A2 → A3 → A4 → A5 → A6 → A7 → World → Prop) → Prop) : Prop :=
  ∀ K : Fr → World → Prop, (∀ x1 x2 x3 x4 x5 x6 x7 w, rest x1 x2 x3 x4 x5 x6 x7 w → K (mk x1 x2 x3 x4 x5 x6 x7) w) → first (fun x1 x2 x3 x4 x5 x6 x7 w => K (mk x1 x2 x3 x4 x5 x6 x7) w)
def loop7 {A1 A2 A3 A4 A5 A6 A7 : Type} (mk : A1 → A2 → A3 → A4 → A5 → A6 → A7 → Fr) (body : (A1 → A2 → A3 → A4 → A5 → A6 → A7 → World → Prop) → A1 → A2 → A3 → A4 → A5 → A6 → A7 → World → Prop) (y1 : A1) (y2 : A2) (y3 : A3) (y4 : A4) (y5 : A5) (y6 : A6) (y7 : A7) (v : World) : Prop :=
  ∀ X : Fr → World → Prop, (∀ x1 x2 x3 x4 x5 x6 x7 w, body (fun x1 x2 x3 x4 x5 x6 x7 w => X (mk x1 x2 x3 x4 x5 x6 x7) w) x1 x2 x3 x4 x5 x6 x7 w → X (mk x1 x2 x3 x4 x5 x6 x7) w) → X (mk y1 y2 y3 y4 y5 y6 y7) v
def join8 {A1 A2 A3 A4 A5 A6 A7 A8 : Type} (mk : A1 → A2 → A3 → A4 → A5 → A6 → A7 → A8 → Fr) (rest : A1 → A2 → A3 → A4 → A5 → A6 → A7 → A8 → World → Prop) (first : (A1 → A2 → A3 → A4 → A5 → A6 → A7 → A8 → World → Prop) → Prop) : Prop :=
  ∀ K : Fr → World → Prop, (∀ x1 x2 x3 x4 x5 x6 x7 x8 w, rest x1 x2 x3 x4 x5 x6 x7 x8 w → K (mk x1 x2 x3 x4 x5 x6 x7 x8) w) → first (fun x1 x2 x3 x4 x5 x6 x7 x8 w => K (mk x1 x2 x3 x4 x5 x6 x7 x8) w)
def loop8 {A1 A2 A3 A4 A5 A6 A7 A8 : Type} (mk : A1 → A2 → A3 → A4 → A5 → A6 → A7 → A8 → Fr) (body : (A1 → A2 → A3 → A4 → A5 → A6 → A7 → A8 → World → Prop) → A1 → A2 → A3 → A4 → A5 → A6 → A7 → A8 → World → Prop) (y1 : A1) (y2 : A2) (y3 : A3) (y4 : A4) (y5 : A5) (y6 : A6) (y7 : A7) (y8 : A8) (v : World) : Prop :=
  ∀ X : Fr → World → Prop, (∀ x1 x2 x3 x4 x5 x6 x7 x8 w, body (fun x1 x2 x3 x4 x5 x6 x7 x8 w => X (mk x1 x2 x3 x4 x5 x6 x7 x8) w) x1 x2 x3 x4 x5 x6 x7 x8 w → X (mk x1 x2 x3 x4 x5 x6 x7 x8) w) → X (mk y1 y2 y3 y4 y5 y6 y7 y8) v
def join9 {A1 A2 A3 A4 A5 A6 A7 A8 A9 : Type} (mk : A1 → A2 → A3 → A4 → A5 → A6 → A7 → A8 → A9 → Fr) (rest : A1 → A2 → A3 → A4 → A5 → A6 → A7 → A8 → A9 → World → Prop) (first : (A1 → A2 → A3 → A4 → A5 → A6 → A7 → A8 → A9 → World → Prop) → Prop) : Prop :=
  ∀ K : Fr → World → Prop, (∀ x1 x2 x3 x4 x5 x6 x7 x8 x9 w, rest x1 x2 x3 x4 x5 x6 x7 x8 x9 w → K (mk x1 x2 x3 x4 x5 x6 x7 x8 x9) w) → first (fun x1 x2 x3 x4 x5 x6 x7 x8 x9 w => K (mk x1 x2 x3 x4 x5 x6 x7 x8 x9) w)
def loop9 {A1 A2 A3 A4 A5 A6 A7 A8 A9 : Type} (mk : A1 → A2 → A3 → A4 → A5 → A6 → A7 → A8 → A9 → Fr) (body : (A1 → A2 → A3 → A4 → A5 → A6 → A7 → A8 → A9 → World → Prop) → A1 → A2 → A3 → A4 → A5 → A6 → A7 → A8 → A9 → World → Prop) (y1 : A1) (y2 : A2) (y3 : A3) (y4 : A4) (y5 : A5) (y6 : A6) (y7 : A7) (y8 : A8) (y9 : A9) (v : World) : Prop :=
  ∀ X : Fr → World → Prop, (∀ x1 x2 x3 x4 x5 x6 x7 x8 x9 w, body (fun x1 x2 x3 x4 x5 x6 x7 x8 x9 w => X (mk x1 x2 x3 x4 x5 x6 x7 x8 x9) w) x1 x2 x3 x4 x5 x6 x7 x8 x9 w → X (mk x1 x2 x3 x4 x5 x6 x7 x8 x9) w) → X (mk y1 y2 y3 y4 y5 y6 y7 y8 y9) v
def join10 {A1 A2 A3 A4 A5 A6 A7 A8 A9 A10 : Type} (mk : A1 → A2 → A3 → A4 → A5 → A6 → A7 → A8 → A9 → A10 → Fr) (rest : A1 → A2 → A3 → A4 → A5 → A6 → A7 → A8 → A9 → A10 → World → Prop) (first : (A1 → A2 → A3 → A4 → A5 → A6 → A7 → A8 → A9 → A10 → World → Prop) → Prop) : Prop :=
  ∀ K : Fr → World → Prop, (∀ x1 x2 x3 x4 x5 x6 x7 x8 x9 x10 w, rest x1 x2 x3 x4 x5 x6 x7 x8 x9 x10 w → K (mk x1 x2 x3 x4 x5 x6 x7 x8 x9 x10) w) → first (fun x1 x2 x3 x4 x5 x6 x7 x8 x9 x10 w => K (mk x1 x2 x3 x4 x5 x6 x7 x8 x9 x10) w)
def loop10 {A1 A2 A3 A4 A5 A6 A7 A8 A9 A10 : Type} (mk : A1 → A2 → A3 → A4 → A5 → A6 → A7 → A8 → A9 → A10 → Fr) (body : (A1 → A2 → A3 → A4 → A5 → A6 → A7 → A8 → A9 → A10 → World → Prop) → A1 → A2 → A3 → A4 → A5 → A6 → A7 → A8 → A9 → A10 → World → Prop) (y1 : A1) (y2 : A2) (y3 : A3) (y4 : A4) (y5 : A5) (y6 : A6) (y7 : A7) (y8 : A8) (y9 : A9) (y10 : A10) (v : World) : Prop :=
  ∀ X : Fr → World → Prop, (∀ x1 x2 x3 x4 x5 x6 x7 x8 x9 x10 w, body (fun x1 x2 x3 x4 x5 x6 x7 x8 x9 x10 w => X (mk x1 x2 x3 x4 x5 x6 x7 x8 x9 x10) w) x1 x2 x3 x4 x5 x6 x7 x8 x9 x10 w → X (mk x1 x2 x3 x4 x5 x6 x7 x8 x9 x10) w) → X (mk y1 y2 y3 y4 y5 y6 y7 y8 y9 y10) v
def join11 {A1 A2 A3 A4 A5 A6 A7 A8 A9 A10 A11 : Type} (mk : A1 → A2 → A3 → A4 → A5 → A6 → A7 → A8 → A9 → A10 → A11 → Fr) (rest : A1 → A2 → A3 → A4 → A5 → A6 → A7 → A8 → A9 → A10 → A11 → World → Prop) (first : (A1 → A2 → A3 → A4 → A5 → A6 → A7 → A8 → A9 → A10 → A11 → World → Prop) → Prop) : Prop :=
  ∀ K : Fr → World → Prop, (∀ x1 x2 x3 x4 x5 x6 x7 x8 x9 x10 x11 w, rest x1 x2 x3 x4 x5 x6 x7 x8 x9 x10 x11 w → K (mk x1 x2 x3 x4 x5 x6 x7 x8 x9 x10 x11) w) → first (fun x1 x2 x3 x4 x5 x6 x7 x8 x9 x10 x11 w => K (mk x1 x2 x3 x4 x5 x6 x7 x8 x9 x10 x11) w)
def loop11 {A1 A2 A3 A4 A5 A6 A7 A8 A9 A10 A11 : Type} (mk : A1 → A2 → A3 → A4 → A5 → A6 → A7 → A8 → A9 → A10 → A11 → Fr) (body : (A1 → A2 → A3 → A4 → A5 → A6 → A7 → A8 → A9 → A10 → A11 → World → Prop) → A1 → A2 → A3 → A4 → A5 → A6 → A7 → A8 → A9 → A10 → A11 → World → Prop) (y1 : A1) (y2 : A2) (y3 : A3) (y4 : A4) (y5 : A5) (y6 : A6) (y7 : A7) (y8 : A8) (y9 : A9) (y10 : A10) (y11 : A11) (v : World) : Prop :=
  ∀ X : Fr → World → Prop, (∀ x1 x2 x3 x4 x5 x6 x7 x8 x9 x10 x11 w, body (fun x1 x2 x3 x4 x5 x6 x7 x8 x9 x10 x11 w => X (mk x1 x2 x3 x4 x5 x6 x7 x8 x9 x10 x11) w) x1 x2 x3 x4 x5 x6 x7 x8 x9 x10 x11 w → X (mk x1 x2 x3 x4 x5 x6 x7 x8 x9 x10 x11) w) → X (mk y1 y2 y3 y4 y5 y6 y7 y8 y9 y10 y11) v
def join12 {A1 A2 A3 A4 A5 A6 A7 A8 A9 A10 A11 A12 : Type} (mk : A1 → A2 → A3 → A4 → A5 → A6 → A7 → A8 → A9 → A10 → A11 → A12 → Fr) (rest : A1 → A2 → A3 → A4 → A5 → A6 → A7 → A8 → A9 → A10 → A11 → A12 → World → Prop) (first : (A1 → A2 → A3 → A4 → A5 → A6 → A7 → A8 → A9 → A10 → A11 → A12 → World → Prop) → Prop) : Prop :=
  ∀ K : Fr → World → Prop, (∀ x1 x2 x3 x4 x5 x6 x7 x8 x9 x10 x11 x12 w, rest x1 x2 x3 x4 x5 x6 x7 x8 x9 x10 x11 x12 w → K (mk x1 x2 x3 x4 x5 x6 x7 x8 x9 x10 x11 x12) w) → first (fun x1 x2 x3 x4 x5 x6 x7 x8 x9 x10 x11 x12 w => K (mk x1 x2 x3 x4 x5 x6 x7 x8 x9 x10 x11 x12) w)
def loop12 {A1 A2 A3 A4 A5 A6 A7 A8 A9 A10 A11 A12 : Type} (mk : A1 → A2 → A3 → A4 → A5 → A6 → A7 → A8 → A9 → A10 → A11 → A12 → Fr) (body : (A1 → A2 → A3 → A4 → A5 → A6 → A7 → A8 → A9 → A10 → A11 → A12 → World → Prop) → A1 → A2 → A3 → A4 → A5 → A6 → A7 → A8 → A9 → A10 → A11 → A12 → World → Prop) (y1 : A1) (y2 : A2) (y3 : A3) (y4 : A4) (y5 : A5) (y6 : A6) (y7 : A7) (y8 : A8) (y9 : A9) (y10 : A10) (y11 : A11) (y12 : A12) (v : World) : Prop :=
  ∀ X : Fr → World → Prop, (∀ x1 x2 x3 x4 x5 x6 x7 x8 x9 x10 x11 x12 w, body (fun x1 x2 x3 x4 x5 x6 x7 x8 x9 x10 x11 x12 w => X (mk x1 x2 x3 x4 x5 x6 x7 x8 x9 x10 x11 x12) w) x1 x2 x3 x4 x5 x6 x7 x8 x9 x10 x11 x12 w → X (mk x1 x2 x3 x4 x5 x6 x7 x8 x9 x10 x11 x12) w) → X (mk y1 y2 y3 y4 y5 y6 y7 y8 y9 y10 y11 y12) v
def join13 {A1 A2 A3 A4 A5 A6 A7 A8 A9 A10 A11 A12 A13 : Type} (mk : A1 → A2 → A3 → A4 → A5 → A6 → A7 → A8 → A9 → A10 → A11 → A12 → A13 → Fr) (rest : A1 → A2 → A3 → A4 → A5 → A6 → A7 → A8 → A9 → A10 → A11 → A12 → A13 → World → Prop) (first : (A1 → A2 → A3 → A4 → A5 → A6 → A7 → A8 → A9 → A10 → A11 → A12 → A13 → World → Prop) → Prop) : Prop :=
  ∀ K : Fr → World → Prop, (∀ x1 x2 x3 x4 x5 x6 x7 x8 x9 x10 x11 x12 x13 w, rest x1 x2 x3 x4 x5 x6 x7 x8 x9 x10 x11 x12 x13 w → K (mk x1 x2 x3 x4 x5 x6 x7 x8 x9 x10 x11 x12 x13) w) → first (fun x1 x2 x3 x4 x5 x6 x7 x8 x9 x10 x11 x12 x13 w => K (mk x1 x2 x3 x4 x5 x6 x7 x8 x9 x10 x11 x12 x13) w)
def loop13 {A1 A2 A3 A4 A5 A6 A7 A8 A9 A10 A11 A12 A13 : Type} (mk : A1 → A2 → A3 → A4 → A5 → A6 → A7 → A8 → A9 → A10 → A11 → A12 → A13 → Fr) (body : (A1 → A2 → A3 → A4 → A5 → A6 → A7 → A8 → A9 → A10 → A11 → A12 → A13 → World → Prop) → A1 → A2 → A3 → A4 → A5 → A6 → A7 → A8 → A9 → A10 → A11 → A12 → A13 → World → Prop) (y1 : A1) (y2 : A2) (y3 : A3) (y4 : A4) (y5 : A5) (y6 : A6) (y7 : A7) (y8 : A8) (y9 : A9) (y10 : A10) (y11 : A11) (y12 : A12) (y13 : A13) (v : World) : Prop :=
  ∀ X : Fr → World → Prop, (∀ x1 x2 x3 x4 x5 x6 x7 x8 x9 x10 x11 x12 x13 w, body (fun x1 x2 x3 x4 x5 x6 x7 x8 x9 x10 x11 x12 x13 w => X (mk x1 x2 x3 x4 x5 x6 x7 x8 x9 x10 x11 x12 x13) w) x1 x2 x3 x4 x5 x6 x7 x8 x9 x10 x11 x12 x13 w → X (mk x1 x2 x3 x4 x5 x6 x7 x8 x9 x10 x11 x12 x13) w) → X (mk y1 y2 y3 y4 y5 y6 y7 y8 y9 y10 y11 y12 y13) v
def join14 {A1 A2 A3 A4 A5 A6 A7 A8 A9 A10 A11 A12 A13 A14 : Type} (mk : A1 → A2 → A3 → A4 → A5 → A6 → A7 → A8 → A9 → A10 → A11 → A12 → A13 → A14 → Fr) (rest : A1 → A2 → A3 → A4 → A5 → A6 → A7 → A8 → A9 → A10 → A11 → A12 → A13 → A14 → World → Prop) (first : (A1 → A2 → A3 → A4 → A5 → A6 → A7 → A8 → A9 → A10 → A11 → A12 → A13 → A14 → World → Prop) → Prop) : Prop :=
  ∀ K : Fr → World → Prop, (∀ x1 x2 x3 x4 x5 x6 x7 x8 x9 x10 x11 x12 x13 x14 w, rest x1 x2 x3 x4 x5 x6 x7 x8 x9 x10 x11 x12 x13 x14 w → K (mk x1 x2 x3 x4 x5 x6 x7 x8 x9 x10 x11 x12 x13 x14) w) → first (fun x1 x2 x3 x4 x5 x6 x7 x8 x9 x10 x11 x12 x13 x14 w => K (mk x1 x2 x3 x4 x5 x6 x7 x8 x9 x10 x11 x12 x13 x14) w)
def loop14 {A1 A2 A3 A4 A5 A6 A7 A8 A9 A10 A11 A12 A13 A14 : Type} (mk : A1 → A2 → A3 → A4 → A5 → A6 → A7 → A8 → A9 → A10 → A11 → A12 → A13 → A14 → Fr) (body : (A1 → A2 → A3 → A4 → A5 → A6 → A7 → A8 → A9 → A10 → A11 → A12 → A13 → A14 → World → Prop) → A1 → A2 → A3 → A4 → A5 → A6 → A7 → A8 → A9 → A10 → A11 → A12 → A13 → A14 → World → Prop) (y1 : A1) (y2 : A2) (y3 : A3) (y4 : A4) (y5 : A5) (y6 : A6) (y7 : A7) (y8 : A8) (y9 : A9) (y10 : A10) (y11 : A11) (y12 : A12) (y13 : A13) (y14 : A14) (v : World) : Prop :=
  ∀ X : Fr → World → Prop, (∀ x1 x2 x3 x4 x5 x6 x7 x8 x9 x10 x11 x12 x13 x14 w, body (fun x1 x2 x3 x4 x5 x6 x7 x8 x9 x10 x11 x12 x13 x14 w => X (mk x1 x2 x3 x4 x5 x6 x7 x8 x9 x10 x11 x12 x13 x14) w) x1 x2 x3 x4 x5 x6 x7 x8 x9 x10 x11 x12 x13 x14 w → X (mk x1 x2 x3 x4 x5 x6 x7 x8 x9 x10 x11 x12 x13 x14) w) → X (mk y1 y2 y3 y4 y5 y6 y7 y8 y9 y10 y11 y12 y13 y14) v
abbrev Cont := Exit → Fr → World → Prop
def isExit (id : Nat) : Exit → Bool
  | .exit i => Nat.beq i id
  | _ => false
def thenC (K : Fr → World → Prop) (Q : Cont) : Cont := fun e fr w => match e with | .normal => K fr w | e => Q e fr w
def inBlockC (id : Nat) (Q : Cont) : Cont := fun e fr w => match e with | .exit i => cond (Nat.beq i id) (Q .normal fr w) (Q (.exit i) fr w) | e => Q e fr w
def evC (P : Program) (m : Mode) (J L : Ann) : Code → Fr → World → Cont → Prop
  | .skip, fr, w, Q => Q .normal fr w
  | .region _ ops draw, fr, w, Q => evR P m ops draw fr w fun fr' w' => Q .normal fr' w'
  | .seq a b, fr, w, Q => (match annOf (keyOf b) J with
    | none => evC P m J L a fr w (thenC (fun fr' w' => evC P m J L b fr' w' Q) Q)
    | some ls => cond (allIn ls (writes a)) (∀ K : Fr → World → Prop, (allFr ls fun fr' => ∀ w', evC P m J L b (fr' ++ strip (writes a) fr) w' Q → K fr' w') → evC P m J L a fr w (thenC (fun fr' w' => K (carry fr' ls) w') Q)) False)
  | .cond c a b, fr, w, Q => (match (⟨fr, [], []⟩ : St).val [] c with
    | some (.bool t) => iteP t (evC P m J L a fr w Q) (evC P m J L b fr w Q)
    | _ => False)
  | .block id a, fr, w, Q => evC P m J L a fr w (inBlockC id Q)
  | .loop a, fr, w, Q => (match annOf (keyOf a) L with
    | none => False
    | some ls => cond (allIn ls (writes a)) (∀ X : Fr → World → Prop, (allFr ls fun fr' => ∀ w', evC P m J L a (fr' ++ strip (writes a) fr) w' (thenC (fun fr'' w'' => X (carry fr'' ls) w'') Q) → X fr' w') → X (carry fr ls) w) False)
  | .exit id, fr, w, Q => Q (.exit id) fr w
  | .ret, fr, w, Q => Q .ret fr w
  | _, _, _, _ => False
def resAll (P : Program) (fr : Fr) (w : World) : List ResultVar → (List Value → Prop) → Prop
  | [], K => K []
  | .tmp t :: r, K => (match look t fr with | some v => resAll P fr w r fun vs => K (v :: vs) | none => False)
  | .cell t ty :: r, K => (match look t fr with | some (.pointer (some a)) => ldEv P ty a w fun v => resAll P fr w r fun vs => K (v :: vs) | _ => False)
def resOne (R : Value → World → Prop) (w : World) : List Value → Prop
  | [v] => R v w
  | vs => R (.tuple ⟨vs⟩) w
def bodyC (P : Program) (fn : Func) (R : Value → World → Prop) : Cont := fun e fr w => match e with
  | .normal | .ret => resAll P fr w fn.results.toList (resOne R w)
  | _ => False
def frOf : Nat → List Value → Fr
  | _, [] => []
  | i, v :: r => (i, some v) :: frOf (i + 1) r
def allLt (n : Nat) : List Nat → Bool
  | [] => true
  | t :: r => cond (Nat.blt t n) (allLt n r) false
@[irreducible] def evF (P : Program) (m : Mode) (J L : Ann) (fn : Func) (args : List Value) (w : World) (R : Value → World → Prop) : Prop :=
  match fn.body with
  | some c => cond (allLt fn.ntmps (writes c)) (evC P m J L c (frOf 0 args) w (bodyC P fn R)) False
  | none => False
/-- what a call of f comes to -/
def Ok (P : Program) (f : FuncId) (args : List Value) (w : World) (R : Value → World → Prop) : Prop := callK P f args w R
end Go.Ev
