/- Texts of this claim, packed and shortened. -/
import Derived.Test.YtgjoehgomjgckaaGreatDoorQ1
namespace Go.Ev.Tx
open Go Go.Ev
abbrev X:=Value
structure Md extends Mode where
 N:List Nat
def x(t:Nat)(l:List X):X:=.func (.func t) ⟨[]⟩ ⟨l⟩
def nn(n:Nat):X:=.chan (some n)
def nz(n:Nat):X:=.map (some n)
def x1(g t:Nat)(l:List X)(b:X):X:=.func (.func t) ⟨[nn g,b]⟩ ⟨l⟩
def x2(t:Nat)(l:List X)(a b:X):X:=.func (.func t) ⟨[a,b,nn 0]⟩ ⟨l⟩
def kk(k:IntKind):X:=.int k 0
inductive SV where
 |int (k:IntKind) (e:X)|bool (e:X)|str (e:X)|ptr (e:X)|eX (e:X)|sl (e:X)|rX (p:X) (n c:Nat)|arr (e:X)
 |cells (l:List SV)|oU (l:List SV)|val (e:X)|nilIface|nilFunc|iface (t:Nat) (v:SV)|fn (f:Nat) (a c:List SV)|map (e:X)|undef
def AK:Nat->Value->SV
 |_,.bool b=>.bool (.bool b)
 |_,.int k z=>.int k (.int k z)
 |_,.string b=>.str (.string b)
 |_,.pointer none=>.ptr (x 1 [])
 |_,.pointer a=>.eX (.pointer a)
 |_,.slice none n c=>.rX (x 1 []) n c
 |_,.nilIface=>.nilIface
 |_,.nilFunc=>.nilFunc
 |_,.map none=>.map (x 1 [])
 |n+1,.agg cs=>.cells (cs.toList.map (AK n))
 |n+1,.tuple cs=>.oU (cs.toList.map (AK n))
 |n+1,.iface t v=>.iface t (AK n v)
 |n+1,.func (.func f) a c=>.fn f (a.toList.map (AK n)) (c.toList.map (AK n))
 |_,_=>.undef
def pv:Nat->SV->X
 |_,.int k e=>x 1 [kk k,e]
 |_,.bool e=>x 2 [e]
 |_,.str e=>x 3 [e]
 |_,.ptr e=>x 4 [e]
 |_,.eX e=>x 5 [e]
 |_,.sl e=>x 6 [e]
 |_,.rX p n c=>x 7 [p,nn n,nn c]
 |_,.arr e=>x 8 [e]
 |n+1,.cells l=>x 8 [.agg ⟨l.map (pv n)⟩]
 |n+1,.oU l=>x 9 [.agg ⟨l.map (pv n)⟩]
 |_,.val e=>e
 |_,.nilIface=>x 10 []
 |_,.nilFunc=>x 11 []
 |n+1,.iface t v=>x 12 [nn t,pv n v]
 |n+1,.fn f a c=>x 13 [nn f,.agg ⟨a.map (pv n)⟩,.agg ⟨c.map (pv n)⟩]
 |_,.map e=>x 14 [e]
 |_,_=>x 15 []
abbrev p:=pv 9
def pl(l:List SV):X:=.agg ⟨l.map p⟩
def Wx:SV->X
 |.sl e=>e
 |.rX q n c=>x 1 [q,nn n,nn c]
 |_=>x 0 []
def Nz:SV->X
 |.sl e=>x 3 [e]
 |.rX q _ _=>q
 |_=>x 0 []
def Wy:SV->X
 |.sl e=>x 16 [e]
 |.rX _ n _=>x 18 [nn n]
 |_=>x 0 []
def slc:SV->X
 |.sl e=>x 17 [e]
 |.rX _ _ c=>x 18 [nn c]
 |_=>x 0 []
def Vw:Nat->SV->List X
 |n+1,.cells l=>(l.map (Vw n)).flatten
 |_,.int _ e=>[e]
 |_,.bool e=>[e]
 |_,.str e=>[e]
 |_,.ptr e=>[e]
 |_,.eX e=>[e]
 |_,.sl e=>[e]
 |_,.rX q n c=>[x 1 [q,nn n,nn c]]
 |_,.arr e=>[e]
 |_,v=>[p v]
def Mu:Nat->Sh->SV->List X
 |n+1,.cells l,.cells vs=>(List.zipWith (Mu n) l vs).flatten
 |_,.ptr,.eX e=>[x 2 [e]]
 |_,.arr,.cells vs=>[pl vs]
 |_,.val,v=>[p v]
 |_,_,v=>Vw 9 v
abbrev T:=List Nat->X
def bad:T:=λ_=>x 0 []
def fC(K:Nat->T):T:=λs=>match s with|n::r=>K n r | []=>x 0 []
def gq(K:Nat->Nat->T):T:=fC λa=>fC λb=>K a b
def CY:List Sh->(List Nat->T)->T
 |[],K=>K []
 |_::r,K=>fC λn=>CY r λl=>K (n::l)
def var:Nat->Sh->Nat->SV
 |_,.int k,n=>.int k (nn n)
 |_,.bool,n=>.bool (nn n)
 |_,.str,n=>.str (nn n)
 |_,.ptr,n=>.ptr (nn n)
 |_,.eX,n=>.eX (nn n)
 |_,.sl,n=>.sl (nn n)
 |_,.arr,n=>.arr (nn n)
 |_,_,n=>.val (nn n)
def fl1:Sh->List Sh
 |.cells l=>l | .int k=>[.int k] | .bool=>[.bool] | .str=>[.str] | .ptr=>[.ptr] | .eX=>[.eX] | .sl=>[.sl] | .arr=>[.arr] | .val=>[.val] | .oU _=>[.val]
def flat:List Sh->List Sh
 |[]=>[]
 |s::r=>fl1 s++flat r
def IZ:List (Nat × Sh)->List Nat->List (Nat × Option SV)
 |[],_=>[]
 |(t,.cells l)::r,ns=>(t,some (.cells (List.zipWith (var 9) l ns)))::IZ r (ns.drop l.length)
 |(t,s)::r,n::ns=>(t,some (var 9 s n))::IZ r ns
 |_,[]=>[]
def NA:Sh->X
 |.int k=>x 1 [kk k] | .bool=>x 2 [] | .str=>x 3 [] | .ptr=>x 4 [] | .eX=>x 5 [] | .sl=>x 6 [] | .arr=>x 7 []|_=>x 8 []
def Wz:Sh->X
 |.cells l=>x 9 [.agg ⟨l.map NA⟩]
 |s=>x 10 [NA s]
def NB(l:List Sh):X:=.agg ⟨l.map NA⟩
def WA(l:List (Nat × Sh)):X:=.agg ⟨l.map λ(t,s)=>x 0 [nn t,Wz s]⟩
def Fb(l:List Nat):X:=.agg ⟨l.map nn⟩
abbrev Fr:=List (Nat × Option SV)
structure St where
 fr:Fr
 cd:List (Nat × Key × SV)
 lt:List (Nat × Bool)
def look(t:Nat):Fr->Option SV
 |[]=>none
 |(s,v)::r=>cond (Nat.beq s t) v (look t r)
def cS(t:Nat):List (Nat × Key × SV)->Option (Key × SV)
 |[]=>none
 |(s,e)::r=>cond (Nat.beq s t) (some e) (cS t r)
def St.val(s:St)(K:Key):Operand->Option SV
 |.tmp t=>match cS t s.cd with
  |some (k,v)=>cond (within k K) (some v) none
  |none=>look t s.fr
 |.const v=>some (AK 9 v)
 |.global g=>some (.eX (.pointer (some ⟨g,0,none⟩)))
 |.func f=>some (.fn f [] [])
def nB(d:Nat):List (Nat × Key × SV)->List (Nat × Key × SV)
 |[]=>[]
 |(s,k,v)::r=>cond (Nat.beq s d||lD d k) (nB d r) ((s,k,v)::nB d r)
def nG(d:Nat)(fr:Fr):List (Nat × Key × SV)->Fr
 |[]=>fr
 |(s,k,_)::r=>cond (lD d k) ((s,none)::nG d fr r) (nG d fr r)
def St.put(s:St)(d:Option Nat)(v:Option SV):St:=match d with
 |none=>s
 |some d=>⟨(d,v)::nG d s.fr s.cd,nB d s.cd,yj d s.lt⟩
def St.kU(s:St)(d:Option Nat)(k:Key)(v:SV):St:=match d with
 |none=>s
 |some d=>cond (lD d k) (s.put (some d) none) ⟨(d,none)::nG d s.fr s.cd,(d,k,v)::nB d s.cd,yj d s.lt⟩
def ke(g:Nat)(b:Bool):List (Nat × Key × SV)->List (Nat × Key × SV)
 |[]=>[]
 |(s,k,v)::r=>cond (gO (g,!b) k) (ke g b r) (cond (gO (g,b) k) (match lC g k with | []=>ke g b r|k'=>(s,k',v)::ke g b r) ((s,k,v)::ke g b r))
def kg(g:Nat)(b:Bool)(fr:Fr):List (Nat × Key × SV)->Fr
 |[]=>fr
 |(s,k,v)::r=>cond (gO (g,!b) k) ((s,some .undef)::kg g b fr r) (cond (gO (g,b) k) (match lC g k with | []=>(s,some v)::kg g b fr r|_=>kg g b fr r) (kg g b fr r))
def qm(g:Nat):List (Nat × Key × SV)->List (Nat × Key × SV)
 |[]=>[]
 |(s,k,v)::r=>cond (Nat.beq s g) (qm g r) ((s,k,v)::qm g r)
def St.settle(s:St)(g:Nat)(b:Bool):St:=⟨(g,some (.bool (.bool b)))::kg g b s.fr s.cd,qm g (ke g b s.cd),(g,b)::s.lt⟩
def MO:X->X
 |.bool true=>.bool false
 |.bool false=>.bool true
 |e=>x 1 [e]
def cmp(op:BinOp)(a b:X):Option X:=match op with
 |.eql=>some (x 5 [a,b])
 |.neq=>some (x 1 [x 5 [a,b]])
 |.lss=>some (x 6 [a,b])
 |.leq=>some (x 7 [a,b])
 |.gtr=>some (x 6 [b,a])
 |.geq=>some (x 7 [b,a])
 |_=>none
def WB(op:BinOp)(a b:X):X:=match op with
 |.add=>x 1 [a,b] | .sub=>x 2 [a,b]|_=>x 3 [a,b]
def xZ(op:BinOp)(k:IntKind)(a b:X):Option SV:=match op with
 |.add | .sub | .mul=>some (.int k (x 8 [kk k,WB op a b]))
 |.rem=>some (.int k (x 4 [a,b]))
 |.quo=>some (.int k (x 8 [kk k,x 5 [a,b]]))
 |.shl=>some (.int k (x 9 [kk k,a,b]))
 |.shr=>some (.int k (x 10 [kk k,a,b]))
 |.and=>some (.int k (x 11 [kk k,a,b]))
 |.or=>some (.int k (x 12 [kk k,a,b]))
 |.xor=>some (.int k (x 13 [kk k,a,b]))
 |.andNot=>some (.int k (x 14 [kk k,a,b]))
 |op=>(cmp op a b).map .bool
def y6(op:BinOp)(e:X):Option SV:=match op with | .eql=>some (.bool e) | .neq=>some (.bool (MO e))|_=>none
def uu(op:BinOp):SV->SV->Option SV
 |.int k a,.int _ b=>xZ op k a b
 |.bool a,.bool b=>y6 op (x 9 [a,b])
 |.str a,.str b=>y6 op (x 10 [a,b])
 |.sl e,.rX _ _ _=>y6 op (x 8 [x 3 [e]])
 |.rX q _ _,.rX _ _ _=>y6 op (x 8 [q])
 |.ptr (.func (.func 1) _ _),.ptr _=>y6 op (.bool true)
 |.ptr e,.ptr _=>y6 op (x 8 [e])
 |.eX _,.ptr _=>y6 op (.bool false)
 |.map e,.map _=>y6 op (x 11 [e])
 |_,_=>none
def cellsOf:SV->List SV
 |.cells l=>l
 |v=>[v]
def Aa(off:Nat)(xs cells:List SV):List SV:=cells.take off++(xs++cells.drop (off+xs.length))
def fill(place:Nat->Nat)(cells:List SV):List (Nat × SV)->List SV
 |[]=>cells
 |(i,v)::r=>fill place (Aa (place i) (cellsOf v) cells) r
def Vx(fs:List Field)(i:Nat):Nat:=match fs[i]? with|some f=>f.offset|none=>0
def jR(ρ:Operand->Option SV):List Operand->Option (List SV)
 |[]=>some []
 |x::r=>match ρ x with|none=>none|some v=>match jR ρ r with|none=>none|some vs=>some (v::vs)
def partsOf(ρ:Operand->Option SV):List (Nat × Operand)->Option (List (Nat × SV))
 |[]=>some []
 |(i,x)::r=>match ρ x with|none=>none|some v=>match partsOf ρ r with|none=>none|some vs=>some ((i,v)::vs)
def Mv(P:Program)(t:TypeId):List SV:=(zc P t).map (AK 9)
def rep(n:Nat)(l:List SV):List SV:=(List.replicate n l).flatten
def UU(P:Program)(t:TypeId)(ps:List (Nat × SV)):Option SV:=match P.underlying t with
 |some (.struct fs)=>some (.cells (fill (Vx fs.toList) (Mv P t) ps))
 |some (.array _ e)=>some (.cells (fill (λi=>i*sizeOf P e) (Mv P t) ps))
 |_=>none
def L5:List (Nat × SV)->Bool
 |[]=>false
 |(_,.val _)::_=>true
 |_::r=>L5 r
def lenOf(P:Program)(t:TypeId):SV->X
 |.str e=>x 19 [e]
 |v=>match P.underlying t with|some (.array n _)=>x 18 [nn n]|_=>Wy v
def MP(f:X->X->X):SV->List SV->Option SV
 |.int k a,.int _ b::r=>MP f (.int k (f a b)) r
 |v,[]=>some v
 |_,_=>none
def lF(P:Program)(ρ:Operand->Option SV):Op->Option SV
 |.move x | .assign x=>ρ x
 |.binOp op _ x y _=>(match ρ x,ρ y with|some a,some b=>uu op a b|_,_=>none)
 |.unOp op _ a=>(match op,ρ a with
  |.not,some (.bool b)=>some (.bool (MO b))
  |.neg,some (.int k n)=>some (.int k (x 8 [kk k,x 2 [.int k 0,n]]))
  |.xor,some (.int k n)=>some (.int k (x 15 [kk k,n]))
  |_,_=>none)
 |.convert s d a=>(match P.underlying s,P.underlying d,ρ a with
  |some _,some (.int k),some (.int _ n)=>some (.int k (x 8 [kk k,n]))
  |some .string,some .string,some (.str b)=>some (.str b)
  |_,_,_=>none)
 |.makeInterface t a=>(ρ a).map (.iface t)
 |.makeFunc (.func f) a c=>(match jR ρ a.toList,jR ρ c.toList with|some a,some c=>some (.fn f a c)|_,_=>none)
 |.build t ps=>(match partsOf ρ ps.toList with|some vs=>cond (L5 vs) none (UU P t vs)|none=>none)
 |.field t a f=>(match ρ a,P.underlying t with
  |some (.cells cs),some (.struct fs)=>(match fs.toList[f]? with
   |some fd=>cond (sN P fd.type) (some (.cells ((cs.drop fd.offset).take (sizeOf P fd.type)))) (cs[fd.offset]?)
   |none=>none)
  |_,_=>none)
 |.extract a i=>(match ρ a with|some (.oU vs)=>vs[i]? | _=>none)
 |.fieldAddr t a f=>(match ρ a,P.underlying t with
  |some (.eX e),some (.struct fs)=>some (.eX (x 1 [e,nz (Vx fs.toList f)]))
  |_,_=>none)
 |.call { callee:=.builtin .len,args,argTypes }=>(match jR ρ args.toList,argTypes.toList with
  |some [v],[t]=>some (.int .i64 (lenOf P t v))
  |_,_=>none)
 |.call { callee:=.builtin .cap,args,.. }=>(match jR ρ args.toList with|some [v]=>some (.int .i64 (slc v))|_=>none)
 |.call { callee:=.builtin .min,args,.. }=>(match jR ρ args.toList with|some (v::r)=>MP (λa b=>x 21 [a,b]) v r|_=>none)
 |.call { callee:=.builtin .max,args,.. }=>(match jR ρ args.toList with|some (v::r)=>MP (λa b=>x 22 [a,b]) v r|_=>none)
 |_=>none
def Vy:X->X->X->X
 |.bool true,a,_=>a
 |.bool false,_,b=>b
 |c,.bool true,b=>x 2 [c,b]
 |c,a,.bool false=>x 3 [c,a]
 |c,a,b=>x 4 [c,a,b]
def IK(c:Operand)(b:Bool):Key:=match c with | .tmp t=>[(t,b)]|_=>[]
def Eu(P:Program)(s:St)(k:Key)(o:Oper):Option SV:=match o.op with
 |.pick c a b=>(match s.val k c,s.val (IK c true++k) a,s.val (IK c false++k) b with
  |some (.bool c),some (.bool a),some (.bool b)=>some (.bool (Vy c a b))
  |_,_,_=>none)
 |op=>lF P (s.val k) op
def ite(c:X)(A B:T):T:=match c with
 |.bool true=>A
 |.bool false=>B
 |_=>λs=>x2 51 [c] (A s) (B s)
def k1(g t:Nat)(l:List X)(K:T):T:=λs=>x1 g t l (K s)
def b1(g t:Nat)(l:List X)(K:Nat->T):T:=fC λn=>k1 g t (nn n::l) (K n)
def b2(g t:Nat)(l:List X)(K:Nat->X->T):T:=gq λn w=>k1 g t (nn n::nn w::l) (K n (nn w))
def bw(g t:Nat)(l:List X)(K:X->T):T:=fC λw=>k1 g t (nn w::l) (K (nn w))
def ar(m:Md)(k:IntKind)(e:X)(K:SV->T):T:=cond (m.nw&&Iv k) (k1 3 32 [e] (K (.int k e))) (K (.int k (x 8 [kk k,e])))
def VY:X->Bool
 |.int _ (.ofNat (_+1))=>true
 |_=>false
def VZ:X->Bool
 |.int _ (.ofNat _)=>true
 |_=>false
def Et(m:Md)(op:BinOp)(k:IntKind)(a b:X)(K:SV->T):T:=match op with
 |.add | .sub | .mul=>ar m k (WB op a b) K
 |.quo=>(λt=>cond (VY b) t (k1 3 36 [b] t)) (cond m.dv (k1 3 34 [a,kk k] (K (.int k (x 6 [a,b])))) (K (.int k (x 8 [kk k,x 5 [a,b]]))))
 |.rem=>(λt=>cond (VY b) t (k1 3 36 [b] t)) (cond m.dv (k1 3 35 [a] (K (.int k (x 7 [a,b])))) (K (.int k (x 4 [a,b]))))
 |.shl=>(λt=>cond (VZ b) t (k1 3 37 [b] t)) (K (.int k (x 9 [kk k,a,b])))
 |.shr=>(λt=>cond (VZ b) t (k1 3 37 [b] t)) (K (.int k (x 10 [kk k,a,b])))
 |op=>match xZ op k a b with|some v=>K v|none=>bad
def IL(op:BinOp)(e:X):SV:=match op with | .eql=>.bool e|_=>.bool (MO e)
def Fc:SV->X
 |.arr e=>e
 |.cells l=>pl l
 |v=>pl [v]
def opx:BinOp->X
 |.eql=>nn 0
 |_=>nn 1
def Af(m:Md)(op:BinOp)(t:TypeId)(a b:SV)(w:X)(K:SV->X->T):T:=match b with
 |.nilIface=>(match a with
  |.nilIface=>K (IL op (.bool true)) w
  |.iface _ _=>K (IL op (.bool false)) w
  |_=>b1 3 40 [p a] λn=>K (IL op (nn n)) w)
 |.nilFunc=>b1 3 41 [p a] λn=>K (IL op (nn n)) w
 |.int _ e=>(match a with | .int k d=>Et m op k d e λv=>K v w|_=>bad)
 |.cells _ | .arr _=>b2 2 20 [opx op,nn t,Fc a,Fc b,w] λn w'=>K (.bool (nn n)) w'
 |.str e=>(match a,op with
  |.str d,.add=>k1 3 39 [d,e] (K (.str (x 1 [d,e])) w)
  |_,_=>match uu op a b with|some v=>K v w|none=>bad)
 |_=>match uu op a b with|some v=>K v w|none=>bad
def zZ(s:Sh)(a w:X)(K:SV->T):T:=match s with
 |.int k=>b1 0 1 [kk k,a,w] λn=>K (var 9 s n)
 |.bool=>b1 0 2 [a,w] λn=>K (.bool (nn n))
 |.str=>b1 0 3 [a,w] λn=>K (.str (nn n))
 |.ptr=>b1 0 4 [a,w] λn=>K (.ptr (nn n))
 |.sl=>b1 0 5 [a,w] λn=>K (.sl (nn n))
 |_=>b1 0 6 [a,w] λn=>K (.val (nn n))
def zR(a w:X):Nat->List Sh->(List SV->T)->T
 |_,[],K=>K []
 |i,s::r,K=>zZ s (x 1 [a,nz i]) w λv=>zR a w (i+1) r λvs=>K (v::vs)
def plain:List Sh->Bool
 |[]=>true
 |.cells _::_=>false | .arr::_=>false | .oU _::_=>false
 |_::r=>plain r
def Mw(l:List Sh):Bool:=Nat.ble 2 l.length&&(Nat.ble l.length 30&&plain l)
def uJ(P:Program)(t:TypeId)(a w:X)(K:SV->T):T:=match Am P B5 t with
 |.cells l=>cond (Mw l) (CY l λns=>k1 0 8 [nn t,Fb ns,a,w] (K (.cells (List.zipWith (var 9) l ns)))) (zR a w 0 l λvs=>K (.cells vs))
 |.arr=>b1 0 7 [nz (sizeOf P t),a,w] λn=>K (.arr (nn n))
 |s=>zZ s a w K
def WC(a:X)(v:SV)(w:X)(K:X->T):T:=bw 0 10 [a,p v,w] K
def lX(a:X):Nat->List SV->X->(X->T)->T
 |_,[],w,K=>K w
 |i,v::r,w,K=>WC (x 1 [a,nz i]) v w λw'=>lX a (i+1) r w' K
def EH(P:Program)(t:TypeId)(a:X)(v:SV)(w:X)(K:X->T):T:=match Am P B5 t with
 |.cells l=>(match v with
  |.cells vs=>cond (Mw l) (bw 0 9 [nn t,a,.agg ⟨(List.zipWith (Mu 9) l vs).flatten⟩,w] K) (lX a 0 vs w K)
  |_=>bad)
 |.arr=>bw 0 11 [nz (sizeOf P t),a,Fc v,w] K
 |_=>WC a v w K
def rF(s:Sh)(v:X)(K:SV->T):T:=match s with
 |.int k=>b1 2 23 [kk k,v] λn=>K (var 9 s n)
 |.bool=>b1 2 24 [v] λn=>K (var 9 s n)
 |.str=>b1 2 25 [v] λn=>K (var 9 s n)
 |.ptr=>b1 2 26 [v] λn=>K (var 9 s n)
 |.sl=>b1 2 27 [v] λn=>K (var 9 s n)
 |.arr=>b1 2 28 [v] λn=>K (var 9 s n)
 |_=>K (.val v)
def NC(vs:X)(K:X->X->T):T:=gq λa r=>k1 2 30 [nn a,nn r,vs] (K (nn a) (nn r))
def vK:List Sh->X->(List SV->T)->T
 |[],vs,K=>k1 3 38 [vs] (K [])
 |s::r,vs,K=>NC vs λv qW=>rF s v λv'=>vK r qW λsX=>K (v'::sX)
def T5(t:TypeId)(l:List Sh)(v:X)(K:List SV->T):T:=
 cond (Mw l) (CY l λns=>k1 2 31 [nn t,Fb ns,v] (K (List.zipWith (var 9) l ns))) (b1 2 28 [v] λn=>vK l (nn n) K)
def rC:List Sh->List TypeId->X->(List SV->T)->T
 |.cells l::r,t::ts,vs,K=>NC vs λv qW=>T5 t l v λcs=>rC r ts qW λsX=>K (.cells cs::sX)
 |s::r,_::ts,vs,K=>NC vs λv qW=>rF s v λv'=>rC r ts qW λsX=>K (v'::sX)
 |_,_,vs,K=>k1 3 38 [vs] (K [])
def yl(P:Program)(dst:Option Nat)(t:TypeId)(v:X)(K:SV->T):T:=match dst with
 |none=>K (.val v)
 |some _=>match Am P B5 t with
  |.oU []=>K (.val v)
  |.oU l=>(match P.underlying t with
   |some (.tuple ts)=>b1 2 29 [v] λn=>rC l ts.toList (nn n) λvs=>K (.oU vs)
   |_=>bad)
  |.cells l=>T5 t l v λvs=>K (.cells vs)
  |s=>rF s v K
def ND(t:TypeId)(cs w:X)(K:X->X->T):T:=b2 1 12 [nn t,cs,w] λn w'=>K (nn n) w'
def yB(ρ:Operand->Option SV):Option Operand->Option SV
 |none=>none
 |some a=>ρ a
def WD(l:List TypeId):X:=.agg ⟨l.map nn⟩
def An(sz:Nat)(v:X)(lo hi mx:Option SV)(z:SV)(w:X)(K:SV->X->T):T:=match lo,hi,mx with
 |none,none,none=>K z w
 |none,some (.int _ h),none=>b1 4 46 [v,h] λn=>K (.sl (nn n)) w
 |some (.int _ l),none,none=>b1 4 47 [nz sz,v,l] λn=>K (.sl (nn n)) w
 |some (.int _ l),some (.int _ h),none=>b1 4 48 [nz sz,v,l,h] λn=>K (.sl (nn n)) w
 |none,some (.int _ h),some (.int _ m)=>b1 4 49 [v,h,m] λn=>K (.sl (nn n)) w
 |some (.int _ l),some (.int _ h),some (.int _ m)=>b1 4 50 [nz sz,v,l,h,m] λn=>K (.sl (nn n)) w
 |_,_,_=>bad
def wz(P:Program)(m:Md)(ρ:Operand->Option SV)(o:Oper)(w:X)(K:SV->X->T):T:=match o.op with
 |.binOp op t a b _=>(match ρ a,ρ b with|some a,some b=>Af m op t a b w K|_,_=>bad)
 |.unOp .neg _ a=>(match ρ a with|some (.int k n)=>ar m k (x 2 [.int k 0,n]) λv=>K v w|_=>bad)
 |.convert s d a=>(match P.underlying s,P.underlying d,ρ a with
  |some (.int _),some (.int k),some (.int _ n)=>ar m k n λv=>K v w
  |some .string,some .string,some v=>K v w
  |some .string,some (.slice e),some (.str b)=>b2 1 17 [nn e,b,w] λn w'=>K (.sl (nn n)) w'
  |some (.slice _),some (.slice _),some v=>bw 2 19 [Nz v,w] λw'=>K v w'
  |some (.slice _),some .string,some v=>b2 1 18 [Wx v,w] λn w'=>K (.str (nn n)) w'
  |_,_,_=>bad)
 |.index t a i=>(match ρ a,ρ i with
  |some (.str b),some (.int _ i)=>k1 4 43 [i,x 19 [b]] (K (.int .u8 (x 20 [b,i])) w)
  |some v,some (.int _ i)=>(match P.underlying t with
   |some (.array n e)=>(match P.underlying e with
    |some (.int k)=>b1 4 45 [kk k,Fc v,i,nn n] λz=>K (.int k (nn z)) w
    |_=>bad)
   |_=>bad)
  |_,_=>bad)
 |.indexAddr t a i=>(match ρ a,ρ i,P.underlying t with
  |some (.eX e),some (.int _ i),some (.array n u)=>k1 4 43 [i,x 18 [nn n]] (K (.eX (x 3 [e,i,nz (sizeOf P u)])) w)
  |some v,some (.int _ i),some (.slice u)=>k1 4 44 [Nz v,i,Wy v] (K (.eX (x 2 [Nz v,i,nz (sizeOf P u)])) w)
  |_,_,_=>bad)
 |.slice t a lo hi mx=>(match ρ a,P.underlying t with
  |some (.str s),_=>(match yB ρ lo,yB ρ hi with
   |none,none=>K (.str s) w
   |none,some (.int _ h)=>k1 4 57 [h,s] (K (.str (x 2 [s,h])) w)
   |some (.int _ l),none=>k1 4 57 [l,s] (K (.str (x 3 [s,l])) w)
   |some (.int _ l),some (.int _ h)=>k1 4 58 [l,h,s] (K (.str (x 4 [s,l,h])) w)
   |_,_=>bad)
  |some (.eX e),some (.array n u)=>An (sizeOf P u) (x 1 [x 2 [e],nn n,nn n]) (yB ρ lo) (yB ρ hi) (yB ρ mx) (.rX (x 2 [e]) n n) w K
  |some v,some (.slice u)=>An (sizeOf P u) (Wx v) (yB ρ lo) (yB ρ hi) (yB ρ mx) v w K
  |_,_=>bad)
 |.nilCheck a=>(match ρ a with
  |some (.eX e)=>K (.eX e) w
  |some (.ptr (.func (.func 1) _ _))=>bad
  |some (.ptr e)=>b1 3 42 [e] λn=>K (.eX (nn n)) w
  |_=>bad)
 |.load t a=>(match ρ a with|some (.eX e)=>uJ P t e w λv=>K v w|_=>bad)
 |.store t a b=>(match ρ a,ρ b with|some (.eX e),some v=>EH P t e v w λw'=>K .undef w'|_,_=>bad)
 |.alloc t=>b2 1 13 [nn t,w] λn w'=>K (.eX (nn n)) w'
 |.box t a=>(match ρ a with
  |some (.val e)=>ND t (x 2 [e]) w λn w'=>K (.eX n) w'
  |some v=>ND t (Fc v) w λn w'=>K (.eX n) w'
  |none=>bad)
 |.buildSlice t n ps=>(match P.underlying t,partsOf ρ ps.toList with
  |some (.slice e),some vs=>ND e (pl (fill (λi=>i*sizeOf P e) (rep n (Mv P e)) vs)) w λa w'=>K (.rX (x 2 [a]) n n) w'
  |_,_=>bad)
 |.makeSlice t l c=>(match P.underlying t,ρ l,ρ c with
  |some (.slice e),some (.int _ l),some (.int _ c)=>b2 1 14 [nn e,l,c,w] λn w'=>K (.sl (nn n)) w'
  |_,_,_=>bad)
 |.call c=>(match jR ρ c.args.toList with
  |none=>bad
  |some vs=>match c.callee with
   |.builtin .append=>b2 1 15 [WD c.argTypes.toList,nn o.type,pl vs,w] λn w'=>K (.sl (nn n)) w'
   |.builtin .copy=>b2 1 16 [WD c.argTypes.toList,nn o.type,pl vs,w] λn w'=>K (.int .i64 (nn n)) w'
   |.value g=>(match ρ g with
    |some (.fn f a d)=>b2 2 21 [nn f,pl (a++(vs++d)),w] λn w'=>yl P o.dst o.type (nn n) λv=>K v w'
    |some g=>b2 2 22 [p g,pl vs,w] λn w'=>yl P o.dst o.type (nn n) λv=>K v w'
    |none=>bad)
   |_=>match lF P ρ o.op with|some v=>K v w|none=>bad)
 |op=>match lF P ρ op with|some v=>K v w|none=>bad
def NF:X->Bool
 |.func _ _ ⟨l⟩=>l.any λv=>match v with | .func _ _ _=>true|_=>false
 |_=>false
def named(m:Md)(d:Option Nat)(v:Option SV)(K:Option SV->T):T:=match d with
 |none=>K v
 |some d=>cond (kA d m.N) (match v with
  |some (.int k e)=>cond (NF e) (b1 4 62 [e] λn=>K (some (.int k (nn n)))) (K v)
  |some (.bool e)=>cond (NF e) (b1 4 63 [e] λn=>K (some (.bool (nn n)))) (K v)
  |some (.str e)=>cond (NF e) (b1 4 64 [e] λn=>K (some (.str (nn n)))) (K v)
  |v=>K v) (K v)
def oE(P:Program)(m:Md)(o:Oper)(s:St)(w:X)(K:St->X->T):T:=match o.op with
 |.pick c a b=>(match s.val [] c,s.val (IK c true) a,s.val (IK c false) b with
  |some (.bool c),some (.bool a),some (.bool b)=>K (s.put o.dst (some (.bool (Vy c a b)))) w
  |some (.bool c),some a,some b=>ite c (K (s.put o.dst (some a)) w) (K (s.put o.dst (some b)) w)
  |some (.bool c),some a,none=>ite c (K (s.put o.dst (some a)) w) bad
  |some (.bool c),none,some b=>ite c bad (K (s.put o.dst (some b)) w)
  |_,_,_=>bad)
 |.build t ps=>(match partsOf (s.val []) ps.toList with
  |some vs=>cond (L5 vs) (b1 4 59 [nn t,.agg ⟨vs.map λ(i,v)=>x 0 [nn i,p v]⟩] λn=>K (s.put o.dst (some (.val (nn n)))) w) (K (s.put o.dst (UU P t vs)) w)
  |none=>bad)
 |.move a | .assign a=>named m o.dst (s.val [] a) λv=>K (s.put o.dst v) w
 |_=>wz P m (s.val []) o w λv w'=>K (s.put o.dst (some v)) w'
def xO(s:St):Key->(St->Bool->T)->T
 |[],K=>K s true
 |(g,want)::r,K=>xO s r λs' on=>cond on
   (match s'.val [] (.tmp g)with
    |some (.bool b)=>ite b (K (s'.settle g true) want) (K (s'.settle g false) (!want))
    |some _=>K s' false
    |_=>bad)
   (K s' false)
def chain(s:St)(g:Nat)(want:Bool):Key:=(g,want)::(match cS g s.cd with|some (k,_)=>k|none=>[])
def rG(P:Program)(m:Md)(ops:Array Oper)(o:Oper)(s:St)(w:X)(K:St->X->T):T:=match o.guard with
 |none=>oE P m o s w K
 |some (j,want)=>match ((ops.toList[j]?).bind (·.dst))with
  |none=>bad
  |some g=>match sQ g s.lt with
   |some b=>cond (yh b want) (oE P m o s w K) (K (s.put o.dst (some .undef)) w)
   |none=>
    cond (early o.op)
     (match Eu P s (chain s g want) o with
      |some v=>K (s.kU o.dst (chain s g want) v) w
      |none=>xO s (chain s g want) λs' on=>cond on (oE P m o s' w K) (K (s'.put o.dst (some .undef)) w))
     (match o.op with
      |.load t a=>(match s.val (chain s g want) a with
       |some (.eX e)=>uJ P t e w λv=>K (s.kU o.dst (chain s g want) v) w
       |_=>bad)
      |_=>xO s (chain s g want) λs' on=>cond on (oE P m o s' w K) (K (s'.put o.dst (some .undef)) w))
def rR(P:Program)(m:Md)(ops:Array Oper):List Oper->St->X->(Fr->X->T)->T
 |[],s,w,K=>K s.fr w
 |o::r,s,w,K=>rG P m ops o s w λs' w'=>rR P m ops r s' w' K
abbrev Rd:=List (Nat × X × Nat)
def kept(mask:Nat)(w w':X)(A:T):Rd->T
 |[]=>A
 |(i,a,n)::r=>cond (Nat.testBit mask i) (kept mask w w' A r) (k1 3 33 [a,nz n,w,w'] (kept mask w w' A r))
def sI(P:Program)(ops:List Oper)(s:St)(i:Nat)(o:Oper):Rd:=match o.op with
 |.load t a=>(match s.val (match o.guard with
   |none=>[]
   |some (j,want)=>(match ((ops[j]?).bind (·.dst))with
    |none=>[]
    |some g=>(match sQ g s.lt with|some _=>[]|none=>chain s g want))) a with
  |some (.eX e)=>[(i,e,sizeOf P t)]
  |_=>[])
 |_=>[]
def CI(A:Nat × Oper->T):List (Nat × Oper)->T
 |[]=>λ_=>x 61 []
 |y::r=>match r with | []=>A y|z::r'=>λs=>x2 52 [] (A y s) (CI A (z::r') s)
def tu(P:Program)(m:Md)(ops:Array Oper)(mk:List Nat):Nat->List Nat->Rd->St->X->(Fr->X->T)->T
 |0,_,_,s,w,K=>K s.fr w
 |n+1,dn,C,s,w,K=>match lY ops.toList dn 0 ops.toList with
  |[]=>K s.fr w
  |y::r=>match DD P (y::r)with
   |some (i,o)=>rG P m ops o s w λs' w'=>tu P m ops mk n (i::dn) (sI P ops.toList s i o++C) s' w' K
   |none=>CI (λy=>rG P m ops y.2 s w λs' w'=>kept (mk.getD y.1 0) w w' (tu P m ops mk n (y.1::dn) C s' w' K) C) (y::r)
def wL(P:Program)(m:Md)(ops:Array Oper)(draw:Bool)(fr:Fr)(w:X)(K:Fr->X->T):T:=
 cond draw (tu P m ops (lZ ops.toList []) ops.toList.length [] [] ⟨fr,[],[]⟩ (x 1 [w]) K) (rR P m ops ops.toList ⟨fr,[],[]⟩ w K)
abbrev kV:=Exit->Fr->X->T
def uz(K:Fr->X->T)(Q:kV):kV:=λe fr w=>match e with | .normal=>K fr w|e=>Q e fr w
def zO(id:Nat)(Q:kV):kV:=λe fr w=>match e with | .exit i=>cond (Nat.beq i id) (Q .normal fr w) (Q (.exit i) fr w)|e=>Q e fr w
def strip(ws:List Nat):Fr->Fr
 |[]=>[]
 |(t,v)::r=>cond (kA t ws) (strip ws r) ((t,v)::strip ws r)
def args(fr:Fr):List (Nat × Sh)->List X
 |[]=>[]
 |(t,s)::r=>(match look t fr with|some v=>Mu 9 s v|none=>[x 0 []])++args fr r
def Fe(l:List (Nat × Sh)):List Sh:=flat (l.map (·.2))
def WE(j:Nat)(ls:List (Nat × Sh))(fr:Fr)(w:X):T:=λ_=>x 56 [nn j,NB (Fe ls),.agg ⟨args fr ls⟩,w]
def dH(P:Program)(m:Md)(J L:mj):Code->Fr->X->kV->T
 |.skip,fr,w,Q=>Q .normal fr w
 |.label _,fr,w,Q=>Q .normal fr w
 |.region _ ops draw,fr,w,Q=>wL P m ops draw fr w λaP w'=>Q .normal aP w'
 |.seq a b,fr,w,Q=>(match uy (keyOf b) J with
  |none=>dH P m J L a fr w (uz (λaP w'=>dH P m J L b aP w' Q) Q)
  |some ls=>CY (Fe ls) λns=>gq λj w'=>λs=>x2 53 [NB (Fe ls),WA ls,Fb ns,nn j,nn w']
    (dH P m J L b (IZ ls ns++strip (writes a) fr) (nn w') Q s)
    (dH P m J L a fr w (uz (WE j ls) Q) s))
 |.cond c a b,fr,w,Q=>(match (⟨fr,[],[]⟩:St).val [] c with
  |some (.bool t)=>ite t (dH P m J L a fr w Q) (dH P m J L b fr w Q)
  |_=>bad)
 |.block id a,fr,w,Q=>dH P m J L a fr w (zO id Q)
 |.loop a,fr,w,Q=>(match uy (keyOf a) L with
  |none=>bad
  |some ls=>CY (Fe ls) λns=>gq λj w'=>λs=>x1 4 54 [NB (Fe ls),WA ls,Fb ns,nn j,nn w',.agg ⟨args fr ls⟩,w]
    (dH P m J L a (IZ ls ns++strip (writes a) fr) (nn w') (uz (WE j ls) Q) s))
 |.exit id,fr,w,Q=>Q (.exit id) fr w
 |.ret,fr,w,Q=>Q .ret fr w
 |.scope a,fr,w,Q=>dH P m J L a fr w (λe fr w=>match e with | .goto _=>bad|e=>Q e fr w)
 |_,_,_,_=>bad
def qD(P:Program)(fr:Fr)(w:X):List ResultVar->(List SV->T)->T
 |[],K=>K []
 |.tmp t::r,K=>(match look t fr with|some v=>qD P fr w r λvs=>K (v::vs)|none=>bad)
 |.cell t ty::r,K=>(match look t fr with|some (.eX a)=>uJ P ty a w λv=>qD P fr w r λvs=>K (v::vs)|_=>bad)
def V1(w:X)(v:SV):T:=λ_=>x 55 [p v,w]
def Ex(P:Program)(fn:Func):kV:=λe fr w=>match e with
 |.normal | .ret=>qD P fr w fn.results.toList λvs=>match vs with | [v]=>V1 w v|vs=>V1 w (.oU vs)
 |_=>bad
def qM:Nat->List Sh->List Nat->Fr
 |i,.cells l::r,ns=>(i,some (.cells (List.zipWith (var 9) l ns)))::qM (i+1) r (ns.drop l.length)
 |i,s::r,n::ns=>(i,some (var 9 s n))::qM (i+1) r ns
 |_,_,_=>[]
def IM(P:Program)(fn:Func):List Sh:=fn.params.toList.map (Am P B5)++List.replicate fn.nfree .eX
def bq:List Nat:=[0,1,2,3,4,5,6,7,8,9,10,11,12,13,14,15,16,17,18,19,20,21,22,23,24,25,26,27,28,29,30,31,32,33,34,35,36,37,38,39,40,41,42,43,44,45,46,47,48,49,50,51,52,53,54,55,56,57,58,59,60,61,62,63,64,65,66,67,68,69,70,71,72,73,74,75,76,77,78,79,80,81,82,83,84,85,86,87,88,89,90,91,92,93,94,95,96,97,98,99,100,101,102,103,104,105,106,107,108,109,110,111,112,113,114,115,116,117,118,119,120,121,122,123,124,125,126,127,128,129,130,131,132,133,134,135,136,137,138,139,140,141,142,143,144,145,146,147,148,149,150,151,152,153,154,155,156,157,158,159,160,161,162,163,164,165,166,167,168,169,170,171,172,173,174,175,176,177,178,179,180,181,182,183,184,185,186,187,188,189,190,191,192,193,194,195,196,197,198,199,200,201,202,203,204,205,206,207,208,209,210,211,212,213,214,215,216,217,218,219,220,221,222,223,224,225,226,227,228,229,230,231,232,233,234,235,236,237,238,239,240,241,242,243,244,245,246,247,248,249,250,251,252,253,254,255,256,257,258,259,260,261,262,263,264,265,266,267,268,269,270,271,272,273,274,275,276,277,278,279,280,281,282,283,284,285,286,287,288,289,290,291,292,293,294,295,296,297,298,299,300,301,302,303,304,305,306,307,308,309,310,311,312,313,314,315,316,317,318,319,320,321,322,323,324,325,326,327,328,329,330,331,332,333,334,335,336,337,338,339,340,341,342,343,344,345,346,347,348,349,350,351,352,353,354,355,356,357,358,359,360,361,362,363,364,365,366,367,368,369,370,371,372,373,374,375,376,377,378,379,380,381,382,383,384,385,386,387,388,389,390,391,392,393,394,395,396,397,398,399,400]
def V2:Sh->Value->X
 |.val,v=>.iface 0 v
 |.oU _,v=>.iface 0 v
 |.arr,v=>.iface 0 v
 |_,v=>v
def MQ:List Sh->List Value->List X
 |.cells l::r,v::vs=>(match v with | .agg cs=>.agg ⟨List.zipWith V2 l cs.toList⟩|_=>.nilFunc)::MQ r vs
 |s::r,v::vs=>V2 s v::MQ r vs
 |_,_=>[]
def CQ(P:Program)(m:Md)(J L:mj)(fn:Func)(vs:List Value):X:=match fn.body with
 |some c=>(fC λw=>CY (flat (IM P fn)) λns=>λs=>x1 4 60 [nn w,.agg ⟨(IM P fn).map Wz⟩,Fb ns,.agg ⟨MQ (IM P fn) vs⟩] (dH P m J L c (qM 0 (IM P fn) ns) (nn w) (Ex P fn) s)) bq
 |none=>x 0 []
def nfN(n:Nat)(K:Nat->X):X:=match bq.drop n with|m::_=>K m | []=>K n
def I0(f:X->(X->X)->X):List X->(List X->X)->X
 |[],K=>K []
 |v::r,K=>f v λv=>I0 f r λr=>K (v::r)
def nf:Nat->X->(X->X)->X
 |0,v,K=>K v
 |d+1,.func (.func t) b l,K=>I0 (nf d) l.toList λl=>I0 (nf d) b.toList λb=>K (.func (.func t) ⟨b⟩ ⟨l⟩)
 |d+1,.agg l,K=>I0 (nf d) l.toList λl=>K (.agg ⟨l⟩)
 |_,.map (some n),K=>nfN n λn=>K (.chan (some n))
 |_,.chan n,K=>K (.chan n)
 |_,.int k z,K=>K (.int k z)
 |_,.bool b,K=>K (.bool b)
 |_,.string s,K=>K (.string s)
 |_,.pointer q,K=>K (.pointer q)
 |_,.slice a n c,K=>K (.slice a n c)
 |_,.iface t v,K=>K (.iface t v)
 |_,.nilIface,K=>K .nilIface
 |_,.nilFunc,K=>K .nilFunc
 |_,v,K=>K v
end Go.Ev.Tx
