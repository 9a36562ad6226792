/- Texts of this claim, packed and shortened. -/
import Derived.KernelRfl
import Derived.Test.YtgjoehgomjgckaaGreatDoorRows
import Derived.Test.YtgjoehgomjgckaaGreatDoorCards
import Derived.Test.YtgjoehgomjgckaaGreatDoorTie
import Derived.LaidLaws
import Derived.LaidHandle
import Derived.JoinedCond
import Derived.ChangeSlices
import Derived.Deep.Matrix
import Derived.Deep.AppendSrc
import Derived.Lib.AppendZerosOnto
import Derived.Laws.IdiomStrings
import Derived.Laws.BytesString
import Derived.Test.YtgjoehgomjgckaaGreatDoorQ1
import Derived.Test.YtgjoehgomjgckaaGreatDoorAErrCode
section
set_option linter.unusedVariables false
set_option linter.unusedSimpArgs false
namespace Go.Proofs.YtgjoehgomjgckaaGreatDoor
open Go Go.Ev
set_option maxRecDepth 100000
set_option linter.unusedVariables false
theorem ahY:(Pr.funcs.all fun fn=>fn.name != "runtime.NumGoroutine")=true:=by kernel_rfl
theorem ahZ:Pr.follows .mixedOrders=true:=by kernel_rfl
theorem aJ:Go.Ev.Good Pr where
 names:=fun f fn h e=>by
  have:=Array.all_eq_true_iff_forall_mem.1 ahY fn (Array.mem_of_getElem? h)
  simp [e] at this
 mixed:=ahZ
abbrev S_a:ByteArray:=⟨#[97]⟩
abbrev oY:ByteArray:=⟨#[114]⟩
abbrev akQ:ByteArray:=⟨#[97,112,112,108,121]⟩
abbrev Q8:ByteArray:=⟨#[110,111,110,99,101,115]⟩
abbrev aiG:ByteArray:=⟨#[116,101,110,97,110,116,115]⟩
abbrev alK:ByteArray:=⟨#[107,101,121,115]⟩
abbrev ajB:ByteArray:=⟨#[103,114,97,110,116,115]⟩
abbrev ank:ByteArray:=⟨#[107,101,109]⟩
abbrev anl:ByteArray:=⟨#[112,107,101]⟩
abbrev tq:ByteArray:=⟨#[0,1,2,2,3,3,3,3,4,4,4,4,4,4,4,4,5,5,5,5,5,5,5,5,5,5,5,5,5,5,5,5,6,6,6,6,6,6,6,6,6,6,6,6,6,6,6,6,6,6,6,6,6,6,6,6,6,6,6,6,6,6,6,6,7,7,7,7,7,7,7,7,7,7,7,7,7,7,7,7,7,7,7,7,7,7,7,7,7,7,7,7,7,7,7,7,7,7,7,7,7,7,7,7,7,7,7,7,7,7,7,7,7,7,7,7,7,7,7,7,7,7,7,7,7,7,7,7,8,8,8,8,8,8,8,8,8,8,8,8,8,8,8,8,8,8,8,8,8,8,8,8,8,8,8,8,8,8,8,8,8,8,8,8,8,8,8,8,8,8,8,8,8,8,8,8,8,8,8,8,8,8,8,8,8,8,8,8,8,8,8,8,8,8,8,8,8,8,8,8,8,8,8,8,8,8,8,8,8,8,8,8,8,8,8,8,8,8,8,8,8,8,8,8,8,8,8,8,8,8,8,8,8,8,8,8,8,8,8,8,8,8,8,8,8,8,8,8,8,8,8,8,8,8,8,8]⟩
abbrev alL:ByteArray:=⟨#[100,114,97,119]⟩
def jH (a:Addr) (w:World) (K:Int→Int→Int→Int→Int→Int→Int→Int→Int→Int→Int→ByteArray→ah→ah→Prop):Prop:=
 an .i64 (Addr.add a 0) w fun c0=>
 an .i64 (Addr.add a 1) w fun c1=>
 an .i64 (Addr.add a 2) w fun c2=>
 an .i64 (Addr.add a 3) w fun c3=>
 an .i64 (Addr.add a 4) w fun c4=>
 an .i64 (Addr.add a 5) w fun c5=>
 an .i64 (Addr.add a 6) w fun c6=>
 an .i64 (Addr.add a 7) w fun c7=>
 an .i64 (Addr.add a 8) w fun c8=>
 an .i64 (Addr.add a 9) w fun c9=>
 an .i64 (Addr.add a 10) w fun nV=>
 gp (Addr.add a 11) w fun nX=>
 ax (Addr.add a 12) w fun kF=>
 ax (Addr.add a 13) w fun kG=>
 K c0 c1 c2 c3 c4 c5 c6 c7 c8 c9 nV nX kF kG
def HQ (a:Addr) (c0:Int) (c1:Int) (c2:Int) (c3:Int) (c4:Int) (c5:Int) (c6:Int) (c7:Int) (c8:Int) (c9:Int) (nV:Int) (nX:ByteArray) (kF:ah) (kG:ah) (w:World) (K:World→Prop):Prop:=
 st (Addr.add a 0) (.int .i64 c0) w fun w=>
 st (Addr.add a 1) (.int .i64 c1) w fun w=>
 st (Addr.add a 2) (.int .i64 c2) w fun w=>
 st (Addr.add a 3) (.int .i64 c3) w fun w=>
 st (Addr.add a 4) (.int .i64 c4) w fun w=>
 st (Addr.add a 5) (.int .i64 c5) w fun w=>
 st (Addr.add a 6) (.int .i64 c6) w fun w=>
 st (Addr.add a 7) (.int .i64 c7) w fun w=>
 st (Addr.add a 8) (.int .i64 c8) w fun w=>
 st (Addr.add a 9) (.int .i64 c9) w fun w=>
 st (Addr.add a 10) (.int .i64 nV) w fun w=>
 st (Addr.add a 11) (.string nX) w fun w=>
 st (Addr.add a 12) (.slice kF.a kF.n kF.c) w fun w=>
 st (Addr.add a 13) (.slice kG.a kG.n kG.c) w fun w=>
 K w
def bD (a:Addr) (w:World) (K:Int→ah→ah→ah→ah→ah→Prop):Prop:=
 an .i64 (Addr.add a 0) w fun c0=>
 ax (Addr.add a 1) w fun c1=>
 ax (Addr.add a 2) w fun c2=>
 ax (Addr.add a 3) w fun c3=>
 ax (Addr.add a 4) w fun c4=>
 ax (Addr.add a 5) w fun c5=>
 K c0 c1 c2 c3 c4 c5
def bE (a:Addr) (c0:Int) (c1:ah) (c2:ah) (c3:ah) (c4:ah) (c5:ah) (w:World) (K:World→Prop):Prop:=
 st (Addr.add a 0) (.int .i64 c0) w fun w=>
 st (Addr.add a 1) (.slice c1.a c1.n c1.c) w fun w=>
 st (Addr.add a 2) (.slice c2.a c2.n c2.c) w fun w=>
 st (Addr.add a 3) (.slice c3.a c3.n c3.c) w fun w=>
 st (Addr.add a 4) (.slice c4.a c4.n c4.c) w fun w=>
 st (Addr.add a 5) (.slice c5.a c5.n c5.c) w fun w=>
 K w
def dB (v:Value) (K:Int→ah→ah→ah→ah→ah→Prop):Prop:=
 jX v fun r=>
 aC r fun v0 r=>
 aY .i64 v0 fun c0=>
 aC r fun v1 r=>
 aU v1 fun c1=>
 aC r fun v2 r=>
 aU v2 fun c2=>
 aC r fun v3 r=>
 aU v3 fun c3=>
 aC r fun v4 r=>
 aU v4 fun c4=>
 aC r fun v5 r=>
 aU v5 fun c5=>
 (r=[]∧K c0 c1 c2 c3 c4 c5)
def cI (a:Addr) (w:World) (K:Int→Int→ah→ah→Prop):Prop:=
 an .i64 (Addr.add a 0) w fun c0=>
 an .i64 (Addr.add a 1) w fun c1=>
 ax (Addr.add a 2) w fun c2=>
 ax (Addr.add a 3) w fun c3=>
 K c0 c1 c2 c3
def bN (a:Addr) (c0:Int) (c1:Int) (c2:ah) (c3:ah) (w:World) (K:World→Prop):Prop:=
 st (Addr.add a 0) (.int .i64 c0) w fun w=>
 st (Addr.add a 1) (.int .i64 c1) w fun w=>
 st (Addr.add a 2) (.slice c2.a c2.n c2.c) w fun w=>
 st (Addr.add a 3) (.slice c3.a c3.n c3.c) w fun w=>
 K w
def fR (v:Value) (K:Int→Int→ah→ah→Prop):Prop:=
 jX v fun r=>
 aC r fun v0 r=>
 aY .i64 v0 fun c0=>
 aC r fun v1 r=>
 aY .i64 v1 fun c1=>
 aC r fun v2 r=>
 aU v2 fun c2=>
 aC r fun v3 r=>
 aU v3 fun c3=>
 (r=[]∧K c0 c1 c2 c3)
def bA (a:Addr) (w:World) (K:Int→Int→Int→ah→Prop):Prop:=
 an .i64 (Addr.add a 0) w fun c0=>
 an .i64 (Addr.add a 1) w fun c1=>
 an .i64 (Addr.add a 2) w fun c2=>
 ax (Addr.add a 3) w fun c3=>
 K c0 c1 c2 c3
def cF (a:Addr) (c0:Int) (c1:Int) (c2:Int) (c3:ah) (w:World) (K:World→Prop):Prop:=
 st (Addr.add a 0) (.int .i64 c0) w fun w=>
 st (Addr.add a 1) (.int .i64 c1) w fun w=>
 st (Addr.add a 2) (.int .i64 c2) w fun w=>
 st (Addr.add a 3) (.slice c3.a c3.n c3.c) w fun w=>
 K w
def rF (v:Value) (K:Int→Int→Int→ah→Prop):Prop:=
 jX v fun r=>
 aC r fun v0 r=>
 aY .i64 v0 fun c0=>
 aC r fun v1 r=>
 aY .i64 v1 fun c1=>
 aC r fun v2 r=>
 aY .i64 v2 fun c2=>
 aC r fun v3 r=>
 aU v3 fun c3=>
 (r=[]∧K c0 c1 c2 c3)
def gE (a:Addr) (w:World) (K:Int→Int→Int→ah→Prop):Prop:=
 an .i64 (Addr.add a 0) w fun c0=>
 an .i64 (Addr.add a 1) w fun c1=>
 an .i64 (Addr.add a 2) w fun c2=>
 ax (Addr.add a 3) w fun c3=>
 K c0 c1 c2 c3
def fz (a:Addr) (c0:Int) (c1:Int) (c2:Int) (c3:ah) (w:World) (K:World→Prop):Prop:=
 st (Addr.add a 0) (.int .i64 c0) w fun w=>
 st (Addr.add a 1) (.int .i64 c1) w fun w=>
 st (Addr.add a 2) (.int .i64 c2) w fun w=>
 st (Addr.add a 3) (.slice c3.a c3.n c3.c) w fun w=>
 K w
def uP (v:Value) (K:Int→Int→Int→ah→Prop):Prop:=
 jX v fun r=>
 aC r fun v0 r=>
 aY .i64 v0 fun c0=>
 aC r fun v1 r=>
 aY .i64 v1 fun c1=>
 aC r fun v2 r=>
 aY .i64 v2 fun c2=>
 aC r fun v3 r=>
 aU v3 fun c3=>
 (r=[]∧K c0 c1 c2 c3)
def M0 (a:Addr) (w:World) (K:Int→Int→ah→Int→Int→Prop):Prop:=
 an .i64 (Addr.add a 0) w fun c0=>
 an .i64 (Addr.add a 1) w fun c1=>
 ax (Addr.add a 2) w fun c2=>
 an .i64 (Addr.add a 3) w fun c3=>
 an .u64 (Addr.add a 4) w fun c4=>
 K c0 c1 c2 c3 c4
def AW (a:Addr) (c0:Int) (c1:Int) (c2:ah) (c3:Int) (c4:Int) (w:World) (K:World→Prop):Prop:=
 st (Addr.add a 0) (.int .i64 c0) w fun w=>
 st (Addr.add a 1) (.int .i64 c1) w fun w=>
 st (Addr.add a 2) (.slice c2.a c2.n c2.c) w fun w=>
 st (Addr.add a 3) (.int .i64 c3) w fun w=>
 st (Addr.add a 4) (.int .u64 c4) w fun w=>
 K w
def iJ (a:Addr) (w:World) (K:Int→Int→Int→Int→Int→Bool→Prop):Prop:=
 an .i64 (Addr.add a 0) w fun c0=>
 an .i64 (Addr.add a 1) w fun c1=>
 an .i64 (Addr.add a 2) w fun c2=>
 an .i64 (Addr.add a 3) w fun c3=>
 an .i64 (Addr.add a 4) w fun c4=>
 mH (Addr.add a 5) w fun c5=>
 K c0 c1 c2 c3 c4 c5
def oB (a:Addr) (c0:Int) (c1:Int) (c2:Int) (c3:Int) (c4:Int) (c5:Bool) (w:World) (K:World→Prop):Prop:=
 st (Addr.add a 0) (.int .i64 c0) w fun w=>
 st (Addr.add a 1) (.int .i64 c1) w fun w=>
 st (Addr.add a 2) (.int .i64 c2) w fun w=>
 st (Addr.add a 3) (.int .i64 c3) w fun w=>
 st (Addr.add a 4) (.int .i64 c4) w fun w=>
 st (Addr.add a 5) (.bool c5) w fun w=>
 K w
def NT (v:Value) (K:Int→Int→Int→Int→Int→Bool→Prop):Prop:=
 jX v fun r=>
 aC r fun v0 r=>
 aY .i64 v0 fun c0=>
 aC r fun v1 r=>
 aY .i64 v1 fun c1=>
 aC r fun v2 r=>
 aY .i64 v2 fun c2=>
 aC r fun v3 r=>
 aY .i64 v3 fun c3=>
 aC r fun v4 r=>
 aY .i64 v4 fun c4=>
 aC r fun v5 r=>
 aW v5 fun c5=>
 (r=[]∧K c0 c1 c2 c3 c4 c5)
def AX (a:Addr) (w:World) (K:Int→Int→ByteArray→Prop):Prop:=
 an .i64 (Addr.add a 0) w fun c0=>
 an .i64 (Addr.add a 1) w fun c1=>
 gp (Addr.add a 2) w fun c2=>
 K c0 c1 c2
def AY (a:Addr) (c0:Int) (c1:Int) (c2:ByteArray) (w:World) (K:World→Prop):Prop:=
 st (Addr.add a 0) (.int .i64 c0) w fun w=>
 st (Addr.add a 1) (.int .i64 c1) w fun w=>
 st (Addr.add a 2) (.string c2) w fun w=>
 K w
def pF (a:Addr) (w:World) (K:Int→Int→Int→Int→Int→Int→Int→Int→Int→Prop):Prop:=
 an .i64 (Addr.add a 0) w fun c0=>
 an .i64 (Addr.add a 1) w fun c1=>
 an .i64 (Addr.add a 2) w fun c2=>
 an .i64 (Addr.add a 3) w fun c3=>
 an .i64 (Addr.add a 4) w fun c4=>
 an .i64 (Addr.add a 5) w fun c5=>
 an .i64 (Addr.add a 6) w fun c6=>
 an .i64 (Addr.add a 7) w fun c7=>
 an .i64 (Addr.add a 8) w fun c8=>
 K c0 c1 c2 c3 c4 c5 c6 c7 c8
def qG (a:Addr) (c0:Int) (c1:Int) (c2:Int) (c3:Int) (c4:Int) (c5:Int) (c6:Int) (c7:Int) (c8:Int) (w:World) (K:World→Prop):Prop:=
 st (Addr.add a 0) (.int .i64 c0) w fun w=>
 st (Addr.add a 1) (.int .i64 c1) w fun w=>
 st (Addr.add a 2) (.int .i64 c2) w fun w=>
 st (Addr.add a 3) (.int .i64 c3) w fun w=>
 st (Addr.add a 4) (.int .i64 c4) w fun w=>
 st (Addr.add a 5) (.int .i64 c5) w fun w=>
 st (Addr.add a 6) (.int .i64 c6) w fun w=>
 st (Addr.add a 7) (.int .i64 c7) w fun w=>
 st (Addr.add a 8) (.int .i64 c8) w fun w=>
 K w
def NU (v:Value) (K:Int→Int→Int→Int→Int→Int→Int→Int→Int→Prop):Prop:=
 jX v fun r=>
 aC r fun v0 r=>
 aY .i64 v0 fun c0=>
 aC r fun v1 r=>
 aY .i64 v1 fun c1=>
 aC r fun v2 r=>
 aY .i64 v2 fun c2=>
 aC r fun v3 r=>
 aY .i64 v3 fun c3=>
 aC r fun v4 r=>
 aY .i64 v4 fun c4=>
 aC r fun v5 r=>
 aY .i64 v5 fun c5=>
 aC r fun v6 r=>
 aY .i64 v6 fun c6=>
 aC r fun v7 r=>
 aY .i64 v7 fun c7=>
 aC r fun v8 r=>
 aY .i64 v8 fun c8=>
 (r=[]∧K c0 c1 c2 c3 c4 c5 c6 c7 c8)
def rG (a:Addr) (w:World) (K:Int→Int→Int→Int→Int→Int→Int→Int→Int→Prop):Prop:=
 an .i64 (Addr.add a 0) w fun c0=>
 an .i64 (Addr.add a 1) w fun c1=>
 an .i64 (Addr.add a 2) w fun c2=>
 an .i64 (Addr.add a 3) w fun c3=>
 an .i64 (Addr.add a 4) w fun c4=>
 an .i64 (Addr.add a 5) w fun c5=>
 an .i64 (Addr.add a 6) w fun c6=>
 an .i64 (Addr.add a 7) w fun c7=>
 an .i64 (Addr.add a 8) w fun c8=>
 K c0 c1 c2 c3 c4 c5 c6 c7 c8
def mY (a:Addr) (c0:Int) (c1:Int) (c2:Int) (c3:Int) (c4:Int) (c5:Int) (c6:Int) (c7:Int) (c8:Int) (w:World) (K:World→Prop):Prop:=
 st (Addr.add a 0) (.int .i64 c0) w fun w=>
 st (Addr.add a 1) (.int .i64 c1) w fun w=>
 st (Addr.add a 2) (.int .i64 c2) w fun w=>
 st (Addr.add a 3) (.int .i64 c3) w fun w=>
 st (Addr.add a 4) (.int .i64 c4) w fun w=>
 st (Addr.add a 5) (.int .i64 c5) w fun w=>
 st (Addr.add a 6) (.int .i64 c6) w fun w=>
 st (Addr.add a 7) (.int .i64 c7) w fun w=>
 st (Addr.add a 8) (.int .i64 c8) w fun w=>
 K w
def Wh (v:Value) (K:Int→Int→Int→Int→Int→Int→Int→Int→Int→Prop):Prop:=
 jX v fun r=>
 aC r fun v0 r=>
 aY .i64 v0 fun c0=>
 aC r fun v1 r=>
 aY .i64 v1 fun c1=>
 aC r fun v2 r=>
 aY .i64 v2 fun c2=>
 aC r fun v3 r=>
 aY .i64 v3 fun c3=>
 aC r fun v4 r=>
 aY .i64 v4 fun c4=>
 aC r fun v5 r=>
 aY .i64 v5 fun c5=>
 aC r fun v6 r=>
 aY .i64 v6 fun c6=>
 aC r fun v7 r=>
 aY .i64 v7 fun c7=>
 aC r fun v8 r=>
 aY .i64 v8 fun c8=>
 (r=[]∧K c0 c1 c2 c3 c4 c5 c6 c7 c8)
def D0 (a:Addr) (w:World) (K:ah→ah→ah→ah→Prop):Prop:=
 ax (Addr.add a 0) w fun c0=>
 ax (Addr.add a 1) w fun c1=>
 ax (Addr.add a 2) w fun c2=>
 ax (Addr.add a 3) w fun c3=>
 K c0 c1 c2 c3
def wX (a:Addr) (c0:ah) (c1:ah) (c2:ah) (c3:ah) (w:World) (K:World→Prop):Prop:=
 st (Addr.add a 0) (.slice c0.a c0.n c0.c) w fun w=>
 st (Addr.add a 1) (.slice c1.a c1.n c1.c) w fun w=>
 st (Addr.add a 2) (.slice c2.a c2.n c2.c) w fun w=>
 st (Addr.add a 3) (.slice c3.a c3.n c3.c) w fun w=>
 K w
def PT (v:Value) (K:ah→ah→ah→ah→Prop):Prop:=
 jX v fun r=>
 aC r fun v0 r=>
 aU v0 fun c0=>
 aC r fun v1 r=>
 aU v1 fun c1=>
 aC r fun v2 r=>
 aU v2 fun c2=>
 aC r fun v3 r=>
 aU v3 fun c3=>
 (r=[]∧K c0 c1 c2 c3)
def mZ (a:Addr) (w:World) (K:Int→Int→Int→Int→Int→Prop):Prop:=
 an .i64 (Addr.add a 0) w fun c0=>
 an .i64 (Addr.add a 1) w fun c1=>
 an .i64 (Addr.add a 2) w fun c2=>
 an .i64 (Addr.add a 3) w fun c3=>
 an .i64 (Addr.add a 4) w fun c4=>
 K c0 c1 c2 c3 c4
def iY (a:Addr) (c0:Int) (c1:Int) (c2:Int) (c3:Int) (c4:Int) (w:World) (K:World→Prop):Prop:=
 st (Addr.add a 0) (.int .i64 c0) w fun w=>
 st (Addr.add a 1) (.int .i64 c1) w fun w=>
 st (Addr.add a 2) (.int .i64 c2) w fun w=>
 st (Addr.add a 3) (.int .i64 c3) w fun w=>
 st (Addr.add a 4) (.int .i64 c4) w fun w=>
 K w
def uT (v:Value) (K:Int→Int→Int→Int→Int→Prop):Prop:=
 jX v fun r=>
 aC r fun v0 r=>
 aY .i64 v0 fun c0=>
 aC r fun v1 r=>
 aY .i64 v1 fun c1=>
 aC r fun v2 r=>
 aY .i64 v2 fun c2=>
 aC r fun v3 r=>
 aY .i64 v3 fun c3=>
 aC r fun v4 r=>
 aY .i64 v4 fun c4=>
 (r=[]∧K c0 c1 c2 c3 c4)
def HR (e:Value) (w:World) (R:Value→World→Prop):Prop:=
 fm e fun a=>
 aA a
 (R (.int .i64 0) w)
 (nw jw (zc Pr jw) w fun b c=>
 jL []
 (fun d=>mo b d fun f=>
 bB f fun g=>
 an .i64 (Addr.add g 0) d fun i=>
 R (.int .i64 i) d)
 (fun j=>
 ay Pr Hq [e,.iface UP (.pointer (some b))] (World.drew c) fun k l=>
 aW k fun m=>
 mo b l fun n=>
 mo b l fun o=>
 aA ((!m) || (Option.isNone (α:=Addr) n))
 (mo b l fun p=>
 mo b l fun q=>
 (kept b 1 l l∧
 R (.int .i64 (-1:Int)) l))
 (bB o fun s=>
 an .i64 (Addr.add s 0) l fun t=>
 mo b l fun u=>
 aA (decide (t=0))
 (mo b l fun v=>
 (kept b 1 l l∧
 R (.int .i64 (-1:Int)) l))
 (bB u fun x=>
 an .i64 (Addr.add x 0) l fun y=>
 ay Pr Bl [e,.iface qH (.int .i64 y)] l fun z A=>
 aW z fun B=>
 mo b A fun C=>
 aA (!B)
 ((kept b 1 A A∧
 R (.int .i64 (-1:Int)) A))
 (bB C fun D=>
 an .i64 (Addr.add D 0) A fun E=>
 ay Pr DY [e] A fun F G=>
 aY .i64 F fun I=>
 (kept (Addr.add D 0) 1 A G∧
 (kept b 1 A G∧
 aA (!decide (I=E))
 (R (.int .i64 (-1:Int)) G)
 (j G))))))))
theorem Vo {e:Value} {w:World} {R:Value→World→Prop} (h:HR e w R):Ok Pr Bq [e] w R:=
 aL (m:=⟨true,true⟩) (J:=[(6,[])]) (L:=[]) aJ Tryz.func14 (by kernel_rfl) ((by kernel_rfl:aK Pr _ _ _ Tryz.f14 _ w R=HR e w R).mpr h)
def PU (x:Int) (n:Int) (w:World) (R:Value→World→Prop):Prop:=
 pos (IntKind.wrap .u64 (n)) ((0≤IntKind.wrap .u64 (x)∧
 (aF ((IntKind.wrap .u64 (x)) % (IntKind.wrap .u64 (n)))∧
 R (.int .i64 ((IntKind.wrap .u64 (x)) % (IntKind.wrap .u64 (n)))) w)))
theorem afL {x:Int} {n:Int} {w:World} {R:Value→World→Prop} (h:PU x n w R):Ok Pr HI [.int .i64 x,.int .i64 n] w R:=
 aL (m:=⟨true,true⟩) (J:=[]) (L:=[]) aJ Tryz.func15 (by kernel_rfl) ((by kernel_rfl:aK Pr _ _ _ Tryz.f15 _ w R=PU x n w R).mpr h)
def LH (a:ah) (b:ah) (w:World) (R:Value→World→Prop):Prop:=
 aA (!decide ((a.n:Int)=(b.n:Int)))
 (R (.bool false) w)
 (cX (fun (c:Int)=>[(5,some (.int .i64 c))])
 (fun d c e=>aA (decide (c<(a.n:Int)))
 (aQ a.a c a.n
 (an .u8 (Addr.add (base a.a) (Int.toNat c * 1)) (World.drew e) fun f=>
 aQ b.a c b.n
 (an .u8 (Addr.add (base b.a) (Int.toNat c * 1)) (World.drew e) fun g=>
 aA (!decide (f=g))
 (R (.bool false) (World.drew e))
 ((aF (c+1)∧
 d (c+1) (World.drew e))))))
 (R (.bool true) e))
 0 w)
theorem acL {a:ah} {b:ah} {w:World} {R:Value→World→Prop} (h:LH a b w R):Ok Pr Dw [.slice a.a a.n a.c,.slice b.a b.n b.c] w R:=
 aL (m:=⟨true,true⟩) (J:=[]) (L:=[(4,[(5,.int .i64)])]) aJ Tryz.func18 (by kernel_rfl) ((by kernel_rfl:aK Pr _ _ _ Tryz.f18 _ w R=LH a b w R).mpr h)
def PV (e:Value) (w:World) (R:Value→World→Prop):Prop:=
 nw qH (zc Pr qH) w fun a b=>
 fm e fun c=>
 aA c
 (R (.int .i64 0) b)
 (ay Pr Hq [e,.iface Vn (.pointer (some a))] b fun d f=>
 aW d fun g=>
 aA g
 (an .i64 a f fun i=>
 R (.int .i64 i) f)
 (R (.int .i64 2) f))
theorem afM {e:Value} {w:World} {R:Value→World→Prop} (h:PV e w R):Ok Pr DY [e] w R:=
 aL (m:=⟨true,true⟩) (J:=[]) (L:=[]) aJ Tryz.func29 (by kernel_rfl) ((by kernel_rfl:aK Pr _ _ _ Tryz.f29 _ w R=PV e w R).mpr h)
def GI (s:ah) (w:World) (R:Value→World→Prop):Prop:=
 aA (Option.isNone (α:=Addr) s.a)
 (R (.slice none 0 0) w)
 (nw aX [] w fun a b=>
 cJ Pr [bJ,bJ] bJ [.slice (some a) 0 0,.slice s.a s.n s.c] b fun c d=>
 R (.slice c.a c.n c.c) d)
theorem Uu {s:ah} {w:World} {R:Value→World→Prop} (h:GI s w R):Ok Pr s6 [.slice s.a s.n s.c] w R:=
 aL (m:=⟨true,true⟩) (J:=[]) (L:=[]) aJ Tryz.func75 (by kernel_rfl) ((by kernel_rfl:aK Pr _ _ _ Tryz.f75 _ w R=GI s w R).mpr h)
def Kz (s:ah) (w:World) (R:Value→World→Prop):Prop:=
 aA (Option.isNone (α:=Addr) s.a)
 (R (.slice none 0 0) w)
 (nw dh [] w fun a b=>
 cJ Pr [s9,s9] s9 [.slice (some a) 0 0,.slice s.a s.n s.c] b fun c d=>
 R (.slice c.a c.n c.c) d)
theorem abX {s:ah} {w:World} {R:Value→World→Prop} (h:Kz s w R):Ok Pr GB [.slice s.a s.n s.c] w R:=
 aL (m:=⟨true,true⟩) (J:=[]) (L:=[]) aJ Tryz.func76 (by kernel_rfl) ((by kernel_rfl:aK Pr _ _ _ Tryz.f76 _ w R=Kz s w R).mpr h)
def KA (s:ah) (w:World) (R:Value→World→Prop):Prop:=
 aA (Option.isNone (α:=Addr) s.a)
 (R (.slice none 0 0) w)
 (nw eu [] w fun a b=>
 cJ Pr [th,th] th [.slice (some a) 0 0,.slice s.a s.n s.c] b fun c d=>
 R (.slice c.a c.n c.c) d)
theorem abY {s:ah} {w:World} {R:Value→World→Prop} (h:KA s w R):Ok Pr Ky [.slice s.a s.n s.c] w R:=
 aL (m:=⟨true,true⟩) (J:=[]) (L:=[]) aJ Tryz.func77 (by kernel_rfl) ((by kernel_rfl:aK Pr _ _ _ Tryz.f77 _ w R=KA s w R).mpr h)
def KD (s:ah) (w:World) (R:Value→World→Prop):Prop:=
 aA (Option.isNone (α:=Addr) s.a)
 (R (.slice none 0 0) w)
 (nw aV [] w fun a b=>
 cJ Pr [tr,tr] tr [.slice (some a) 0 0,.slice s.a s.n s.c] b fun c d=>
 R (.slice c.a c.n c.c) d)
theorem ab0 {s:ah} {w:World} {R:Value→World→Prop} (h:KD s w R):Ok Pr KC [.slice s.a s.n s.c] w R:=
 aL (m:=⟨true,true⟩) (J:=[]) (L:=[]) aJ Tryz.func78 (by kernel_rfl) ((by kernel_rfl:aK Pr _ _ _ Tryz.f78 _ w R=KD s w R).mpr h)
def Kx (s:ah) (w:World) (R:Value→World→Prop):Prop:=
 aA (Option.isNone (α:=Addr) s.a)
 (R (.slice none 0 0) w)
 (nw cw [] w fun a b=>
 cJ Pr [s8,s8] s8 [.slice (some a) 0 0,.slice s.a s.n s.c] b fun c d=>
 R (.slice c.a c.n c.c) d)
theorem abW {s:ah} {w:World} {R:Value→World→Prop} (h:Kx s w R):Ok Pr Gz [.slice s.a s.n s.c] w R:=
 aL (m:=⟨true,true⟩) (J:=[]) (L:=[]) aJ Tryz.func80 (by kernel_rfl) ((by kernel_rfl:aK Pr _ _ _ Tryz.f80 _ w R=Kx s w R).mpr h)
def GC (s:ah) (f:Value) (w:World) (R:Value→World→Prop):Prop:=
 ay Pr GD [.slice s.a s.n s.c,f] w fun a b=>
 aY .i64 a fun c=>
 R (.bool (decide (0≤c))) b
theorem Us {s:ah} {f:Value} {w:World} {R:Value→World→Prop} (h:GC s f w R):Ok Pr Dp [.slice s.a s.n s.c,f] w R:=
 aL (m:=⟨true,true⟩) (J:=[]) (L:=[]) aJ Tryz.func104 (by kernel_rfl) ((by kernel_rfl:aK Pr _ _ _ Tryz.f104 _ w R=GC s f w R).mpr h)
def GF (s:ah) (f:Value) (w:World) (R:Value→World→Prop):Prop:=
 cX (fun (a:Int)=>[(8,some (.int .i64 a))])
 (fun b a c=>aA (decide (a<(s.n:Int)))
 (aQ s.a a s.n
 (an .i64 (Addr.add (base s.a) (Int.toNat a * 1)) c fun d=>
 lX Pr f [.int .i64 d] c fun e g=>
 aW e fun i=>
 aA i
 (R (.int .i64 a) g)
 ((aF (a+1)∧
 b (a+1) g))))
 (R (.int .i64 (-1:Int)) c))
 0 w
theorem Ut {s:ah} {f:Value} {w:World} {R:Value→World→Prop} (h:GF s f w R):Ok Pr GD [.slice s.a s.n s.c,f] w R:=
 aL (m:=⟨true,true⟩) (J:=[]) (L:=[(2,[(8,.int .i64)])]) aJ Tryz.func148 (by kernel_rfl) ((by kernel_rfl:aK Pr _ _ _ Tryz.f148 _ w R=GF s f w R).mpr h)
def KH (s:ah) (v:Int) (w:World) (R:Value→World→Prop):Prop:=
 ay Pr KQ [.slice s.a s.n s.c,.int .i64 v] w fun a b=>
 aY .i64 a fun c=>
 R (.bool (decide (0≤c))) b
theorem ab3 {s:ah} {v:Int} {w:World} {R:Value→World→Prop} (h:KH s v w R):Ok Pr Uv [.slice s.a s.n s.c,.int .i64 v] w R:=
 aL (m:=⟨true,true⟩) (J:=[]) (L:=[]) aJ Tryz.func149 (by kernel_rfl) ((by kernel_rfl:aK Pr _ _ _ Tryz.f149 _ w R=KH s v w R).mpr h)
def M5 (a:ah) (b:ah) (w:World) (R:Value→World→Prop):Prop:=
 Js Pr a w fun c d=>
 Js Pr b d fun e f=>
 R (.bool (decide (c=e))) f
theorem adM {a:ah} {b:ah} {w:World} {R:Value→World→Prop} (h:M5 a b w R):Ok Pr DF [.slice a.a a.n a.c,.slice b.a b.n b.c] w R:=
 aL (m:=⟨true,true⟩) (J:=[]) (L:=[]) aJ Tryz.func153 (by kernel_rfl) ((by kernel_rfl:aK Pr _ _ _ Tryz.f153 _ w R=M5 a b w R).mpr h)
def Lw (n:Int) (parts:ah) (w:World) (R:Value→World→Prop):Prop:=
 ay Pr DT [.int .i64 136,.int .u8 31,.int .i64 n,.slice parts.a parts.n parts.c] w fun a b=>
 aU a fun c=>
 R (.slice c.a c.n c.c) b
theorem acB {n:Int} {parts:ah} {w:World} {R:Value→World→Prop} (h:Lw n parts w R):Ok Pr s7 [.int .i64 n,.slice parts.a parts.n parts.c] w R:=
 aL (m:=⟨true,true⟩) (J:=[]) (L:=[]) aJ Tryz.func166 (by kernel_rfl) ((by kernel_rfl:aK Pr _ _ _ Tryz.f166 _ w R=Lw n parts w R).mpr h)
def Ks (s:ah) (f:Value) (w:World) (R:Value→World→Prop):Prop:=
 ay Pr Kv [.slice s.a s.n s.c,f] w fun a b=>
 aY .i64 a fun c=>
 R (.bool (decide (0≤c))) b
theorem abT {s:ah} {f:Value} {w:World} {R:Value→World→Prop} (h:Ks s f w R):Ok Pr Kq [.slice s.a s.n s.c,f] w R:=
 aL (m:=⟨true,true⟩) (J:=[]) (L:=[]) aJ Tryz.func169 (by kernel_rfl) ((by kernel_rfl:aK Pr _ _ _ Tryz.f169 _ w R=Ks s f w R).mpr h)
def KR (s:ah) (v:Int) (w:World) (R:Value→World→Prop):Prop:=
 cX (fun (a:Int)=>[(8,some (.int .i64 a))])
 (fun b a c=>aA (decide (a<(s.n:Int)))
 (aQ s.a a s.n
 (an .i64 (Addr.add (base s.a) (Int.toNat a * 1)) c fun d=>
 aA (decide (v=d))
 (R (.int .i64 a) c)
 ((aF (a+1)∧
 b (a+1) c))))
 (R (.int .i64 (-1:Int)) c))
 0 w
theorem acf {s:ah} {v:Int} {w:World} {R:Value→World→Prop} (h:KR s v w R):Ok Pr KQ [.slice s.a s.n s.c,.int .i64 v] w R:=
 aL (m:=⟨true,true⟩) (J:=[]) (L:=[(2,[(8,.int .i64)])]) aJ Tryz.func180 (by kernel_rfl) ((by kernel_rfl:aK Pr _ _ _ Tryz.f180 _ w R=KR s v w R).mpr h)
def L0 (parts:ah) (w:World) (R:Value→World→Prop):Prop:=
 ay Pr DT [.int .i64 72,.int .u8 6,.int .i64 64,.slice parts.a parts.n parts.c] w fun a b=>
 aU a fun c=>
 R (.slice c.a c.n c.c) b
theorem ada {parts:ah} {w:World} {R:Value→World→Prop} (h:L0 parts w R):Ok Pr Dy [.slice parts.a parts.n parts.c] w R:=
 aL (m:=⟨true,true⟩) (J:=[]) (L:=[]) aJ Tryz.func188 (by kernel_rfl) ((by kernel_rfl:aK Pr _ _ _ Tryz.f188 _ w R=L0 parts w R).mpr h)
def L3 (parts:ah) (w:World) (R:Value→World→Prop):Prop:=
 ay Pr DT [.int .i64 136,.int .u8 6,.int .i64 32,.slice parts.a parts.n parts.c] w fun a b=>
 aU a fun c=>
 R (.slice c.a c.n c.c) b
theorem adb {parts:ah} {w:World} {R:Value→World→Prop} (h:L3 parts w R):Ok Pr Dz [.slice parts.a parts.n parts.c] w R:=
 aL (m:=⟨true,true⟩) (J:=[]) (L:=[]) aJ Tryz.func190 (by kernel_rfl) ((by kernel_rfl:aK Pr _ _ _ Tryz.f190 _ w R=L3 parts w R).mpr h)
def OX (az:Int) (suffix:Int) (n:Int) (parts:ah) (w:World) (R:Value→World→Prop):Prop:=
 ay Pr Hj [.int .i64 az,.int .u8 suffix] w fun a b=>
 CK a fun c=>
 ay Pr Ds [.pointer c,.slice parts.a parts.n parts.c] b fun d e=>
 ay Pr Dt [.pointer c,.int .i64 n] e fun f g=>
 aU f fun i=>
 R (.slice i.a i.n i.c) g
theorem aeZ {az:Int} {suffix:Int} {n:Int} {parts:ah} {w:World} {R:Value→World→Prop} (h:OX az suffix n parts w R):Ok Pr DT [.int .i64 az,.int .u8 suffix,.int .i64 n,.slice parts.a parts.n parts.c] w R:=
 aL (m:=⟨true,true⟩) (J:=[]) (L:=[]) aJ Tryz.func191 (by kernel_rfl) ((by kernel_rfl:aK Pr _ _ _ Tryz.f191 _ w R=OX az suffix n parts w R).mpr h)
def Kw (s:ah) (f:Value) (w:World) (R:Value→World→Prop):Prop:=
 cX (fun (a:Int)=>[(8,some (.int .i64 a))])
 (fun b a c=>aA (decide (a<(s.n:Int)))
 (aQ s.a a s.n
 (AX (Addr.add (base s.a) (Int.toNat a * 3)) c fun d e g=>
 lX Pr f [.agg ⟨[.int .i64 d,.int .i64 e,.string g]⟩] c fun i j=>
 aW i fun k=>
 aA k
 (R (.int .i64 a) j)
 ((aF (a+1)∧
 b (a+1) j))))
 (R (.int .i64 (-1:Int)) c))
 0 w
theorem abV {s:ah} {f:Value} {w:World} {R:Value→World→Prop} (h:Kw s f w R):Ok Pr Kv [.slice s.a s.n s.c,f] w R:=
 aL (m:=⟨true,true⟩) (J:=[]) (L:=[(2,[(8,.int .i64)])]) aJ Tryz.func192 (by kernel_rfl) ((by kernel_rfl:aK Pr _ _ _ Tryz.f192 _ w R=Kw s f w R).mpr h)
def L4 (x:Int) (w:World) (R:Value→World→Prop):Prop:=
 ay Pr UF [.int .u64 x] w fun a b=>
 aY .i64 a fun c=>
 R (.int .i64 c) b
theorem ade {x:Int} {w:World} {R:Value→World→Prop} (h:L4 x w R):Ok Pr LY [.int .u64 x] w R:=
 aL (m:=⟨true,true⟩) (J:=[]) (L:=[]) aJ Tryz.func193 (by kernel_rfl) ((by kernel_rfl:aK Pr _ _ _ Tryz.f193 _ w R=L4 x w R).mpr h)
def KI (oG:ah) (w:World) (R:Value→World→Prop):Prop:=
 iA (fun (a:Int) (b:Int)=>[(3,some (.int .i64 a)),(11,some (.int .i64 b))])
 (fun c a b d=>aA (decide (b<(oG.n:Int)))
 (aQ oG.a b oG.n
 (ax (Addr.add (base oG.a) (Int.toNat b * 1)) d fun e=>
 (aF (a+(e.n:Int))∧
 aA (decide (a+(e.n:Int)<0))
 (False)
 ((aF (b+1)∧
 c (a+(e.n:Int)) (b+1) d)))))
 (ay Pr KN [.slice none 0 0,.int .i64 a] d fun f g=>
 aU f fun i=>
 iA (fun (j:ah) (k:Int)=>[(6,some (.slice j.a j.n j.c)),(27,some (.int .i64 k))])
 (fun l j k m=>aA (decide (k<(oG.n:Int)))
 (aQ oG.a k oG.n
 (ax (Addr.add (base oG.a) (Int.toNat k * 1)) m fun n=>
 cJ Pr [bJ,bJ] bJ [.slice j.a j.n j.c,.slice n.a n.n n.c] m fun o p=>
 (aF (k+1)∧
 l o (k+1) p)))
 (R (.slice j.a j.n j.c) m))
 i 0 g))
 0 0 w
theorem ab4 {oG:ah} {w:World} {R:Value→World→Prop} (h:KI oG w R):Ok Pr KG [.slice oG.a oG.n oG.c] w R:=
 aL (m:=⟨true,true⟩) (J:=[]) (L:=[(3,[(3,.int .i64),(11,.int .i64)]),(11,[(6,.sl),(27,.int .i64)])]) aJ Tryz.func206 (by kernel_rfl) ((by kernel_rfl:aK Pr _ _ _ Tryz.f206 _ w R=KI oG w R).mpr h)
def NV (az:Int) (suffix:Int) (w:World) (R:Value→World→Prop):Prop:=
 aA (((((decide (az<8)) || (decide (192<az))) || (!decide (Int.tmod az 8=0))) || (decide (suffix<1))) || (decide (127<suffix)))
 (R (.pointer none) w)
 (nw LZ [.int .u64 0,.int .u64 0,.int .u64 0,.int .u64 0,.int .u64 0,.int .u64 0,.int .u64 0,.int .u64 0,.int .u64 0,.int .u64 0,.int .u64 0,.int .u64 0,.int .u64 0,.int .u64 0,.int .u64 0,.int .u64 0,.int .u64 0,.int .u64 0,.int .u64 0,.int .u64 0,.int .u64 0,.int .u64 0,.int .u64 0,.int .u64 0,.int .u64 0,.int .i64 az,.int .u8 suffix,.int .i64 0,.bool false] w fun a b=>
 R (.pointer (some a)) b)
theorem aeo {az:Int} {suffix:Int} {w:World} {R:Value→World→Prop} (h:NV az suffix w R):Ok Pr Hj [.int .i64 az,.int .u8 suffix] w R:=
 aL (m:=⟨true,true⟩) (J:=[]) (L:=[]) aJ Tryz.func221 (by kernel_rfl) ((by kernel_rfl:aK Pr _ _ _ Tryz.f221 _ w R=NV az suffix w R).mpr h)
def KT (s:Option Addr) (parts:ah) (w:World) (R:Value→World→Prop):Prop:=
 aA (Option.isNone (α:=Addr) s)
 (ay Pr UZ [.int .i64 1] w fun a b=>
 R a b)
 (bB s fun c=>
 mH (Addr.add c 28) w fun d=>
 aA d
 (ay Pr UZ [.int .i64 5] w fun e f=>
 R e f)
 (cX (fun (g:Int)=>[(21,some (.int .i64 g))])
 (fun i g j=>aA (decide (g<(parts.n:Int)))
 (aQ parts.a g parts.n
 (ax (Addr.add (base parts.a) (Int.toNat g * 1)) j fun k=>
 cX (fun (l:Int)=>[(27,some (.int .i64 l))])
 (fun m l n=>aA (decide (l<(k.n:Int)))
 (aQ k.a l k.n
 (an .u8 (Addr.add (base k.a) (Int.toNat l * 1)) n fun o=>
 bB s fun p=>
 an .i64 (Addr.add p 27) n fun q=>
 ay Pr Du [.pointer s,.int .i64 q,.int .u8 o] n fun t u=>
 bB s fun v=>
 an .i64 (Addr.add v 27) u fun x=>
 (aF (x+1)∧
 bB s fun y=>
 st (Addr.add y 27) (.int .i64 (x+1)) u fun z=>
 ay Pr GK [.pointer s] z fun A B=>
 (aF (l+1)∧
 m (l+1) B))))
 ((aF (g+1)∧
 i (g+1) n)))
 0 j))
 (R (.nilIface) j))
 0 w))
theorem ach {s:Option Addr} {parts:ah} {w:World} {R:Value→World→Prop} (h:KT s parts w R):Ok Pr Ds [.pointer s,.slice parts.a parts.n parts.c] w R:=
 aL (m:=⟨true,true⟩) (J:=[]) (L:=[(6,[(21,.int .i64)]),(9,[(27,.int .i64)])]) aJ Tryz.func222 (by kernel_rfl) ((by kernel_rfl:aK Pr _ _ _ Tryz.f222 _ w R=KT s parts w R).mpr h)
def GL (s:Option Addr) (n:Int) (w:World) (R:Value→World→Prop):Prop:=
 aA (((Option.isNone (α:=Addr) s) || (decide (n<1))) || (decide (1048576<n)))
 (R (.slice none 0 0) w)
 (jL []
 (fun a=>j0 Pr aX 0 n a fun b c=>
 iA (fun (d:ah) (e:Int)=>[(5,some (.slice d.a d.n d.c)),(51,some (.int .i64 e))])
 (fun f d e g=>aA (decide (e<n))
 (ay Pr GK [.pointer s] g fun i j=>
 bB s fun k=>
 an .i64 (Addr.add k 27) (World.drew j) fun l=>
 ((0≤l∧l≤IntKind.max .i64)∧
 bB s fun m=>
 idx (l / 8) 25
 (an .u64 (Addr.add (Addr.add m 0) (Int.toNat (l / 8) * 1)) (World.drew j) fun o=>
 bB s fun p=>
 an .i64 (Addr.add p 27) (World.drew j) fun q=>
 (0≤q∧
 (aF (8 * (q % 8))∧
 gX (8 * (q % 8)) (nw aX [.int .u8 (IntKind.wrap .u8 (shr .u64 o (8 * (q % 8))))] (World.drew j) fun t u=>
 cJ Pr [bJ,bJ] bJ [.slice d.a d.n d.c,.slice (some t) 1 1] u fun v x=>
 bB s fun y=>
 an .i64 (Addr.add y 27) x fun z=>
 (aF (z+1)∧
 bB s fun A=>
 st (Addr.add A 27) (.int .i64 (z+1)) x fun B=>
 (aF (e+1)∧
 f v (e+1) B))))))))
 (R (.slice d.a d.n d.c) g))
 b 0 c)
 (fun C=>
 bB s fun D=>
 mH (Addr.add D 28) w fun E=>
 aA (!E)
 (bB s fun F=>
 an .i64 (Addr.add F 27) (World.drew w) fun G=>
 bB s fun I=>
 an .u8 (Addr.add I 26) (World.drew w) fun J=>
 ay Pr Du [.pointer s,.int .i64 G,.int .u8 J] (World.drew w) fun L M=>
 bB s fun N=>
 an .i64 (Addr.add N 25) M fun O=>
 (aF (O - 1)∧
 ay Pr Du [.pointer s,.int .i64 (O - 1),.int .u8 128] M fun Q S=>
 bB s fun T=>
 an .i64 (Addr.add T 25) S fun U=>
 bB s fun V=>
 st (Addr.add V 28) (.bool true) S fun X=>
 bB s fun Y=>
 st (Addr.add Y 27) (.int .i64 U) X fun Z=>
 C Z))
 (C w)))
theorem Uw {s:Option Addr} {n:Int} {w:World} {R:Value→World→Prop} (h:GL s n w R):Ok Pr Dt [.pointer s,.int .i64 n] w R:=
 aL (m:=⟨true,true⟩) (J:=[(7,[])]) (L:=[(9,[(5,.sl),(51,.int .i64)])]) aJ Tryz.func223 (by kernel_rfl) ((by kernel_rfl:aK Pr _ _ _ Tryz.f223 _ w R=GL s n w R).mpr h)
def Lx (x:Int) (w:World) (R:Value→World→Prop):Prop:=
 tQ (fun (a:Int) (b:Int)=>[(0,some (.int .u64 a)),(2,some (.int .i64 b))])
 (fun a b c=>tQ (fun (d:Int) (e:Int)=>[(0,some (.int .u64 d)),(2,some (.int .i64 e))])
 (fun d e f=>tQ (fun (g:Int) (i:Int)=>[(0,some (.int .u64 g)),(2,some (.int .i64 i))])
 (fun g i j=>idx (IntKind.wrap .u8 (g)) (ByteArray.size tq)
 ((aF (um tq (IntKind.wrap .u8 (g)))∧
 (aF (i+(um tq (IntKind.wrap .u8 (g))))∧
 lt (A:=Int) (i+(um tq (IntKind.wrap .u8 (g)))) fun k=>
 R (.int .i64 k) j))))
 (fun l=>
 aA (decide (256≤d))
 ((aF (e+8)∧
 l (shr .u64 d 8) (e+8) f))
 (l d e f)))
 (fun m=>
 aA (decide (65536≤a))
 ((aF (b+16)∧
 m (shr .u64 a 16) (b+16) c))
 (m a b c)))
 (fun n=>
 aA (decide (4294967296≤x))
 (n (shr .u64 x 32) 32 w)
 (n x 0 w))
theorem acC {x:Int} {w:World} {R:Value→World→Prop} (h:Lx x w R):Ok Pr UF [.int .u64 x] w R:=
 aL (m:=⟨true,true⟩) (J:=[(4,[(0,.int .u64),(2,.int .i64)]),(7,[(0,.int .u64),(2,.int .i64)]),(10,[(0,.int .u64),(2,.int .i64)])]) (L:=[]) aJ Tryz.func225 (by kernel_rfl) ((by kernel_rfl:aK Pr _ _ _ Tryz.f225 _ w R=Lx x w R).mpr h)
def KP (s:ah) (n:Int) (w:World) (R:Value→World→Prop):Prop:=
 jL []
 (fun a=>(aF (((s.c:Nat):Int) - (s.n:Int))∧
 (aF (n - (((s.c:Nat):Int) - (s.n:Int)))∧
 lt (A:=Int) (n - (((s.c:Nat):Int) - (s.n:Int))) fun b=>
 aA (decide (0<b))
 (vQ s ((s.c:Nat):Int) fun c=>
 cJ Pr [bJ,bH] bJ [.slice c.a c.n c.c,.int .i64 b] a fun d e=>
 vQ d (s.n:Int) fun f=>
 R (.slice f.a f.n f.c) e)
 (R (.slice s.a s.n s.c) a))))
 (fun g=>
 aA (decide (n<0))
 (False)
 (g w))
theorem ab8 {s:ah} {n:Int} {w:World} {R:Value→World→Prop} (h:KP s n w R):Ok Pr KN [.slice s.a s.n s.c,.int .i64 n] w R:=
 aL (m:=⟨true,true⟩) (J:=[(3,[])]) (L:=[]) aJ Tryz.func246 (by kernel_rfl) ((by kernel_rfl:aK Pr _ _ _ Tryz.f246 _ w R=KP s n w R).mpr h)
def KK (s:ah) (n:Int) (w:World) (R:Value→World→Prop):Prop:=
 nw bJ [.slice s.a s.n s.c] w fun a b=>
 nw bH [.int .i64 n] b fun c d=>
 an .i64 c d fun e=>
 aA (decide (e<1))
 (False)
 (R (.func (.func Dq) ⟨[]⟩ ⟨[.pointer (some a),.pointer (some c)]⟩) d)
theorem ab5 {s:ah} {n:Int} {w:World} {R:Value→World→Prop} (h:KK s n w R):Ok Pr KJ [.slice s.a s.n s.c,.int .i64 n] w R:=
 aL (m:=⟨true,true⟩) (J:=[]) (L:=[]) aJ Tryz.func247 (by kernel_rfl) ((by kernel_rfl:aK Pr _ _ _ Tryz.f247 _ w R=KK s n w R).mpr h)
def M6 (d:Int) (b:ah) (w:World) (R:Value→World→Prop):Prop:=
 aA ((decide (d<1)) || (decide (24<d)))
 (R (.slice none 0 0) w)
 (Jj (fun (a:ah) (c:Int) (e:Int) (f:Int)=>[(5,some (.slice a.a a.n a.c)),(6,some (.int .i64 c)),(7,some (.int .i64 e)),(18,some (.int .i64 f))])
 (fun g a c e f i=>aA (decide (f<(b.n:Int)))
 (aQ b.a f b.n
 (an .u8 (Addr.add (base b.a) (Int.toNat f * 1)) i fun j=>
 (aF (j)∧
 gX e (lt (A:=Int) (sw .i64 c (shl .i64 j e)) fun k=>
 (aF (e+8)∧
 B5 (fun (l:ah) (m:Int) (n:Int)=>[(5,some (.slice l.a l.n l.c)),(6,some (.int .i64 m)),(7,some (.int .i64 n))])
 (fun o l m n p=>aA (decide (d≤n))
 (ay Pr PR [.int .i64 d,.int .i64 m] p fun q s=>
 aY .i64 q fun t=>
 nw bH [.int .i64 t] s fun u v=>
 cJ Pr [fo,fo] fo [.slice l.a l.n l.c,.slice (some u) 1 1] v fun x y=>
 gX d ((aF (n - d)∧
 o x (shr .i64 m d) (n - d) y)))
 ((aF (f+1)∧
 g l m n (f+1) p)))
 a k (e+8) i)))))
 (R (.slice a.a a.n a.c) i))
 ⟨none,0,0⟩ 0 0 0 w)
theorem adN {d:Int} {b:ah} {w:World} {R:Value→World→Prop} (h:M6 d b w R):Ok Pr AV [.int .i64 d,.slice b.a b.n b.c] w R:=
 aL (m:=⟨true,true⟩) (J:=[]) (L:=[(6,[(5,.sl),(6,.int .i64),(7,.int .i64),(18,.int .i64)]),(10,[(5,.sl),(6,.int .i64),(7,.int .i64)])]) aJ Tryz.func248 (by kernel_rfl) ((by kernel_rfl:aK Pr _ _ _ Tryz.f248 _ w R=M6 d b w R).mpr h)
def KS (s:ah) (w:World) (R:Value→World→Prop):Prop:=
 aA (Option.isNone (α:=Addr) s.a)
 (R (.slice none 0 0) w)
 (nw bH [] w fun a b=>
 cJ Pr [fo,fo] fo [.slice (some a) 0 0,.slice s.a s.n s.c] b fun c d=>
 R (.slice c.a c.n c.c) d)
theorem acg {s:ah} {w:World} {R:Value→World→Prop} (h:KS s w R):Ok Pr GJ [.slice s.a s.n s.c] w R:=
 aL (m:=⟨true,true⟩) (J:=[]) (L:=[]) aJ Tryz.func253 (by kernel_rfl) ((by kernel_rfl:aK Pr _ _ _ Tryz.f253 _ w R=KS s w R).mpr h)
def OY (d:Int) (xs:ah) (w:World) (R:Value→World→Prop):Prop:=
 aA ((decide (d<1)) || (decide (24<d)))
 (R (.slice none 0 0) w)
 (Jj (fun (a:ah) (b:Int) (c:Int) (e:Int)=>[(5,some (.slice a.a a.n a.c)),(6,some (.int .i64 b)),(7,some (.int .i64 c)),(18,some (.int .i64 e))])
 (fun f a b c e g=>aA (decide (e<(xs.n:Int)))
 (aQ xs.a e xs.n
 (an .i64 (Addr.add (base xs.a) (Int.toNat e * 1)) g fun i=>
 jL []
 (fun j=>gX c (lt (A:=Int) (sw .i64 b (shl .i64 i c)) fun k=>
 (aF (c+d)∧
 B5 (fun (l:ah) (m:Int) (n:Int)=>[(5,some (.slice l.a l.n l.c)),(6,some (.int .i64 m)),(7,some (.int .i64 n))])
 (fun o l m n p=>aA (decide (8≤n))
 (nw aX [.int .u8 (IntKind.wrap .u8 (m))] p fun q s=>
 cJ Pr [bJ,bJ] bJ [.slice l.a l.n l.c,.slice (some q) 1 1] s fun t u=>
 (aF (n - 8)∧
 o t (shr .i64 m 8) (n - 8) u))
 ((aF (e+1)∧
 f l m n (e+1) p)))
 a k (c+d) j)))
 (fun v=>
 aA (decide (i<0))
 (R (.slice none 0 0) g)
 (gX d (aA (!decide (shr .i64 i d=0))
 (R (.slice none 0 0) g)
 (v g))))))
 (aA (decide (0<c))
 (nw aX [.int .u8 (IntKind.wrap .u8 (b))] g fun x y=>
 cJ Pr [bJ,bJ] bJ [.slice a.a a.n a.c,.slice (some x) 1 1] y fun z B=>
 R (.slice z.a z.n z.c) B)
 (R (.slice a.a a.n a.c) g)))
 ⟨none,0,0⟩ 0 0 0 w)
theorem ae0 {d:Int} {xs:ah} {w:World} {R:Value→World→Prop} (h:OY d xs w R):Ok Pr Hv [.int .i64 d,.slice xs.a xs.n xs.c] w R:=
 aL (m:=⟨true,true⟩) (J:=[(10,[])]) (L:=[(6,[(5,.sl),(6,.int .i64),(7,.int .i64),(18,.int .i64)]),(12,[(5,.sl),(6,.int .i64),(7,.int .i64)])]) aJ Tryz.func258 (by kernel_rfl) ((by kernel_rfl:aK Pr _ _ _ Tryz.f258 _ w R=OY d xs w R).mpr h)
def OZ (eta:Int) (aq:ah) (n:Int) (w:World) (R:Value→World→Prop):Prop:=
 aA ((!decide (eta=2)) && (!decide (eta=3)))
 (ay Pr yM [.int .i64 2] w fun a b=>
 R (.tuple ⟨[.slice none 0 0,a]⟩) b)
 (aA (!decide ((aq.n:Int)=32))
 (ay Pr yM [.int .i64 3] w fun c d=>
 R (.tuple ⟨[.slice none 0 0,c]⟩) d)
 ((aF (64 * eta)∧
 nw aX [.int .u8 n] w fun e f=>
 nw bJ [.slice aq.a aq.n aq.c,.slice (some e) 1 1] f fun g i=>
 ay Pr s7 [.int .i64 (64 * eta),.slice (some g) 2 2] i fun j k=>
 aU j fun l=>
 ay Pr OU [.int .i64 eta,.slice l.a l.n l.c] k fun m o=>
 bw.bC m fun p=>
 aC p fun q s=>
 aU q fun t=>
 aC s fun u v=>
 (v=[]∧
 R (.tuple ⟨[.slice t.a t.n t.c,u]⟩) o))))
theorem ae1 {eta:Int} {aq:ah} {n:Int} {w:World} {R:Value→World→Prop} (h:OZ eta aq n w R):Ok Pr OS [.int .i64 eta,.slice aq.a aq.n aq.c,.int .u8 n] w R:=
 aL (m:=⟨true,true⟩) (J:=[]) (L:=[]) aJ Tryz.func259 (by kernel_rfl) ((by kernel_rfl:aK Pr _ _ _ Tryz.f259 _ w R=OZ eta aq n w R).mpr h)
def O0 (aq:ah) (i:Int) (j:Int) (w:World) (R:Value→World→Prop):Prop:=
 aA (!decide ((aq.n:Int)=32))
 (ay Pr yM [.int .i64 3] w fun a b=>
 R (.tuple ⟨[.slice none 0 0,a]⟩) b)
 (ay Pr Hj [.int .i64 168,.int .u8 31] w fun c d=>
 CK c fun e=>
 nw aX [.int .u8 i,.int .u8 j] d fun f g=>
 nw bJ [.slice aq.a aq.n aq.c,.slice (some f) 2 2] g fun k l=>
 ay Pr Ds [.pointer e,.slice (some k) 2 2] l fun m n=>
 j0 Pr bH 0 256 n fun o p=>
 iA (fun (q:ah) (s:Int)=>[(9,some (.slice q.a q.n q.c)),(10,some (.int .i64 s))])
 (fun t q s u=>aA ((decide (s<4096)) && (decide ((q.n:Int)<256)))
 (ay Pr Dt [.pointer e,.int .i64 3] u fun v x=>
 aU v fun y=>
 ay Pr AV [.int .i64 12,.slice y.a y.n y.c] x fun z A=>
 aU z fun B=>
 iA (fun (C:ah) (D:Int)=>[(9,some (.slice C.a C.n C.c)),(39,some (.int .i64 D))])
 (fun E C D F=>aA (decide (D<(B.n:Int)))
 (aQ B.a D B.n
 (an .i64 (Addr.add (base B.a) (Int.toNat D * 1)) F fun G=>
 aA ((decide (G<3329)) && (decide ((C.n:Int)<256)))
 (nw bH [.int .i64 G] F fun I J=>
 cJ Pr [fo,fo] fo [.slice C.a C.n C.c,.slice (some I) 1 1] J fun L M=>
 (aF (D+1)∧
 E L (D+1) M))
 ((aF (D+1)∧
 E C (D+1) F))))
 ((aF (s+3)∧
 t C (s+3) F)))
 q 0 A)
 ((aF (256 - (q.n:Int))∧
 cJ Pr [fo,bH] fo [.slice q.a q.n q.c,.int .i64 (256 - (q.n:Int))] u fun N O=>
 R (.tuple ⟨[.slice N.a N.n N.c,.nilIface]⟩) O)))
 o 3 p)
theorem ae2 {aq:ah} {i:Int} {j:Int} {w:World} {R:Value→World→Prop} (h:O0 aq i j w R):Ok Pr OT [.slice aq.a aq.n aq.c,.int .u8 i,.int .u8 j] w R:=
 aL (m:=⟨true,true⟩) (J:=[]) (L:=[(7,[(9,.sl),(10,.int .i64)]),(10,[(9,.sl),(39,.int .i64)])]) aJ Tryz.func260 (by kernel_rfl) ((by kernel_rfl:aK Pr _ _ _ Tryz.f260 _ w R=O0 aq i j w R).mpr h)
def KU (s:Option Addr) (i:Int) (b:Int) (w:World) (R:Value→World→Prop):Prop:=
 ((0≤i∧i≤IntKind.max .i64)∧
 bB s fun a=>
 idx (i / 8) 25
 (an .u64 (Addr.add (Addr.add a 0) (Int.toNat (i / 8) * 1)) (World.drew w) fun c=>
 (0≤i∧
 (aF (8 * (i % 8))∧
 gX (8 * (i % 8)) (bB s fun d=>
 idx (i / 8) 25
 (st (Addr.add (Addr.add d 0) (Int.toNat (i / 8) * 1)) (.int .u64 (oN .u64 c (shl .u64 (IntKind.wrap .u64 (b)) (8 * (i % 8))))) (World.drew w) fun e=>
 R (.tuple ⟨[]⟩) e))))))
theorem acj {s:Option Addr} {i:Int} {b:Int} {w:World} {R:Value→World→Prop} (h:KU s i b w R):Ok Pr Du [.pointer s,.int .i64 i,.int .u8 b] w R:=
 aL (m:=⟨true,true⟩) (J:=[]) (L:=[]) aJ Tryz.func263 (by kernel_rfl) ((by kernel_rfl:aK Pr _ _ _ Tryz.f263 _ w R=KU s i b w R).mpr h)
def KV (s:Option Addr) (w:World) (R:Value→World→Prop):Prop:=
 bB s fun a=>
 an .i64 (Addr.add a 27) (World.drew w) fun b=>
 bB s fun c=>
 an .i64 (Addr.add c 25) (World.drew w) fun d=>
 aA (decide (b=d))
 (bB s fun e=>
 iF 25 (Addr.add e 0) (World.drew w) fun f=>
 ay Pr LG [.agg ⟨f⟩] (World.drew w) fun g i=>
 jX g fun j=>
 bB s fun k=>
 kT 25 (Addr.add k 0) j i fun l=>
 bB s fun m=>
 st (Addr.add m 27) (.int .i64 0) l fun n=>
 R (.tuple ⟨[]⟩) n)
 (R (.tuple ⟨[]⟩) (World.drew w))
theorem ack {s:Option Addr} {w:World} {R:Value→World→Prop} (h:KV s w R):Ok Pr GK [.pointer s] w R:=
 aL (m:=⟨true,true⟩) (J:=[]) (L:=[]) aJ Tryz.func264 (by kernel_rfl) ((by kernel_rfl:aK Pr _ _ _ Tryz.f264 _ w R=KV s w R).mpr h)
def PW (d:Int) (x:Int) (w:World) (R:Value→World→Prop):Prop:=
 aA ((decide (d<0)) || (decide (62<d)))
 (R (.int .i64 0) w)
 (gX d ((aF ((shl .i64 1 d) - 1)∧
 R (.int .i64 (iC .i64 x ((shl .i64 1 d) - 1))) w)))
theorem afN {d:Int} {x:Int} {w:World} {R:Value→World→Prop} (h:PW d x w R):Ok Pr PR [.int .i64 d,.int .i64 x] w R:=
 aL (m:=⟨true,true⟩) (J:=[]) (L:=[]) aJ Tryz.func282 (by kernel_rfl) ((by kernel_rfl:aK Pr _ _ _ Tryz.f282 _ w R=PW d x w R).mpr h)
def NW (code:Int) (w:World) (R:Value→World→Prop):Prop:=
 nw pI [.int .i64 code,.string alL] w fun a b=>
 R (.iface jw (.pointer (some a))) b
theorem aep {code:Int} {w:World} {R:Value→World→Prop} (h:NW code w R):Ok Pr yM [.int .i64 code] w R:=
 aL (m:=⟨true,true⟩) (J:=[]) (L:=[]) aJ Tryz.func286 (by kernel_rfl) ((by kernel_rfl:aK Pr _ _ _ Tryz.f286 _ w R=NW code w R).mpr h)
def O1 (eta:Int) (b:ah) (w:World) (R:Value→World→Prop):Prop:=
 aA ((!decide (eta=2)) && (!decide (eta=3)))
 (ay Pr yM [.int .i64 2] w fun a c=>
 R (.tuple ⟨[.slice none 0 0,a]⟩) c)
 ((aF (64 * eta)∧
 aA (!decide ((b.n:Int)=64 * eta))
 (ay Pr yM [.int .i64 3] w fun d e=>
 R (.tuple ⟨[.slice none 0 0,d]⟩) e)
 (j0 Pr bH 256 256 w fun f g=>
 ay Pr AV [.int .i64 1,.slice b.a b.n b.c] g fun i j=>
 aU i fun k=>
 cX (fun (l:Int)=>[(29,some (.int .i64 l))])
 (fun m l n=>aA (decide (l<(k.n:Int)))
 (aQ k.a l k.n
 (an .i64 (Addr.add (base k.a) (Int.toNat l * 1)) n fun o=>
 (aF (2 * eta)∧
 pos (2 * eta) (((0≤l∧l≤IntKind.max .i64)∧
 jz (fun (p:Int)=>[(8,some (.int .i64 p))])
 (fun p q=>aQ f.a (l / (2 * eta)) f.n
 (an .i64 (Addr.add (base f.a) (Int.toNat (l / (2 * eta)) * 1)) q fun s=>
 (aF (s+p)∧
 (0≤s+p∧
 aQ f.a (l / (2 * eta)) f.n
 (st (Addr.add (base f.a) (Int.toNat (l / (2 * eta)) * 1)) (.int .i64 ((s+p) % 3329)) q fun t=>
 (aF (l+1)∧
 m (l+1) t))))))
 (fun u=>
 (aF (2 * eta)∧
 pos (2 * eta) ((0≤l∧
 aA (decide (eta≤l % (2 * eta)))
 ((aF (3329 - o)∧
 u (3329 - o) n))
 (u o n))))))))))
 (R (.tuple ⟨[.slice f.a f.n f.c,.nilIface]⟩) n))
 0 j)))
theorem ae3 {eta:Int} {b:ah} {w:World} {R:Value→World→Prop} (h:O1 eta b w R):Ok Pr OU [.int .i64 eta,.slice b.a b.n b.c] w R:=
 aL (m:=⟨true,true⟩) (J:=[(12,[(8,.int .i64)])]) (L:=[(7,[(29,.int .i64)])]) aJ Tryz.func287 (by kernel_rfl) ((by kernel_rfl:aK Pr _ _ _ Tryz.f287 _ w R=O1 eta b w R).mpr h)
def LJ (a:List Value) (w:World) (R:Value→World→Prop):Prop:=
 nw dQ a w fun b c=>
 nw dQ (zc Pr dQ) c fun d e=>
 cX (fun (f:Int)=>[(4,some (.int .i64 f))])
 (fun g f i=>aA (decide (f<24))
 (iF 25 b i fun j=>
 ay Pr Mw [.agg ⟨j⟩,.int .i64 f] i fun k l=>
 jX k fun m=>
 kT 25 b m l fun n=>
 (aF (f+1)∧
 g (f+1) n))
 (iF 25 b i fun o=>
 kT 25 d o i fun p=>
 iF 25 d p fun q=>
 R (.agg ⟨q⟩) p))
 0 e
theorem acM {a:List Value} {w:World} {R:Value→World→Prop} (h:LJ a w R):Ok Pr LG [.agg ⟨a⟩] w R:=
 aL (m:=⟨true,true⟩) (J:=[]) (L:=[(2,[(4,.int .i64)])]) aJ Tryz.func288 (by kernel_rfl) ((by kernel_rfl:aK Pr _ _ _ Tryz.f288 _ w R=LJ a w R).mpr h)
def KL (x:Int) (kv:Int) (w:World) (R:Value→World→Prop):Prop:=
 lt (A:=Int) (iC .u64 (IntKind.wrap .u64 (kv)) 63) fun a=>
 gX a (gX (IntKind.wrap .u64 (64 - a)) (R (.int .u64 (sw .u64 (shl .u64 x a) (shr .u64 x (IntKind.wrap .u64 (64 - a))))) w))
theorem ab6 {x:Int} {kv:Int} {w:World} {R:Value→World→Prop} (h:KL x kv w R):Ok Pr GH [.int .u64 x,.int .i64 kv] w R:=
 aL (m:=⟨true,true⟩) (J:=[]) (L:=[]) aJ Tryz.func294 (by kernel_rfl) ((by kernel_rfl:aK Pr _ _ _ Tryz.f294 _ w R=KL x kv w R).mpr h)
def My (a:List Value) (round:Int) (w:World) (R:Value→World→Prop):Prop:=
 nw dQ a w fun b c=>
 nw dQ (zc Pr dQ) c fun d e=>
 iF 25 b e fun f=>
 ay Pr Mx [.agg ⟨f⟩] e fun g i=>
 jX g fun j=>
 ay Pr NS [.agg ⟨j⟩] i fun k l=>
 jX k fun m=>
 ay Pr OV [.agg ⟨m⟩] l fun n o=>
 jX n fun p=>
 ay Pr NR [.agg ⟨p⟩] o fun q s=>
 jX q fun t=>
 ay Pr MZ [.agg ⟨t⟩,.int .i64 round] s fun u v=>
 jX u fun x=>
 kT 25 d x v fun y=>
 iF 25 d y fun z=>
 R (.agg ⟨z⟩) y
theorem adu {a:List Value} {round:Int} {w:World} {R:Value→World→Prop} (h:My a round w R):Ok Pr Mw [.agg ⟨a⟩,.int .i64 round] w R:=
 aL (m:=⟨true,true⟩) (J:=[]) (L:=[]) aJ Tryz.func295 (by kernel_rfl) ((by kernel_rfl:aK Pr _ _ _ Tryz.f295 _ w R=My a round w R).mpr h)
def M7 (a:List Value) (round:Int) (w:World) (R:Value→World→Prop):Prop:=
 nw dQ a w fun b c=>
 nw dQ (zc Pr dQ) c fun d e=>
 aA ((decide (round<0)) || (decide (23<round)))
 (iF 25 b e fun f=>
 kT 25 d f e fun g=>
 iF 25 d g fun i=>
 R (.agg ⟨i⟩) g)
 (nw OW (zc Pr OW) e fun j k=>
 kT 24 j ([.int .u64 1,.int .u64 32898,.int .u64 9223372036854808714,.int .u64 9223372039002292224,.int .u64 32907,.int .u64 2147483649,.int .u64 9223372039002292353,.int .u64 9223372036854808585,.int .u64 138,.int .u64 136,.int .u64 2147516425,.int .u64 2147483658,.int .u64 2147516555,.int .u64 9223372036854775947,.int .u64 9223372036854808713,.int .u64 9223372036854808579,.int .u64 9223372036854808578,.int .u64 9223372036854775936,.int .u64 32778,.int .u64 9223372039002259466,.int .u64 9223372039002292353,.int .u64 9223372036854808704,.int .u64 2147483649,.int .u64 9223372039002292232]) k fun l=>
 idx 0 25
 (an .u64 (Addr.add b (Int.toNat 0 * 1)) (World.drew l) fun m=>
 idx round 24
 (an .u64 (Addr.add j (Int.toNat round * 1)) (World.drew l) fun n=>
 idx 0 25
 (st (Addr.add b (Int.toNat 0 * 1)) (.int .u64 (oN .u64 m n)) (World.drew l) fun o=>
 iF 25 b o fun p=>
 kT 25 d p o fun q=>
 iF 25 d q fun s=>
 R (.agg ⟨s⟩) q))))
theorem adO {a:List Value} {round:Int} {w:World} {R:Value→World→Prop} (h:M7 a round w R):Ok Pr MZ [.agg ⟨a⟩,.int .i64 round] w R:=
 aL (m:=⟨true,true⟩) (J:=[]) (L:=[]) aJ Tryz.func296 (by kernel_rfl) ((by kernel_rfl:aK Pr _ _ _ Tryz.f296 _ w R=M7 a round w R).mpr h)
def NY (a:List Value) (w:World) (R:Value→World→Prop):Prop:=
 nw dQ a w fun b c=>
 nw dQ (zc Pr dQ) c fun d e=>
 iF 25 b e fun f=>
 nw dQ (zc Pr dQ) e fun g i=>
 kT 25 g f i fun j=>
 cX (fun (k:Int)=>[(7,some (.int .i64 k))])
 (fun l k m=>aA (decide (k<5))
 (cX (fun (n:Int)=>[(10,some (.int .i64 n))])
 (fun o n p=>aA (decide (n<5))
 ((aF (n+1)∧
 (aF (n+2)∧
 ay Pr wQ [.int .i64 n,.int .i64 k] (World.drew p) fun q s=>
 aY .i64 q fun t=>
 idx t 25
 (an .u64 (Addr.add g (Int.toNat t * 1)) s fun u=>
 ay Pr wQ [.int .i64 (n+1),.int .i64 k] s fun v x=>
 aY .i64 v fun y=>
 (kept (Addr.add g (Int.toNat t * 1)) 1 s x∧
 idx y 25
 (an .u64 (Addr.add b (Int.toNat y * 1)) x fun z=>
 ay Pr wQ [.int .i64 (n+2),.int .i64 k] x fun A B=>
 aY .i64 A fun C=>
 (kept (Addr.add b (Int.toNat y * 1)) 1 x B∧
 (kept (Addr.add g (Int.toNat t * 1)) 1 x B∧
 idx C 25
 (an .u64 (Addr.add b (Int.toNat C * 1)) B fun D=>
 idx t 25
 (st (Addr.add g (Int.toNat t * 1)) (.int .u64 (oN .u64 u (iC .u64 (Jr .u64 z) D))) B fun E=>
 (aF (n+1)∧
 o (n+1) E)))))))))))
 ((aF (k+1)∧
 l (k+1) p)))
 0 m)
 (iF 25 g m fun F=>
 kT 25 d F m fun G=>
 iF 25 d G fun I=>
 R (.agg ⟨I⟩) G))
 0 j
theorem aeq {a:List Value} {w:World} {R:Value→World→Prop} (h:NY a w R):Ok Pr NR [.agg ⟨a⟩] w R:=
 aL (m:=⟨true,true⟩) (J:=[]) (L:=[(3,[(7,.int .i64)]),(6,[(10,.int .i64)])]) aJ Tryz.func297 (by kernel_rfl) ((by kernel_rfl:aK Pr _ _ _ Tryz.f297 _ w R=NY a w R).mpr h)
def O2 (a:List Value) (w:World) (R:Value→World→Prop):Prop:=
 nw dQ a w fun b c=>
 nw dQ (zc Pr dQ) c fun d e=>
 nw dQ (zc Pr dQ) e fun f g=>
 cX (fun (i:Int)=>[(6,some (.int .i64 i))])
 (fun j i k=>aA (decide (i<5))
 (cX (fun (l:Int)=>[(9,some (.int .i64 l))])
 (fun m l n=>aA (decide (l<5))
 (ay Pr wQ [.int .i64 l,.int .i64 i] n fun o p=>
 aY .i64 o fun q=>
 (aF (3 * i)∧
 (aF (l+(3 * i))∧
 ay Pr wQ [.int .i64 (l+(3 * i)),.int .i64 l] p fun s t=>
 aY .i64 s fun u=>
 idx u 25
 (an .u64 (Addr.add b (Int.toNat u * 1)) t fun v=>
 idx q 25
 (st (Addr.add f (Int.toNat q * 1)) (.int .u64 v) t fun x=>
 (aF (l+1)∧
 m (l+1) x))))))
 ((aF (i+1)∧
 j (i+1) n)))
 0 k)
 (iF 25 f k fun y=>
 kT 25 d y k fun z=>
 iF 25 d z fun A=>
 R (.agg ⟨A⟩) z))
 0 g
theorem ae4 {a:List Value} {w:World} {R:Value→World→Prop} (h:O2 a w R):Ok Pr OV [.agg ⟨a⟩] w R:=
 aL (m:=⟨true,true⟩) (J:=[]) (L:=[(3,[(6,.int .i64)]),(6,[(9,.int .i64)])]) aJ Tryz.func298 (by kernel_rfl) ((by kernel_rfl:aK Pr _ _ _ Tryz.f298 _ w R=O2 a w R).mpr h)
def NZ (a:List Value) (w:World) (R:Value→World→Prop):Prop:=
 nw dQ a w fun b c=>
 nw dQ (zc Pr dQ) c fun d e=>
 B5 (fun (f:Int) (g:Int) (i:Int)=>[(3,some (.int .i64 f)),(4,some (.int .i64 g)),(5,some (.int .i64 i))])
 (fun j f g i k=>aA (decide (i≤24))
 (ay Pr wQ [.int .i64 f,.int .i64 g] k fun l m=>
 aY .i64 l fun n=>
 idx n 25
 (an .u64 (Addr.add b (Int.toNat n * 1)) m fun o=>
 (aF (i+1)∧
 (aF (i * (i+1))∧
 ((0≤i * (i+1)∧i * (i+1)≤IntKind.max .i64)∧
 (0≤(i * (i+1)) / 2∧
 ay Pr GH [.int .u64 o,.int .i64 (((i * (i+1)) / 2) % 64)] m fun p q=>
 aY .u64 p fun s=>
 idx n 25
 (st (Addr.add b (Int.toNat n * 1)) (.int .u64 s) q fun t=>
 (aF (2 * f)∧
 (aF (3 * g)∧
 (aF ((2 * f)+(3 * g))∧
 (0≤(2 * f)+(3 * g)∧
 lt (A:=Int) (((2 * f)+(3 * g)) % 5) fun u=>
 (aF (i+1)∧
 j g u (i+1) t))))))))))))
 (iF 25 b k fun v=>
 kT 25 d v k fun x=>
 iF 25 d x fun y=>
 R (.agg ⟨y⟩) x))
 1 0 1 e
theorem aer {a:List Value} {w:World} {R:Value→World→Prop} (h:NZ a w R):Ok Pr NS [.agg ⟨a⟩] w R:=
 aL (m:=⟨true,true⟩) (J:=[]) (L:=[(3,[(3,.int .i64),(4,.int .i64),(5,.int .i64)])]) aJ Tryz.func299 (by kernel_rfl) ((by kernel_rfl:aK Pr _ _ _ Tryz.f299 _ w R=NZ a w R).mpr h)
def Mz (a:List Value) (w:World) (R:Value→World→Prop):Prop:=
 nw dQ a w fun b c=>
 nw dQ (zc Pr dQ) c fun d e=>
 nw DZ (zc Pr DZ) e fun f g=>
 iF 25 b g fun i=>
 cX (fun (j:Int)=>[(9,some (.int .i64 j))])
 (fun k j l=>aA (decide (j<25))
 (atI .u64 i j 25 fun m=>
 (0≤j∧
 idx (j % 5) 5
 (an .u64 (Addr.add f (Int.toNat (j % 5) * 1)) l fun n=>
 idx (j % 5) 5
 (st (Addr.add f (Int.toNat (j % 5) * 1)) (.int .u64 (oN .u64 n m)) l fun o=>
 (aF (j+1)∧
 k (j+1) o)))))
 (cX (fun (p:Int)=>[(21,some (.int .i64 p))])
 (fun q p s=>aA (decide (p<25))
 ((0≤p∧
 idx p 25
 (an .u64 (Addr.add b (Int.toNat p * 1)) (World.drew s) fun t=>
 (aF ((p % 5)+4)∧
 (0≤(p % 5)+4∧
 idx (((p % 5)+4) % 5) 5
 (an .u64 (Addr.add f (Int.toNat (((p % 5)+4) % 5) * 1)) (World.drew s) fun u=>
 (aF ((p % 5)+1)∧
 (0≤(p % 5)+1∧
 idx (((p % 5)+1) % 5) 5
 (an .u64 (Addr.add f (Int.toNat (((p % 5)+1) % 5) * 1)) (World.drew s) fun v=>
 ay Pr GH [.int .u64 v,.int .i64 1] (World.drew s) fun x y=>
 aY .u64 x fun z=>
 (kept (Addr.add f (Int.toNat (((p % 5)+4) % 5) * 1)) 1 (World.drew s) y∧
 (kept (Addr.add b (Int.toNat p * 1)) 1 (World.drew s) y∧
 idx p 25
 (st (Addr.add b (Int.toNat p * 1)) (.int .u64 (oN .u64 t (oN .u64 u z))) y fun A=>
 (aF (p+1)∧
 q (p+1) A)))))))))))))
 (iF 25 b s fun B=>
 kT 25 d B s fun C=>
 iF 25 d C fun D=>
 R (.agg ⟨D⟩) C))
 0 l))
 0 g
theorem adv {a:List Value} {w:World} {R:Value→World→Prop} (h:Mz a w R):Ok Pr Mx [.agg ⟨a⟩] w R:=
 aL (m:=⟨true,true⟩) (J:=[]) (L:=[(3,[(9,.int .i64)]),(8,[(21,.int .i64)])]) aJ Tryz.func300 (by kernel_rfl) ((by kernel_rfl:aK Pr _ _ _ Tryz.f300 _ w R=Mz a w R).mpr h)
def O3 (x:Int) (y:Int) (w:World) (R:Value→World→Prop):Prop:=
 (0≤x∧
 (0≤y∧
 (aF (5 * (y % 5))∧
 (aF ((x % 5)+(5 * (y % 5)))∧
 R (.int .i64 ((x % 5)+(5 * (y % 5)))) w))))
theorem ae5 {x:Int} {y:Int} {w:World} {R:Value→World→Prop} (h:O3 x y w R):Ok Pr wQ [.int .i64 x,.int .i64 y] w R:=
 aL (m:=⟨true,true⟩) (J:=[]) (L:=[]) aJ Tryz.func301 (by kernel_rfl) ((by kernel_rfl:aK Pr _ _ _ Tryz.f301 _ w R=O3 x y w R).mpr h)
end Go.Proofs.YtgjoehgomjgckaaGreatDoor
end
section
set_option linter.unusedVariables false
set_option linter.unusedSimpArgs false
namespace Go.Ev
open Go Go.RowKit
variable {P:Program}
structure aD where
 fp:List Nat
 ok:World→Prop
 kC:∀ w w':World,(∀ b∈fp,w'.heap[b]? = w.heap[b]?)→ok w→ok w'
 lt:∀ w,ok w→∀ b∈fp,b<w.heap.size
def aD.av (b:Nat) (cs:List Value) (t:TypeId):aD where
 fp:=[b]
 ok w:=bX w b cs t
 kC w w' h k:=(h b (by simp)).trans k
 lt w h c hc:=by simp only [List.mem_singleton] at hc; subst hc; exact bX.lt h
def aD.row (e:TypeId) (sz:Nat) (s:ah) (vs:List Value):aD where
 fp:=s.row
 ok w:=Own w 0 e sz s vs
 kC w w' h k:=by
  obtain ⟨a,n,c⟩:=s
  obtain ⟨hl,h1 | ⟨g,cap,cur,h1,h2,h3,h4⟩⟩:=k
  ·exact ⟨hl,.inl h1⟩
  ·refine ⟨hl,.inr ⟨g,cap,cur,h1,h2,?_,h4⟩⟩
   simp only [ah.v,Value.slice.injEq] at h1
   rw [h g (by simp [ah.row,h1.1])]
   exact h3
 lt w h b hb:=(Own.ED h b hb).2
structure ak (w0:World) (S:List Nat) (w:World) (L:List aD):Prop where
 mod:Mod S w0 w
 ok:∀ (k:Nat) (r:aD),L[k]? = some r→r.ok w
 own:∀ (k:Nat) (r:aD),L[k]? = some r→∀ b∈r.fp,b∈S∨w0.heap.size≤b
 apart:∀ (j k:Nat) (r s:aD),j≠k→L[j]? = some r→L[k]? = some s→∀ b∈r.fp,b∉s.fp
section
variable {w0 w w':World} {S:List Nat} {L:List aD} {r r':aD} {k:Nat}
theorem ak.start (w:World):ak w [] w []:=⟨Mod.refl _ _,fun k r h=>by simp at h,fun k r h=>by simp at h,fun j k r s _ h=>by simp at h⟩
theorem ak.EF {r:aD} {w:World} (h:r.ok w):ak w r.fp w [r]:=by
 have e:∀ {k:Nat} {s:aD},[r][k]? = some s→k=0∧s=r:=fun {k s} h=>by
  cases k with
  | zero=>simp at h; exact ⟨rfl,h.symm⟩
  | succ k=>simp at h
 refine ⟨Mod.refl _ _,fun k s hs=>?_,fun k s hs b hb=>?_,fun j k s t lI hs ht=>?_⟩
 ·rw [(e hs).2]; exact h
 ·rw [(e hs).2] at hb; exact .inl hb
 ·exact absurd ((e hs).1.trans (e ht).1.symm) lI
theorem ak.get (H:ak w0 S w L) (k:Nat) {r:aD} (hk:L[k]? = some r):r.ok w:=H.ok k r hk
theorem ak.frame (H:ak w0 S w L) (m:Mod [] w w'):ak w0 S w' L:=
 ⟨H.mod.then m,fun k r hk=>r.kC w w' (fun b hb=>m.block b (r.lt w (H.ok k r hk) b hb) (by simp)) (H.ok k r hk),H.own,H.apart⟩
theorem ak.push (H:ak w0 S w L) (m:Mod [] w w') (hr:r.ok w') (hf:∀ b∈r.fp,w.heap.size≤b):ak w0 S w' (L ++ [r]):=by
 have H':=H.frame m
 have e:∀ {k:Nat} {s:aD},(L ++ [r])[k]? = some s→(L[k]? = some s∧k<L.length)∨(s=r∧k=L.length):=fun {k s} h=>by
  rcases Nat.lt_or_ge k L.length with hk | hk
  ·rw [List.getElem?_append_left hk] at h; exact .inl ⟨h,hk⟩
  ·rw [List.getElem?_append_right hk] at h
   rcases Nat.eq_zero_or_pos (k - L.length) with e | e
   ·rw [e] at h; simp at h; exact .inr ⟨h.symm,by omega⟩
   ·rw [List.getElem?_eq_none (by simp; omega)] at h; cases h
 refine ⟨H'.mod,fun k s hs=>?_,fun k s hs b hb=>?_,fun j k s t lI hs ht b hb iO=>?_⟩
 ·rcases e hs with ⟨h,_⟩ | ⟨rfl,_⟩
  ·exact H'.ok k s h
  ·exact hr
 ·rcases e hs with ⟨h,_⟩ | ⟨rfl,_⟩
  ·exact H.own k s h b hb
  ·exact .inr (Nat.le_trans H.mod.size (hf b hb))
 ·rcases e hs with ⟨h,hj⟩ | ⟨rfl,hj⟩
  ·rcases e ht with ⟨h',_⟩ | ⟨rfl,_⟩
   ·exact H.apart j k s t lI h h' b hb iO
   ·have:=s.lt w (H.ok j s h) b hb
    have:=hf b iO
    omega
  ·rcases e ht with ⟨h',_⟩ | ⟨rfl,hk⟩
   ·have:=t.lt w (H.ok k t h') b iO
    have:=hf b hb
    omega
   ·omega
theorem ak.iP {T:List Nat} (H:ak w0 S w L) (k:Nat) {r r':aD} (hk:L[k]? = some r) (m:Mod T w w') (hT:∀ b∈T,b∈r.fp∨w.heap.size≤b) (hr:r'.ok w') (hf:∀ b∈r'.fp,b∈r.fp∨w.heap.size≤b) :
  ak w0 S w' (L.set k r'):=by
 have bO:k<L.length:=(List.getElem?_eq_some_iff.1 hk).1
 have e:∀ {j:Nat} {s:aD},(L.set k r')[j]? = some s→(L[j]? = some s∧j≠k)∨(s=r'∧j=k):=fun {j s} h=>by
  rw [List.getElem?_set] at h
  split at h
  ·rename_i e
   subst e
   exact .inr ⟨(Option.some.inj h).symm,rfl⟩
  ·rename_i hn; exact .inl ⟨h,fun e=>hn e.symm⟩
 refine ⟨H.mod.trans' m fun b hb=>?_,fun j s hs=>?_,fun j s hs b hb=>?_,fun i j s t AB hs ht b hb iO=>?_⟩
 ·rcases hT b hb with h | h
  ·exact H.own k r hk b h
  ·exact .inr (Nat.le_trans H.mod.size h)
 ·rcases e hs with ⟨h,hj⟩ | ⟨rfl,_⟩
  ·refine s.kC w w' (fun b hb=>m.block b (s.lt w (H.ok j s h) b hb) fun hbT=>?_) (H.ok j s h)
   rcases hT b hbT with h1 | h1
   ·exact H.apart j k s r hj h hk b hb h1
   ·have:=s.lt w (H.ok j s h) b hb; omega
  ·exact hr
 ·rcases e hs with ⟨h,_⟩ | ⟨rfl,_⟩
  ·exact H.own j s h b hb
  ·rcases hf b hb with h1 | h1
   ·exact H.own k r hk b h1
   ·exact .inr (Nat.le_trans H.mod.size h1)
 ·have old:∀ {j:Nat} {s:aD} {b:Nat},L[j]? = some s→j≠k→b∈s.fp→b∉r'.fp:=fun {j s b} h hj hb iO=>by
   rcases hf b iO with h1 | h1
   ·exact H.apart j k s r hj h hk b hb h1
   ·have:=s.lt w (H.ok j s h) b hb; omega
  rcases e hs with ⟨h,hi⟩ | ⟨rfl,hi⟩
  ·rcases e ht with ⟨h',_⟩ | ⟨rfl,_⟩
   ·exact H.apart i j s t AB h h' b hb iO
   ·exact old h hi hb iO
  ·rcases e ht with ⟨h',hj⟩ | ⟨rfl,hj⟩
   ·exact old h' hj iO hb
   ·omega
theorem ak.take (H:ak w0 S w L) (n:Nat):ak w0 S w (L.take n):=by
 have e:∀ {k:Nat} {s:aD},(L.take n)[k]? = some s→L[k]? = some s:=fun {k s} h=>by
  rw [List.getElem?_take] at h
  split at h
  ·exact h
  ·cases h
 exact ⟨H.mod,fun k s hs=>H.ok k s (e hs),fun k s hs=>H.own k s (e hs),fun j k s t lI hs ht=>H.apart j k s t lI (e hs) (e ht)⟩
theorem ak.drew (H:ak w0 S w L):ak w0 S w.drew L:=H.frame (Mod.drew _ _)
end
section
variable {w0 w:World} {S:List Nat} {L:List aD}
theorem ak.nw (H:ak w0 S w L) {t:TypeId} {cs:List Value} {K:Addr→World→Prop} (h:∀ b w',ak w0 S w' (L ++ [.av b cs t])→w0.heap.size≤b→K ⟨b,0,none⟩ w'):nw t cs w K:=
 qM fun b w' hb h1 h2 _=>h b w' (H.push h2 h1 (by simp [aD.av,hb])) (hb ▸ H.mod.size)
theorem ak.av (H:ak w0 S w L) (k:Nat) {b:Nat} {cs:List Value} {t:TypeId} (hk:L[k]? = some (.av b cs t)):bX w b cs t:=H.ok k _ hk
theorem ak.st (H:ak w0 S w L) (k:Nat) {b i:Nat} {a:Addr} {v:Value} {cs:List Value} {t:TypeId} {K:World→Prop} (hk:L[k]? = some (.av b cs t)) (ha:a=⟨b,i,none⟩) (hi:i<cs.length) (h1:ey v=true)
  (h:∀ w',ak w0 S w' (L.set k (.av b (cs.set i v) t))→K w'):st a v w K:=by
 subst ha
 exact RN (H.av k hk) hi h1 fun w' h2 h3 _=>h w' (H.iP k hk h3 (fun c hc=>.inl hc) h2 (fun c hc=>.inl hc))
theorem ak.kT (H:ak w0 S w L) (k:Nat) {b n:Nat} {l cs:List Value} {t:TypeId} {K:World→Prop} (hk:L[k]? = some (.av b cs t)) (hl:l.length=n) (hn:n=cs.length) (h1:∀ v∈l,ey v=true)
  (h:∀ w',ak w0 S w' (L.set k (.av b l t))→K w'):kT n ⟨b,0,none⟩ l w K:=
 X7 (H.av k hk) hl (Nat.le_of_eq hn) h1 fun w' h2 h3 _=>by
  rw [hn,List.drop_length,List.append_nil] at h2
  exact h w' (H.iP k hk h3 (fun c hc=>.inl hc) h2 (fun c hc=>.inl hc))
theorem ak.iF (H:ak w0 S w L) (k:Nat) {b n:Nat} {cs:List Value} {t:TypeId} {K:List Value→Prop} (hk:L[k]? = some (.av b cs t)) (hn:n=cs.length) (h:K cs):iF n ⟨b,0,none⟩ w K:=
 X8 (H.av k hk) (Nat.le_of_eq hn) (by rw [hn,List.take_length]; exact h)
theorem ak.cell (H:ak w0 S w L) (k:Nat) {b i:Nat} {a:Addr} {v:Value} {cs:List Value} {t:TypeId} (hk:L[k]? = some (.av b cs t)) (ha:a=⟨b,i,none⟩) (hv:cs[i]? = some v):w.cell? a=some v:=by
 subst ha; exact ((H.av k hk).cell i).trans hv
theorem ak.an (H:ak w0 S w L) (k:Nat) {b i:Nat} {a:Addr} {q:IntKind} {n:Int} {cs:List Value} {t:TypeId} {K:Int→Prop} (hk:L[k]? = some (.av b cs t)) (ha:a=⟨b,i,none⟩) (hv:cs[i]? = some (.int q n)) (h:K n):an q a w K:=
 ⟨n,H.cell k hk ha hv,h⟩
theorem ak.mH (H:ak w0 S w L) (k:Nat) {b i:Nat} {a:Addr} {n:Bool} {cs:List Value} {t:TypeId} {K:Bool→Prop} (hk:L[k]? = some (.av b cs t)) (ha:a=⟨b,i,none⟩) (hv:cs[i]? = some (.bool n)) (h:K n):mH a w K:=
 ⟨n,H.cell k hk ha hv,h⟩
theorem ak.mo (H:ak w0 S w L) (k:Nat) {b i:Nat} {a:Addr} {n:Option Addr} {cs:List Value} {t:TypeId} {K:Option Addr→Prop} (hk:L[k]? = some (.av b cs t)) (ha:a=⟨b,i,none⟩) (hv:cs[i]? = some (.pointer n)) (h:K n):mo a w K:=
 ⟨n,H.cell k hk ha hv,h⟩
theorem ak.ax (H:ak w0 S w L) (k:Nat) {b i:Nat} {a:Addr} {n:ah} {cs:List Value} {t:TypeId} {K:ah→Prop} (hk:L[k]? = some (.av b cs t)) (ha:a=⟨b,i,none⟩) (hv:cs[i]? = some (.slice n.a n.n n.c)) (h:K n):ax a w K:=
 ⟨n,H.cell k hk ha hv,h⟩
theorem ak.kept (H:ak w0 S w L) {w':World} (m:Mod [] w w') (k:Nat) {b i:Nat} {a:Addr} {cs:List Value} {t:TypeId} (hk:L[k]? = some (.av b cs t)) (ha:a=⟨b,i,none⟩) (n:Nat):kept a n w w':=by
 subst ha
 exact Ep m (H.av k hk).lt (by simp)
end
theorem ad (b i:Nat):Addr.add ⟨b,0,none⟩ (i * 1)=⟨b,i,none⟩:=by rw [tM,Nat.zero_add,Nat.mul_one]
theorem au (b i:Nat):Addr.add ⟨b,0,none⟩ i=⟨b,i,none⟩:=by rw [tM,Nat.zero_add]
section
variable {w0 w:World} {S:List Nat} {L:List aD}
theorem Own.lo {w:World} {lo:Nat} {e:TypeId} {sz:Nat} {s:ah} {vs:List Value} (h:Own w lo e sz s vs):Own w 0 e sz s vs:=by
 obtain ⟨hl,h1 | ⟨g,cap,cur,h1,h2,h3⟩⟩:=h
 ·exact ⟨hl,.inl h1⟩
 ·exact ⟨hl,.inr ⟨g,cap,cur,h1,Nat.zero_le _,h3⟩⟩
theorem ak.qV (H:ak w0 S w L) (k:Nat) {e:TypeId} {sz:Nat} {s:ah} {vs:List Value} (hk:L[k]? = some (.row e sz s vs)):Own w 0 e sz s vs:=H.ok k _ hk
theorem ak.iZ (H:ak w0 S w L) (e:TypeId) (sz:Nat):ak w0 S w (L ++ [.row e sz ⟨none,0,0⟩ []]):=
 H.push (Mod.refl _ _) (Own.nil w 0 e sz) (by simp [aD.row,ah.row])
theorem ak.app (H:ak w0 S w L) (k:Nat) {t ty e:TypeId} {sz bytes:Nat} {s x:ah} {vs us:List Value} {K:ah→World→Prop} (cD:fk P t e sz bytes) (hk:L[k]? = some (.row e sz s vs)) (hx:Sl w x sz us)
  (h1:∀ u∈us,ey u=true) (hb:(s.n+x.n) * bytes≤140737488355328) (hm:s.n+x.n≤9223372036854775807)
  (h:∀ s' w',ak w0 S w' (L.set k (.row e sz s' (vs ++ us)))→s'.n=s.n+x.n→K s' w'):cJ P [t,t] ty [.slice s.a s.n s.c,.slice x.a x.n x.c] w K:=
 akO cD (H.qV k hk) hx h1 hb hm (Nat.zero_le _) fun s' w' h2 h3 h4 h5=>h s' w' (H.iP k hk h3 (fun b hb=>.inl hb) h2 h5) h4
end
theorem zo {A1:Type} {mk:A1→Fr} {body:(A1→World→Prop)→A1→World→Prop} {y1:A1} {v:World} (I:A1→World→Prop) (μ:A1→World→Nat) (hi:I y1 v)
  (hb:∀ (again:A1→World→Prop) x1 w,I x1 w→(∀ gZ w',I gZ w'→μ gZ w'<μ x1 w→again gZ w')→body again x1 w):cX mk body y1 v:=by
 intro X hX
 suffices ∀ n x1 w,μ x1 w<n→I x1 w→X (mk x1) w from this _ y1 v (Nat.lt_succ_self _) hi
 intro n
 induction n with
 | zero=>intro x1 w h; omega
 | succ n ih=>intro x1 w hn hI; exact hX x1 w (hb _ x1 w hI fun gZ w' h1 h2=>ih gZ w' (by omega) h1)
theorem xq {A1 A2:Type} {mk:A1→A2→Fr} {body:(A1→A2→World→Prop)→A1→A2→World→Prop} {y1:A1} {y2:A2} {v:World} (I:A1→A2→World→Prop) (μ:A1→A2→World→Nat) (hi:I y1 y2 v)
  (hb:∀ (again:A1→A2→World→Prop) x1 x2 w,I x1 x2 w→(∀ gZ jT w',I gZ jT w'→μ gZ jT w'<μ x1 x2 w→again gZ jT w')→body again x1 x2 w):iA mk body y1 y2 v:=by
 intro X hX
 suffices ∀ n x1 x2 w,μ x1 x2 w<n→I x1 x2 w→X (mk x1 x2) w from this _ y1 y2 v (Nat.lt_succ_self _) hi
 intro n
 induction n with
 | zero=>intro x1 x2 w h; omega
 | succ n ih=>intro x1 x2 w hn hI; exact hX x1 x2 w (hb _ x1 x2 w hI fun gZ jT w' h1 h2=>ih gZ jT w' (by omega) h1)
theorem Ix {A1 A2 A3:Type} {mk:A1→A2→A3→Fr} {body:(A1→A2→A3→World→Prop)→A1→A2→A3→World→Prop} {y1:A1} {y2:A2} {y3:A3} {v:World} (I:A1→A2→A3→World→Prop) (μ:A1→A2→A3→World→Nat)
  (hi:I y1 y2 y3 v)
  (hb:∀ (again:A1→A2→A3→World→Prop) x1 x2 x3 w,I x1 x2 x3 w→(∀ gZ jT mJ w',I gZ jT mJ w'→μ gZ jT mJ w'<μ x1 x2 x3 w→again gZ jT mJ w')→body again x1 x2 x3 w):B5 mk body y1 y2 y3 v:=by
 intro X hX
 suffices ∀ n x1 x2 x3 w,μ x1 x2 x3 w<n→I x1 x2 x3 w→X (mk x1 x2 x3) w from this _ y1 y2 y3 v (Nat.lt_succ_self _) hi
 intro n
 induction n with
 | zero=>intro x1 x2 x3 w h; omega
 | succ n ih=>intro x1 x2 x3 w hn hI; exact hX x1 x2 x3 w (hb _ x1 x2 x3 w hI fun gZ jT mJ w' h1 h2=>ih gZ jT mJ w' (by omega) h1)
theorem dm {mk:Int→Fr} {body:(Int→World→Prop)→Int→World→Prop} {v:World} {y:Int} (lo hi:Nat) (I:Nat→World→Prop) (hy:y=(lo:Int)) (hle:lo≤hi) (h0:I lo v)
  (step:∀ (again:Int→World→Prop) (i:Nat) w,lo≤i→i<hi→I i w→(∀ w',I (i+1) w'→again ((i:Int)+1) w')→body again (i:Int) w)
  (done:∀ (again:Int→World→Prop) w,I hi w→body again (hi:Int) w):cX mk body y v:=by
 subst hy
 refine zo (fun x w=>∃ i:Nat,x=(i:Int)∧lo≤i∧i≤hi∧I i w) (fun x _=>hi - x.toNat) ⟨lo,rfl,Nat.le_refl _,hle,h0⟩ ?_
 rintro again x w ⟨i,rfl,h1,h2,h3⟩ aM
 rcases Nat.lt_or_ge i hi with h | h
 ·exact step again i w h1 h h3 fun w' h4=>aM _ w' ⟨i+1,by simp,by omega,by omega,h4⟩ (by omega)
 ·have:i=hi:=by omega
  subst this
  exact done again w h3
theorem k7 {A:Type} {mk:A→Int→Fr} {body:(A→Int→World→Prop)→A→Int→World→Prop} {v:World} {x:A} {y:Int} (lo hi:Nat) (I:Nat→A→World→Prop) (hy:y=(lo:Int)) (hle:lo≤hi) (h0:I lo x v)
  (step:∀ (again:A→Int→World→Prop) (i:Nat) a w,lo≤i→i<hi→I i a w→(∀ a' w',I (i+1) a' w'→again a' ((i:Int)+1) w')→body again a (i:Int) w)
  (done:∀ (again:A→Int→World→Prop) a w,I hi a w→body again a (hi:Int) w):iA mk body x y v:=by
 subst hy
 refine xq (fun a x w=>∃ i:Nat,x=(i:Int)∧lo≤i∧i≤hi∧I i a w) (fun _ x _=>hi - x.toNat) ⟨lo,rfl,Nat.le_refl _,hle,h0⟩ ?_
 rintro again a x w ⟨i,rfl,h1,h2,h3⟩ aM
 rcases Nat.lt_or_ge i hi with h | h
 ·exact step again i a w h1 h h3 fun a' w' h4=>aM a' _ w' ⟨i+1,by simp,by omega,by omega,h4⟩ (by omega)
 ·have:i=hi:=by omega
  subst this
  exact done again a w h3
theorem ajC {A B:Type} {mk:A→B→Int→Fr} {body:(A→B→Int→World→Prop)→A→B→Int→World→Prop} {v:World} {x:A} {z:B} {y:Int} (lo hi:Nat) (I:Nat→A→B→World→Prop) (hy:y=(lo:Int)) (hle:lo≤hi) (h0:I lo x z v)
  (step:∀ (again:A→B→Int→World→Prop) (i:Nat) a b w,lo≤i→i<hi→I i a b w→(∀ a' b' w',I (i+1) a' b' w'→again a' b' ((i:Int)+1) w')→body again a b (i:Int) w)
  (done:∀ (again:A→B→Int→World→Prop) a b w,I hi a b w→body again a b (hi:Int) w):B5 mk body x z y v:=by
 subst hy
 refine Ix (fun a b x w=>∃ i:Nat,x=(i:Int)∧lo≤i∧i≤hi∧I i a b w) (fun _ _ x _=>hi - x.toNat) ⟨lo,rfl,Nat.le_refl _,hle,h0⟩ ?_
 rintro again a b x w ⟨i,rfl,h1,h2,h3⟩ aM
 rcases Nat.lt_or_ge i hi with h | h
 ·exact step again i a b w h1 h h3 fun a' b' w' h4=>aM a' b' _ w' ⟨i+1,by simp,by omega,by omega,h4⟩ (by omega)
 ·have:i=hi:=by omega
  subst this
  exact done again a b w h3
theorem jJ {mk:Fr} {rest:World→Prop} {first:(World→Prop)→Prop} (h:∀ go:World→Prop,(∀ w,rest w→go w)→first go):jL mk rest first:=
 fun K hK=>h _ fun w hw=>hK w hw
theorem jK {A1:Type} {mk:A1→Fr} {rest:A1→World→Prop} {first:(A1→World→Prop)→Prop} (h:∀ go:A1→World→Prop,(∀ x w,rest x w→go x w)→first go):jz mk rest first:=
 fun K hK=>h _ fun x w hw=>hK x w hw
theorem uZ {A1 A2:Type} {mk:A1→A2→Fr} {rest:A1→A2→World→Prop} {first:(A1→A2→World→Prop)→Prop} (h:∀ go:A1→A2→World→Prop,(∀ x y w,rest x y w→go x y w)→first go):tQ mk rest first:=
 fun K hK=>h _ fun x y w hw=>hK x y w hw
def up {A:Type} (f:A→Nat→A) (s:A) (n:Nat):A:=(List.range n).foldl f s
theorem akR {A:Type} (f:A→Nat→A) (s:A):up f s 0=s:=rfl
theorem mC {A:Type} (f:A→Nat→A) (s:A) (n:Nat):up f s (n+1)=f (up f s n) n:=by simp [up,List.range_succ]
theorem eE {k:IntKind} {n:Int} {K:Int→Prop} (h:K n):aY k (.int k n) K:=⟨n,rfl,h⟩
theorem bz {b:Bool} {K:Bool→Prop} (h:K b):aW (.bool b) K:=⟨b,rfl,h⟩
theorem ZW {p:Option Addr} {K:Option Addr→Prop} (h:K p):CK (.pointer p) K:=⟨p,rfl,h⟩
theorem bW {s:ah} {K:ah→Prop} (h:K s):aU (.slice s.a s.n s.c) K:=⟨s,rfl,h⟩
end Go.Ev
end
section
set_option linter.unusedVariables false
set_option linter.unusedSimpArgs false
namespace Go.Ev
open Go Go.RowKit
abbrev B8:=BitVec 8
abbrev aI:=BitVec 64
def u8 (b:B8):Value:=.int .u8 (b.toNat:Int)
def u64 (x:aI):Value:=.int .u64 (x.toNat:Int)
def bp (l:List B8):List Value:=l.map u8
def cQ (l:List aI):List Value:=l.map u64
theorem Xn (l:List B8):∀ v∈bp l,ey v=true:=by
 intro v hv
 obtain ⟨b,-,rfl⟩:=List.mem_map.1 hv
 rfl
theorem WI (l:List aI):∀ v∈cQ l,ey v=true:=by
 intro v hv
 obtain ⟨b,-,rfl⟩:=List.mem_map.1 hv
 rfl
@[simp] theorem yW (l:List B8):(bp l).length=l.length:=by simp [bp]
@[simp] theorem yP (l:List aI):(cQ l).length=l.length:=by simp [cQ]
theorem Xo (l:List aI) (i:Nat) (x:aI):(cQ l).set i (u64 x)=cQ (l.set i x):=by simp [cQ,List.map_set]
theorem Q9 (l:List aI) (i:Nat) (h:i<l.length):(cQ l)[i]? = some (.int .u64 ((l.getD i 0).toNat:Int)):=by
 simp [cQ,u64,h]
theorem akS (l:List B8) (i:Nat) (h:i<l.length):(bp l)[i]? = some (.int .u8 ((l.getD i 0).toNat:Int)):=by
 simp [bp,u8,h]
theorem PX (a b:List B8):bp (a ++ b)=bp a ++ bp b:=by simp [bp]
theorem wrap_u64 (n:Int):IntKind.wrap .u64 n=n % 18446744073709551616:=by simp [IntKind.wrap,IntKind.signed,IntKind.bits]
theorem wrap_u8 (n:Int):IntKind.wrap .u8 n=n % 256:=by simp [IntKind.wrap,IntKind.signed,IntKind.bits]
theorem O4 (x:aI):IntKind.wrap .u64 (x.toNat:Int)=x.toNat:=by
 rw [wrap_u64]; have:=x.isLt; omega
theorem ah0 (x:B8):IntKind.wrap .u8 (x.toNat:Int)=x.toNat:=by
 rw [wrap_u8]; have:=x.isLt; omega
theorem wS {n:Nat} (x:BitVec n):BitVec.ofInt n (x.toNat:Int)=x:=by simp
theorem zK (x y:aI):oN .u64 (x.toNat:Int) (y.toNat:Int)=((x ^^^ y).toNat:Int):=by
 unfold oN
 rw [show IntKind.bits .u64=64 from rfl,wS,wS,O4]
theorem Sr (x y:aI):iC .u64 (x.toNat:Int) (y.toNat:Int)=((x &&& y).toNat:Int):=by
 unfold iC
 rw [show IntKind.bits .u64=64 from rfl,wS,wS,O4]
theorem SQ (x y:aI):sw .u64 (x.toNat:Int) (y.toNat:Int)=((x ||| y).toNat:Int):=by
 unfold sw
 rw [show IntKind.bits .u64=64 from rfl,wS,wS,O4]
theorem anm (x:aI):Jr .u64 (x.toNat:Int)=((~~~ x).toNat:Int):=by
 unfold Jr
 rw [show (if IntKind.signed .u64=true then (-1:Int) else IntKind.max .u64)=(((BitVec.allOnes 64).toNat:Nat):Int) from rfl,zK,BitVec.allOnes_xor]
theorem an7 (x y:B8):oN .u8 (x.toNat:Int) (y.toNat:Int)=((x ^^^ y).toNat:Int):=by
 unfold oN
 rw [show IntKind.bits .u8=8 from rfl,wS,wS,ah0]
theorem Jl (x:aI) (k:Nat):shl .u64 (x.toNat:Int) (k:Int)=((x <<< k).toNat:Int):=by
 unfold shl
 rw [wrap_u64,show IntKind.bits .u64=64 from rfl,Int.toNat_natCast,BitVec.toNat_shiftLeft,Nat.shiftLeft_eq]
 have e:(((x.toNat * 2 ^ k % 2 ^ 64:Nat)):Int)=((x.toNat * 2 ^ (min k 64) % 2 ^ 64:Nat):Int):=by
  rcases Nat.le_total k 64 with h | h
  ·rw [Nat.min_eq_left h]
  ·rw [Nat.min_eq_right h]
   obtain ⟨j,rfl⟩:=Nat.exists_eq_add_of_le h
   rw [Nat.pow_add,Nat.mul_left_comm,Nat.mul_mod_right,Nat.mul_mod_left]
 rw [e,Int.natCast_emod,Int.natCast_mul,Int.natCast_pow]
 have g8:((2 ^ 64:Nat):Int)=18446744073709551616:=by decide
 rw [g8]
 rfl
theorem zL (x:aI) (k:Nat):shr .u64 (x.toNat:Int) (k:Int)=((x >>> k).toNat:Int):=by
 unfold shr
 rw [show IntKind.bits .u64=64 from rfl,Int.toNat_natCast,BitVec.toNat_ushiftRight,Nat.shiftRight_eq_div_pow,Int.fdiv_eq_ediv_of_nonneg _ (by exact Int.le_of_lt (Int.pow_pos (by decide)))]
 have e:x.toNat / 2 ^ k=x.toNat / 2 ^ (min k 64):=by
  rcases Nat.le_total k 64 with h | h
  ·rw [Nat.min_eq_left h]
  ·rw [Nat.min_eq_right h,Nat.div_eq_of_lt x.isLt,Nat.div_eq_of_lt (Nat.lt_of_lt_of_le x.isLt (Nat.pow_le_pow_right (by decide) h))]
 rw [e,Int.natCast_ediv,Int.natCast_pow]
 rfl
theorem an8 (b:B8):IntKind.wrap .u64 (b.toNat:Int)=((b.setWidth 64).toNat:Int):=by
 rw [wrap_u64]; have:=b.isLt; rw [BitVec.toNat_setWidth]; omega
theorem aaq (x:aI):IntKind.wrap .u8 (x.toNat:Int)=((x.setWidth 8).toNat:Int):=by
 rw [wrap_u8]; simp
theorem toNat_eq {n:Nat} {x y:BitVec n}:((x.toNat:Int)=(y.toNat:Int))↔x=y:=by
 constructor
 ·intro h; exact BitVec.eq_of_toNat_eq (by omega)
 ·intro h; rw [h]
def rotl (x:aI) (k:Nat):aI:=(x <<< (k % 64)) ||| (x >>> (64 - k % 64))
def Bytes (w:World) (s:ah) (l:List B8):Prop:=Sl w s 1 (bp l)
theorem Bytes.len {w:World} {s:ah} {l:List B8} (h:Bytes w s l):l.length=s.n:=by simpa using Sl.len h
theorem Bytes.ld {w:World} {s:ah} {l:List B8} (h:Bytes w s l) {i:Nat} (hi:i<l.length) {K:Int→Prop} (hk:K ((l.getD i 0).toNat:Int)) :
  aQ s.a (i:Int) s.n (an .u8 (Addr.add (base s.a) (Int.toNat (i:Int) * 1)) w K):=by
 have hl:=h.len
 refine ⟨⟨h.pre (by omega),by omega,by omega⟩,_,?_,hk⟩
 rw [Int.toNat_natCast,Nat.mul_one]
 exact h.cell i _ (akS l i hi)
section
variable {w0 w:World} {S:List Nat} {L:List aD}
theorem ak.rW (H:ak w0 S w L) (k:Nat) {b i:Nat} {a:Addr} {cs:List aI} {t:TypeId} {K:Int→Prop} (hk:L[k]? = some (.av b (cQ cs) t)) (ha:a=⟨b,i,none⟩) (hi:i<cs.length) (h:K ((cs.getD i 0).toNat:Int)):Ev.an .u64 a w K:=
 H.an k hk ha (Q9 cs i hi) h
theorem ak.Cu (H:ak w0 S w L) (k:Nat) {b i:Nat} {a:Addr} {n:Int} {cs:List aI} {t:TypeId} {K:World→Prop} (x:aI) (hk:L[k]? = some (.av b (cQ cs) t)) (ha:a=⟨b,i,none⟩) (hi:i<cs.length) (hn:n=(x.toNat:Int))
  (h:∀ w',ak w0 S w' (L.set k (.av b (cQ (cs.set i x)) t))→K w'):Ev.st a (.int .u64 n) w K:=by
 subst hn
 refine H.st k hk ha (by simpa using hi) rfl fun w' H'=>h w' ?_
 rw [← Xo]; exact H'
theorem ak.lZ (H:ak w0 S w L) (k:Nat) {b n:Nat} {cs:List aI} {t:TypeId} {K:List Value→Prop} (hk:L[k]? = some (.av b (cQ cs) t)) (hn:cs.length=n) (h:K (cQ cs)):Ev.iF n ⟨b,0,none⟩ w K:=
 H.iF k hk (by simp [hn]) h
theorem ak.tR (H:ak w0 S w L) (k:Nat) {b n:Nat} {l cs:List aI} {t:TypeId} {K:World→Prop} (hk:L[k]? = some (.av b (cQ cs) t)) (hl:l.length=n) (hn:cs.length=n)
  (h:∀ w',ak w0 S w' (L.set k (.av b (cQ l) t))→K w'):Ev.kT n ⟨b,0,none⟩ (cQ l) w K:=
 H.kT k hk (by simp [hl]) (by simp [hn]) (WI l) h
end
theorem yX {l:List aI} {K:List Value→Prop} (h:K (cQ l)):jX (.agg ⟨cQ l⟩) K:=⟨_,rfl,h⟩
end Go.Ev
end
section
set_option linter.unusedVariables false
set_option linter.unusedSimpArgs false
namespace Go.Proofs.YtgjoehgomjgckaaGreatDoor
open Go Go.Ev
abbrev g (a:List aI) (i:Nat):aI:=a.getD i 0
def fY:List aI:=List.replicate 25 0
def z24:List aI:=List.replicate 24 0
def z5:List aI:=List.replicate 5 0
theorem zS:zc Pr dQ=cQ fY:=by kernel_rfl
theorem an9:zc Pr OW=cQ z24:=by kernel_rfl
theorem zc5:zc Pr DZ=cQ z5:=by kernel_rfl
theorem UQ (x:aI) (k:Nat) (w:World):Ok Pr GH [.int .u64 (x.toNat:Int),.int .i64 (k:Int)] w fun v w'=>v=.int .u64 ((rotl x k).toNat:Int)∧w'=w:=by
 refine ab6 ?_
 unfold KL
 have e1:iC .u64 (IntKind.wrap .u64 (k:Int)) (63:Int)=((k % 64:Nat):Int):=by
  rw [wrap_u64,show ((k:Int) % 18446744073709551616)=((BitVec.ofNat 64 k).toNat:Int) by rw [BitVec.toNat_ofNat]; omega,show (63:Int)=((63#64).toNat:Int) from rfl,Sr,BitVec.toNat_and,
   show (63#64).toNat=2 ^ 6 - 1 from rfl,Nat.and_two_pow_sub_one_eq_mod,BitVec.toNat_ofNat]
  omega
 have e2:IntKind.wrap .u64 ((64:Int) - ((k % 64:Nat):Int))=((64 - k % 64:Nat):Int):=by
  rw [wrap_u64]; omega
 rw [e1,Go.Ev.lt,e2]
 refine ⟨?_,rfl⟩
 rw [Jl,zL,SQ]
 rfl
theorem A8 (x y:Nat) (hx:x<1000) (hy:y<1000) (w:World):Ok Pr wQ [.int .i64 (x:Int),.int .i64 (y:Int)] w fun v w'=>v=.int .i64 ((x % 5+5 * (y % 5):Nat):Int)∧w'=w:=by
 refine ae5 ?_
 unfold O3 aF
 refine ⟨by omega,by omega,⟨by omega,by omega⟩,⟨by omega,by omega⟩,?_,rfl⟩
 rfl
def X9 (a c:List aI) (i:Nat):List aI:=c.set (i % 5) (g c (i % 5) ^^^ g a i)
def rX (a:List aI) (n:Nat):List aI:=up (X9 a) z5 n
def WJ (c b:List aI) (i:Nat):List aI:=b.set i (g b i ^^^ (g c ((i % 5+4) % 5) ^^^ rotl (g c ((i % 5+1) % 5)) 1))
def qP (a:List aI) (n:Nat):List aI:=up (WJ (rX a 25)) a n
theorem y8 {A:Type} (f:List A→Nat→List A) (hf:∀ l i,(f l i).length=l.length) (s:List A) (n:Nat):(up f s n).length=s.length:=by
 induction n with
 | zero=>rfl
 | succ n ih=>rw [mC,hf,ih]
theorem O5 (a:List aI) (n:Nat):(rX a n).length=5:=y8 _ (fun _ _=>List.length_set) _ _
theorem DM (a:List aI) (n:Nat):(qP a n).length=a.length:=y8 _ (fun _ _=>List.length_set) _ _
theorem aiH (a:List aI) (n:Nat):rX a (n+1)=X9 a (rX a n) n:=mC _ _ _
theorem ah1 (a:List aI) (n:Nat):qP a (n+1)=WJ (rX a 25) (qP a n) n:=mC _ _ _
theorem aes (a:List aI) (ha:a.length=25) (w:World):Ok Pr Mx [.agg ⟨cQ a⟩] w fun v w'=>v=.agg ⟨cQ (qP a 25)⟩∧Mod [] w w':=by
 refine adv ?_
 unfold Mz
 rw [zS,zc5]
 refine (ak.start w).nw fun b0 w1 H _=>H.nw fun b1 w2 H _=>H.nw fun b2 w3 H _=>H.lZ 0 rfl ha ?_
 refine dm 0 25 (fun i w'=>ak w [] w' [.av b0 (cQ a) dQ,.av b1 (cQ fY) dQ,.av b2 (cQ (rX a i)) DZ]) rfl (by omega) H ?_ ?_
 ·intro again i w4 _ hi H aM
  refine ite_true (by simp; omega) ⟨⟨by omega,by omega⟩,_,Q9 a i (by omega),by omega,⟨by omega,by omega⟩,?_⟩
  refine H.rW 2 (i:=i % 5) rfl (ad b2 (i % 5)) (by rw [O5]; omega) ⟨⟨by omega,by omega⟩,?_⟩
  refine H.Cu 2 (i:=i % 5) (g (rX a i) (i % 5) ^^^ g a i) rfl (ad b2 (i % 5)) (by rw [O5]; omega) (zK _ _) fun w5 H=>⟨⟨by omega,by omega⟩,?_⟩
  exact aM w5 (by rw [aiH]; exact H)
 ·intro again w4 H
  refine ite_false (by simp) ?_
  refine dm 0 25 (fun i w'=>ak w [] w' [.av b0 (cQ (qP a i)) dQ,.av b1 (cQ fY) dQ,.av b2 (cQ (rX a 25)) DZ]) rfl (by omega) H ?_ ?_
  ·intro again i w5 _ hi H aM
   have h5:∀ j,j % 5<(rX a 25).length:=fun j=>by rw [O5]; omega
   have ht:i<(qP a i).length:=by rw [DM]; omega
   refine ite_true (by simp; omega) ⟨by omega,⟨by omega,by omega⟩,?_⟩
   refine H.drew.rW 0 (i:=i) rfl (ad b0 i) ht ⟨⟨by omega,by omega⟩,by omega,⟨by omega,by omega⟩,?_⟩
   refine H.drew.rW 2 (i:=(i % 5+4) % 5) rfl (ad b2 _) (h5 _) ⟨⟨by omega,by omega⟩,by omega,⟨by omega,by omega⟩,?_⟩
   refine H.drew.rW 2 (i:=(i % 5+1) % 5) rfl (ad b2 _) (h5 _) ?_
   refine aB (UQ _ 1 _) ?_
   rintro _ _ ⟨rfl,rfl⟩
   refine eE ⟨H.drew.kept (Mod.refl _ _) 2 rfl (ad b2 ((i % 5+4) % 5)) 1,H.drew.kept (Mod.refl _ _) 0 rfl (ad b0 i) 1,⟨by omega,by omega⟩,?_⟩
   refine H.drew.Cu 0 (i:=i) (g (qP a i) i ^^^ (g (rX a 25) ((i % 5+4) % 5) ^^^ rotl (g (rX a 25) ((i % 5+1) % 5)) 1)) rfl (ad b0 i) ht (by rw [zK,zK]) fun w6 H=>⟨⟨by omega,by omega⟩,?_⟩
   exact aM w6 (by rw [ah1]; exact H)
  ·intro again w5 H
   refine ite_false (by simp) ?_
   refine H.lZ 0 rfl (by rw [DM,ha]) (H.tR 1 rfl (by rw [DM,ha]) rfl fun w6 H=>H.lZ 1 rfl (by rw [DM,ha]) ⟨rfl,H.mod⟩)
def pl (x y:Nat):Nat:=x % 5+5 * (y % 5)
theorem Cj (x y:Nat):pl x y<25:=by unfold pl; omega
def Er (s:List aI×Nat×Nat) (t:Nat):List aI×Nat×Nat:=(s.1.set (pl s.2.1 s.2.2) (rotl (g s.1 (pl s.2.1 s.2.2)) ((t+1) * (t+2) / 2 % 64)),s.2.2,(2 * s.2.1+3 * s.2.2) % 5)
def tZ (a:List aI) (n:Nat):List aI×Nat×Nat:=up Er (a,1,0) n
theorem WK (a:List aI) (n:Nat):tZ a (n+1)=Er (tZ a n) n:=mC _ _ _
theorem Yh (a:List aI) (n:Nat):(tZ a n).1.length=a.length∧(tZ a n).2.1<5∧(tZ a n).2.2<5:=by
 induction n with
 | zero=>exact ⟨rfl,(by show 1<5; omega),(by show 0<5; omega)⟩
 | succ n ih=>
  rw [WK]
  obtain ⟨h1,h2,h3⟩:=ih
  exact ⟨by simp only [Er,List.length_set,h1],h3,by simp only [Er]; omega⟩
def cO (a:List aI):List aI:=(tZ a 24).1
theorem Wi (a:List aI):(cO a).length=a.length:=(Yh a 24).1
theorem afO (a:List aI) (ha:a.length=25) (w:World):Ok Pr NS [.agg ⟨cQ a⟩] w fun v w'=>v=.agg ⟨cQ (cO a)⟩∧Mod [] w w':=by
 refine aer ?_
 unfold NZ
 rw [zS]
 refine (ak.start w).nw fun b0 w1 H _=>H.nw fun b1 w2 H _=>?_
 refine ajC 1 25 (fun t x y w'=>x=((tZ a (t - 1)).2.1:Int)∧y=((tZ a (t - 1)).2.2:Int)∧ak w [] w' [.av b0 (cQ (tZ a (t - 1)).1) dQ,.av b1 (cQ fY) dQ]) rfl (by omega) ⟨rfl,rfl,H⟩ ?_ ?_
 ·rintro again t _ _ w3 h1 hi ⟨rfl,rfl,H⟩ aM
  obtain ⟨t,rfl⟩:∃ k,t=k+1:=⟨t - 1,by omega⟩
  rw [Nat.add_sub_cancel] at H ⊢
  obtain ⟨h2,h3,h4⟩:=Yh a t
  rcases hs:tZ a t with ⟨b,x,y⟩
  rw [hs] at H h2 h3 h4
  dsimp only at H h2 h3 h4 ⊢
  have hp:=Cj x y
  refine ite_true (by simp; omega) ?_
  refine aB (A8 x y (by omega) (by omega) _) ?_
  rintro _ _ ⟨rfl,rfl⟩
  refine eE ⟨⟨by omega,by unfold pl at hp; omega⟩,?_⟩
  refine H.rW 0 (i:=pl x y) rfl (ad b0 (pl x y)) (by omega) ?_
  have hm:((t:Int)+1) * ((t:Int)+1+1)=(((t+1) * (t+2):Nat):Int):=by push_cast; rfl
  have uq:(t+1) * (t+2)≤25 * 26:=Nat.mul_le_mul (by omega) (by omega)
  have e2:(((t+1:Nat):Int)) * (((t+1:Nat):Int)+1)=(((t+1) * (t+2):Nat):Int):=by push_cast; rfl
  rw [e2]
  refine ⟨⟨by omega,by omega⟩,⟨by omega,by omega⟩,⟨by omega,by simp only [IntKind.max,IntKind.signed,IntKind.bits]; omega⟩,by omega,?_⟩
  refine aB (UQ _ ((t+1) * (t+2) / 2 % 64) _) ?_
  rintro _ _ ⟨rfl,rfl⟩
  refine eE ⟨⟨by omega,by unfold pl at hp; omega⟩,?_⟩
  refine H.Cu 0 (i:=pl x y) (rotl (g b (pl x y)) ((t+1) * (t+2) / 2 % 64)) rfl (ad b0 (pl x y)) (by omega) rfl fun w6 H=>?_
  refine ⟨⟨by omega,by omega⟩,⟨by omega,by omega⟩,⟨by omega,by omega⟩,by omega,⟨by omega,by omega⟩,?_⟩
  exact aM _ _ w6 (by rw [Nat.add_sub_cancel,WK,hs]; exact ⟨rfl,by simp only [Er]; push_cast; rfl,H⟩)
 ·rintro again _ _ w3 ⟨rfl,rfl,H⟩
  have hl:=Wi a
  refine ite_false (by simp) ?_
  exact H.lZ 0 rfl (hl.trans ha) (H.tR 1 rfl (hl.trans ha) rfl fun w6 H=>H.lZ 1 rfl (hl.trans ha) ⟨rfl,H.mod⟩)
def Y9 (a b:List aI) (x y:Nat):List aI:=b.set (pl x y) (g a (pl (x+3 * y) x))
def Ck (a:List aI) (y:Nat) (b:List aI) (n:Nat):List aI:=up (fun b x=>Y9 a b x y) b n
def pi (a:List aI) (n:Nat):List aI:=up (fun b y=>Ck a y b 5) fY n
theorem Vx (a:List aI) (y:Nat) (b:List aI) (n:Nat):(Ck a y b n).length=b.length:=y8 _ (fun _ _=>List.length_set) _ _
theorem Bz (a:List aI) (n:Nat):(pi a n).length=25:=y8 _ (fun _ _=>Vx _ _ _ _) _ _
theorem agN (a:List aI) (ha:a.length=25) (w:World):Ok Pr OV [.agg ⟨cQ a⟩] w fun v w'=>v=.agg ⟨cQ (pi a 5)⟩∧Mod [] w w':=by
 refine ae4 ?_
 unfold O2
 rw [zS]
 refine (ak.start w).nw fun b0 w1 H _=>H.nw fun b1 w2 H _=>H.nw fun b2 w3 H _=>?_
 refine dm 0 5 (fun y w'=>ak w [] w' [.av b0 (cQ a) dQ,.av b1 (cQ fY) dQ,.av b2 (cQ (pi a y)) dQ]) rfl (by omega) H ?_ ?_
 ·intro again y w4 _ hy H aM
  refine ite_true (by simp; omega) ?_
  refine dm 0 5 (fun x w'=>ak w [] w' [.av b0 (cQ a) dQ,.av b1 (cQ fY) dQ,.av b2 (cQ (Ck a y (pi a y) x)) dQ]) rfl (by omega) H ?_ ?_
  ·intro again x w5 _ hx H aM
   have hp:=Cj x y
   have hq:=Cj (x+3 * y) x
   refine ite_true (by simp; omega) ?_
   refine aB (A8 x y (by omega) (by omega) _) ?_
   rintro _ _ ⟨rfl,rfl⟩
   refine eE ⟨⟨by omega,by omega⟩,⟨by omega,by omega⟩,?_⟩
   refine aB (A8 (x+3 * y) x (by omega) (by omega) _) ?_
   rintro _ _ ⟨rfl,rfl⟩
   refine eE ⟨⟨by omega,by unfold pl at hq; omega⟩,?_⟩
   refine H.rW 0 (i:=pl (x+3 * y) x) rfl (ad b0 _) (by omega) ⟨⟨by omega,by unfold pl at hp; omega⟩,?_⟩
   refine H.Cu 2 (i:=pl x y) (g a (pl (x+3 * y) x)) rfl (ad b2 _) (by rw [Vx,Bz]; omega) rfl fun w6 H=>⟨⟨by omega,by omega⟩,?_⟩
   exact aM w6 (by rw [show Ck a y (pi a y) (x+1)=Y9 a (Ck a y (pi a y) x) x y from mC _ _ _]; exact H)
  ·intro again w5 H
   refine ite_false (by simp) ⟨⟨by omega,by omega⟩,?_⟩
   exact aM w5 (by rw [show pi a (y+1)=Ck a y (pi a y) 5 from mC _ _ _]; exact H)
 ·intro again w4 H
  refine ite_false (by simp) ?_
  exact H.lZ 2 rfl (Bz _ _) (H.tR 1 rfl (Bz _ _) rfl fun w6 H=>H.lZ 1 rfl (Bz _ _) ⟨rfl,H.mod⟩)
def Yj (a b:List aI) (x y:Nat):List aI:=b.set (pl x y) (g b (pl x y) ^^^ (~~~ g a (pl (x+1) y) &&& g a (pl (x+2) y)))
def xD (a:List aI) (y:Nat) (b:List aI) (n:Nat):List aI:=up (fun b x=>Yj a b x y) b n
def qm (a:List aI) (n:Nat):List aI:=up (fun b y=>xD a y b 5) a n
theorem Vp (a:List aI) (y:Nat) (b:List aI) (n:Nat):(xD a y b n).length=b.length:=y8 _ (fun _ _=>List.length_set) _ _
theorem PY (a:List aI) (n:Nat):(qm a n).length=a.length:=y8 _ (fun _ _=>Vp _ _ _ _) _ _
theorem afP (a:List aI) (ha:a.length=25) (w:World):Ok Pr NR [.agg ⟨cQ a⟩] w fun v w'=>v=.agg ⟨cQ (qm a 5)⟩∧Mod [] w w':=by
 refine aeq ?_
 unfold NY
 rw [zS]
 have hc:∀ n,(qm a n).length=25:=fun n=>(PY a n).trans ha
 refine (ak.start w).nw fun b0 w1 H _=>H.nw fun b1 w2 H _=>H.lZ 0 rfl ha (H.nw fun b2 w3 H _=>H.tR 2 rfl ha rfl fun w4 H=>?_)
 refine dm 0 5 (fun y w'=>ak w [] w' [.av b0 (cQ a) dQ,.av b1 (cQ fY) dQ,.av b2 (cQ (qm a y)) dQ]) rfl (by omega) H ?_ ?_
 ·intro again y w4 _ hy H aM
  refine ite_true (by simp; omega) ?_
  refine dm 0 5 (fun x w'=>ak w [] w' [.av b0 (cQ a) dQ,.av b1 (cQ fY) dQ,.av b2 (cQ (xD a y (qm a y) x)) dQ]) rfl (by omega) H ?_ ?_
  ·intro again x w5 _ hx H aM
   have hp:=Cj x y
   have hq:=Cj (x+1) y
   have hr:=Cj (x+2) y
   have hl:(xD a y (qm a y) x).length=25:=by rw [Vp,hc]
   refine ite_true (by simp; omega) ⟨⟨by omega,by omega⟩,⟨by omega,by omega⟩,?_⟩
   refine aB (A8 x y (by omega) (by omega) _) ?_
   rintro _ _ ⟨rfl,rfl⟩
   have H:=H.drew
   refine eE ⟨⟨by omega,by unfold pl at hp; omega⟩,H.rW 2 (i:=pl x y) rfl (ad b2 _) (by omega) ?_⟩
   refine aB (A8 (x+1) y (by omega) (by omega) _) ?_
   rintro _ _ ⟨rfl,rfl⟩
   refine eE ⟨H.kept (Mod.refl _ _) 2 rfl (ad b2 (pl x y)) 1,⟨by omega,by unfold pl at hq; omega⟩,H.rW 0 (i:=pl (x+1) y) rfl (ad b0 _) (by omega) ?_⟩
   refine aB (A8 (x+2) y (by omega) (by omega) _) ?_
   rintro _ _ ⟨rfl,rfl⟩
   refine eE ⟨H.kept (Mod.refl _ _) 0 rfl (ad b0 (pl (x+1) y)) 1,H.kept (Mod.refl _ _) 2 rfl (ad b2 (pl x y)) 1,⟨by omega,by unfold pl at hr; omega⟩,H.rW 0 (i:=pl (x+2) y) rfl (ad b0 _) (by omega) ⟨⟨by omega,by unfold pl at hp; omega⟩,?_⟩⟩
   refine H.Cu 2 (i:=pl x y) (g (xD a y (qm a y) x) (pl x y) ^^^ (~~~ g a (pl (x+1) y) &&& g a (pl (x+2) y))) rfl (ad b2 _) (by omega) (by rw [anm,Sr,zK]) fun w6 H=>⟨⟨by omega,by omega⟩,?_⟩
   exact aM w6 (by rw [show xD a y (qm a y) (x+1)=Yj a (xD a y (qm a y) x) x y from mC _ _ _]; exact H)
  ·intro again w5 H
   refine ite_false (by simp) ⟨⟨by omega,by omega⟩,?_⟩
   exact aM w5 (by rw [show qm a (y+1)=xD a y (qm a y) 5 from mC _ _ _]; exact H)
 ·intro again w4 H
  refine ite_false (by simp) ?_
  exact H.lZ 2 rfl (hc _) (H.tR 1 rfl (hc _) rfl fun w6 H=>H.lZ 1 rfl (hc _) ⟨rfl,H.mod⟩)
end Go.Proofs.YtgjoehgomjgckaaGreatDoor
end
section
set_option linter.unusedVariables false
set_option linter.unusedSimpArgs false
namespace Go.Proofs.YtgjoehgomjgckaaGreatDoor
open Go Go.Ev
def words:List aI:=[0x0000000000000001,0x0000000000008082,0x800000000000808A,0x8000000080008000,0x000000000000808B,0x0000000080000001,
 0x8000000080008081,0x8000000000008009,0x000000000000008A,0x0000000000000088,0x0000000080008009,0x000000008000000A,
 0x000000008000808B,0x800000000000008B,0x8000000000008089,0x8000000000008003,0x8000000000008002,0x8000000000000080,
 0x000000000000800A,0x800000008000000A,0x8000000080008081,0x8000000000008080,0x0000000080000001,0x8000000080008008]
def iota (a:List aI) (r:Nat):List aI:=a.set 0 (g a 0 ^^^ g words r)
def round (a:List aI) (r:Nat):List aI:=iota (qm (pi (cO (qP a 25)) 5) 5) r
def perms (a:List aI) (n:Nat):List aI:=up round a n
@[irreducible] def perm (a:List aI):List aI:=perms a 24
theorem Yk (a:List aI):perms a 24=perm a:=by unfold perm; rfl
theorem N0 (a:List aI) (r:Nat) (_h:a.length=25):(round a r).length=25:=by
 unfold round iota
 rw [List.length_set,PY,Bz]
theorem Wj (a:List aI) (n:Nat):perms a (n+1)=round (perms a n) n:=mC _ _ _
theorem Vy (a:List aI) (ha:a.length=25) (n:Nat):(perms a n).length=25:=by
 induction n with
 | zero=>exact ha
 | succ n ih=>rw [Wj,N0 _ _ ih]
theorem yQ (a:List aI) (ha:a.length=25):(perm a).length=25:=Yk a ▸ Vy a ha 24
theorem ae6 (a:List aI) (ha:a.length=25) (r:Nat) (hr:r<24) (w:World):Ok Pr MZ [.agg ⟨cQ a⟩,.int .i64 (r:Int)] w fun v w'=>v=.agg ⟨cQ (iota a r)⟩∧Mod [] w w':=by
 refine adO ?_
 unfold M7
 rw [zS,an9]
 refine (ak.start w).nw fun b0 w1 H _=>H.nw fun b1 w2 H _=>ite_false (by simp; omega) (H.nw fun b2 w3 H _=>?_)
 refine H.tR 2 (l:=words) rfl rfl rfl fun w4 H=>?_
 refine ⟨⟨by omega,by omega⟩,H.drew.rW 0 (i:=0) rfl (ad b0 _) (by omega) ⟨⟨by omega,by omega⟩,H.drew.rW 2 (i:=r) rfl (ad b2 _) (by show r<24; omega) ⟨⟨by omega,by omega⟩,?_⟩⟩⟩
 refine H.drew.Cu 0 (i:=0) (g a 0 ^^^ g words r) rfl (ad b0 _) (by omega) (zK _ _) fun w5 H=>?_
 have hl:(iota a r).length=25:=by simp [iota,ha]
 exact H.lZ 0 rfl hl (H.tR 1 rfl hl rfl fun w6 H=>H.lZ 1 rfl hl ⟨rfl,H.mod⟩)
theorem aet (a:List aI) (ha:a.length=25) (r:Nat) (hr:r<24) (w:World):Ok Pr Mw [.agg ⟨cQ a⟩,.int .i64 (r:Int)] w fun v w'=>v=.agg ⟨cQ (round a r)⟩∧Mod [] w w':=by
 refine adu ?_
 unfold My
 rw [zS]
 have h1:(qP a 25).length=25:=(DM _ _).trans ha
 have h2:(cO (qP a 25)).length=25:=(Wi _).trans h1
 have h3:(pi (cO (qP a 25)) 5).length=25:=Bz _ _
 have h4:(qm (pi (cO (qP a 25)) 5) 5).length=25:=(PY _ _).trans h3
 have h5:=N0 a r ha
 refine (ak.start w).nw fun b0 w1 H _=>H.nw fun b1 w2 H _=>H.lZ 0 rfl ha ?_
 refine aB (aes a ha _) ?_
 rintro _ w3 ⟨rfl,m⟩
 have H:=H.frame m
 refine yX (aB (afO _ h1 _) ?_)
 rintro _ w4 ⟨rfl,m⟩
 have H:=H.frame m
 refine yX (aB (agN _ h2 _) ?_)
 rintro _ w5 ⟨rfl,m⟩
 have H:=H.frame m
 refine yX (aB (afP _ h3 _) ?_)
 rintro _ w6 ⟨rfl,m⟩
 have H:=H.frame m
 refine yX (aB (ae6 _ h4 r hr _) ?_)
 rintro _ w7 ⟨rfl,m⟩
 have H:=H.frame m
 exact yX (H.tR 1 (l:=round a r) rfl h5 rfl fun w6 H=>H.lZ 1 rfl h5 ⟨rfl,H.mod⟩)
theorem adw (a:List aI) (ha:a.length=25) (w:World):Ok Pr LG [.agg ⟨cQ a⟩] w fun v w'=>v=.agg ⟨cQ (perm a)⟩∧Mod [] w w':=by
 refine acM ?_
 unfold LJ
 rw [zS]
 have hl:=Vy a ha
 refine (ak.start w).nw fun b0 w1 H _=>H.nw fun b1 w2 H _=>?_
 refine dm 0 24 (fun i w'=>ak w [] w' [.av b0 (cQ (perms a i)) dQ,.av b1 (cQ fY) dQ]) rfl (by omega) H ?_ ?_
 ·intro again i w3 _ hi H aM
  refine ite_true (by simp; omega) (H.lZ 0 rfl (hl i) (aB (aet _ (hl i) i hi _) ?_))
  rintro _ w4 ⟨rfl,m⟩
  have H:=H.frame m
  refine yX (H.tR 0 rfl (N0 _ _ (hl i)) (hl i) fun w5 H=>⟨⟨by omega,by omega⟩,?_⟩)
  exact aM w5 (by rw [Wj]; exact H)
 ·intro again w3 H
  have hp:=hl 24
  rw [Yk] at H hp
  refine ite_false (by simp) ?_
  refine H.lZ 0 rfl hp ?_
  refine H.tR 1 rfl hp rfl fun w6 H=>?_
  refine H.lZ 1 rfl hp ?_
  refine ⟨rfl,H.mod⟩
end Go.Proofs.YtgjoehgomjgckaaGreatDoor
end
section
set_option linter.unusedVariables false
set_option linter.unusedSimpArgs false
namespace Go.Proofs.YtgjoehgomjgckaaGreatDoor
open Go Go.Ev
set_option maxRecDepth 100000
def alM (r:aI) (_i:Nat):aI:=if (r <<< 1) &&& 256=0 then r <<< 1 else (r <<< 1) ^^^ 256 ^^^ 1 ^^^ 16 ^^^ 32 ^^^ 64
def rcs (n:Nat):aI:=up alM 1 n
def rc (t:Nat):aI:=rcs (t % 255) &&& 1
end Go.Proofs.YtgjoehgomjgckaaGreatDoor
end
section
set_option linter.unusedVariables false
set_option linter.unusedSimpArgs false
namespace Go.Ev
open Go Go.RowKit
variable {P:Program}
theorem nc {a:Addr} {K:Addr→Prop} (h:K a):bB (some a) K:=h
theorem WL {t:TypeId} {v:Value} {K:Bool→Prop} (h:K false):fm (.iface t v) K:=h
theorem kM {y:Int} {A:Prop} (h:0≤y) (hA:A):gX y A:=by
 unfold gX; split
 ·exact hA
 ·exact ⟨h,hA⟩
theorem RO {y:Int} {A:Prop} (h:0<y) (hA:A):pos y A:=by
 unfold pos; split
 ·exact hA
 ·exact ⟨h,hA⟩
def aD.no:aD where
 fp:=[]
 ok _:=True
 kC _ _ _ _:=trivial
 lt _ _ b hb:=by cases hb
section
variable {w0 w:World} {S:List Nat} {L:List aD}
theorem ak.alN (H:ak w0 S w L) (k:Nat) {r:aD} (hk:L[k]? = some r):ak w0 S w (L.set k .no):=
 H.iP (T:=[]) k hk (Mod.refl _ _) (fun b hb=>by cases hb) trivial fun b hb=>by cases hb
theorem ak.fresh (H:ak w0 S w L) (k:Nat) {e:TypeId} {sz:Nat} {s:ah} {vs:List Value} (hk:L[k]? = some (.row e sz s vs)) (hS:∀ b∈s.row,b∉S):Own w w0.heap.size e sz s vs:=by
 obtain ⟨hl,h1 | ⟨g,cap,cur,h1,h2,h3⟩⟩:=H.qV k hk
 ·exact ⟨hl,.inl h1⟩
 ·refine ⟨hl,.inr ⟨g,cap,cur,h1,?_,h3⟩⟩
  have hg:g∈s.row:=by
   obtain ⟨a,n,c⟩:=s
   simp only [ah.v,Value.slice.injEq] at h1
   obtain ⟨rfl,-⟩:=h1
   simp [ah.row]
  exact (H.own k _ hk g hg).resolve_left (hS g hg)
theorem ak.fS (H:ak w0 [] w L) (k:Nat) {e:TypeId} {sz:Nat} {s:ah} {vs:List Value} (hk:L[k]? = some (.row e sz s vs)):Own w w0.heap.size e sz s vs:=H.fresh k hk (fun b _=>by simp)
theorem ak.cG {w':World} (H:ak w0 S w L) (m:Mod [] w w') {e:TypeId} {sz:Nat} {s:ah} {vs:List Value} (h:Own w' w.heap.size e sz s vs):ak w0 S w' (L ++ [.row e sz s vs]):=
 H.push m h.lo fun b hb=>(Own.ED h b hb).1
theorem ak.Zh {w':World} (H:ak w0 S w L) (m:Mod [] w w') {b:Nat} {cs:List Value} {t:TypeId} (h:bX w' b cs t) (hb:w.heap.size≤b):ak w0 S w' (L ++ [.av b cs t]):=
 H.push m h (by simp [aD.av,hb])
theorem ak.fJ (H:ak w0 S w L) (k:Nat) {e:TypeId} {sz:Nat} {s:ah} {vs:List Value} (hk:L[k]? = some (.row e sz s vs)):Sl w s sz vs:=(H.qV k hk).sl
theorem bX.sl {b:Nat} {cs:List Value} {t:TypeId} (h:bX w b cs t) (sz n c:Nat) (hn:n * sz≤cs.length) (hc:n≤c):Sl w ⟨some ⟨b,0,none⟩,n,c⟩ sz (cs.take (n * sz)):=by
 refine ⟨by simp only [List.length_take]; omega,hc,fun _=>rfl,fun i v hv=>?_⟩
 show w.cell? (Addr.add ⟨b,0,none⟩ i)=some v
 rw [au,h.cell]
 rw [List.getElem?_take] at hv
 split at hv
 ·exact hv
 ·cases hv
theorem bX.own {b:Nat} {cs:List Value} {t:TypeId} (h:bX w b cs t) (sz n c:Nat) (hl:cs.length=c * sz) (hc:n≤c) (hm:c≤maxLen):Own w 0 t sz ⟨some ⟨b,0,none⟩,n,c⟩ (cs.take (n * sz)):=by
 have:=Nat.mul_le_mul_right sz hc
 exact ⟨by simp only [List.length_take]; omega,.inr ⟨b,c,⟨cs⟩,rfl,Nat.zero_le _,h,hc,hm,hl,rfl⟩⟩
theorem ak.rM (H:ak w0 S w L) (k:Nat) {b:Nat} {cs:List Value} {t:TypeId} (sz n c:Nat) (hk:L[k]? = some (.av b cs t)) (hl:cs.length=c * sz) (hc:n≤c) (hm:c≤maxLen) :
  ak w0 S w (L.set k (.row t sz ⟨some ⟨b,0,none⟩,n,c⟩ (cs.take (n * sz)))):=
 H.iP (T:=[]) k hk (Mod.refl _ _) (fun b hb=>by cases hb) ((H.av k hk).own sz n c hl hc hm) fun b hb=>.inl hb
theorem ak.Cv (H:ak w0 S w L) (k:Nat) {t ty e t1:TypeId} {sz bytes:Nat} {s:ah} {vs us:List Value} {K:ah→World→Prop} (cD:fk P t e sz bytes) (hk:L[k]? = some (.row e sz s vs)) (hl:us.length=sz)
  (h1:∀ u∈us,ey u=true) (hb:(s.n+1) * bytes≤140737488355328) (hm:s.n+1≤9223372036854775807)
  (h:∀ s' w',ak w0 S w' (L.set k (.row e sz s' (vs ++ us)))→s'.n=s.n+1→K s' w'):Ev.nw t1 us w fun p w5=>cJ P [t,t] ty [.slice s.a s.n s.c,.slice (some p) 1 1] w5 K:=by
 refine H.nw fun b w5 H5 _=>?_
 have bO:k<L.length:=(List.getElem?_eq_some_iff.1 hk).1
 have hk5:(L ++ [aD.av b us t1])[k]? = some (.row e sz s vs):=by rw [List.getElem?_append_left bO]; exact hk
 have hb5:=H5.av (cs:=us) (b:=b) (t:=t1) L.length (by simp)
 have dU:=hb5.sl sz 1 1 (by omega) (Nat.le_refl _)
 rw [Nat.one_mul,← hl,List.take_length] at dU
 subst hl
 refine H5.app (x:=⟨some ⟨b,0,none⟩,1,1⟩) k cD hk5 dU h1 hb hm fun s' w' H' hn=>h s' w' ?_ hn
 have:=H'.take L.length
 rw [List.set_append_left _ _ bO,List.take_append_of_le_length (by simp),List.take_of_length_le (by simp)] at this
 exact this
theorem ak.qQ (H:ak w0 S w L) (k:Nat) {e:TypeId} {sz:Nat} {s:ah} {vs:List Value} {i:Nat} {a:Addr} {v:Value} {K:World→Prop} (hk:L[k]? = some (.row e sz s vs)) (ha:a=Addr.add (base s.a) i) (hi:i<vs.length) (h1:ey v=true)
  (h:∀ w',ak w0 S w' (L.set k (.row e sz s (vs.set i v)))→K w'):Ev.st a v w K:=by
 subst ha
 have ho:=H.qV k hk
 obtain ⟨sa,sn,sc⟩:=s
 obtain ⟨hl,hv | ⟨g,cap,cur,hv,h2,hg,CN,vW,jo,Ch⟩⟩:=ho
 ·rw [hv.2] at hl; omega
 ·simp only [ah.v,Value.slice.injEq] at hv
  obtain ⟨rfl,-,rfl⟩:=hv
  have aoa:bX w g cur.toList e:=hg
  have hic:i<cur.toList.length:=by
   have:vs.length≤cur.toList.length:=by rw [← Ch,List.length_take]; exact Nat.min_le_right _ _
   omega
  show Ev.st (Addr.add ⟨g,0,none⟩ i) v w K
  rw [au]
  refine RN aoa hic h1 fun w' h3 h4 _=>h w' (H.iP k hk h4 (fun b hb=>.inl (by simpa [aD.row,ah.row] using hb)) ?_ fun b hb=>.inl hb)
  refine ⟨by simpa using hl,.inr ⟨g,sc,⟨cur.toList.set i v⟩,rfl,h2,h3,CN,vW,by simpa using jo,?_⟩⟩
  show (cur.toList.set i v).take (sn * sz)=vs.set i v
  rw [← Ch,List.take_set]
theorem ak.aob (H:ak w0 S w L) (k:Nat) {b n:Nat} {a:Addr} {cs:List Value} {t:TypeId} {K:List Value→Prop} (hk:L[k]? = some (.av b cs t)) (ha:a=⟨b,0,none⟩) (hn:n≤cs.length) (h:K (cs.take n)):Ev.iF n a w K:=by
 subst ha; exact X8 (H.av k hk) hn h
theorem ak.aoc (H:ak w0 S w L) (k:Nat) {b n:Nat} {a:Addr} {l cs:List Value} {t:TypeId} {K:World→Prop} (hk:L[k]? = some (.av b cs t)) (ha:a=⟨b,0,none⟩) (hl:l.length=n) (hn:n≤cs.length) (h1:∀ v∈l,ey v=true)
  (h:∀ w',ak w0 S w' (L.set k (.av b (l ++ cs.drop n) t))→K w'):Ev.kT n a l w K:=by
 subst ha
 exact X7 (H.av k hk) hl hn h1 fun w' h2 h3 _=>h w' (H.iP k hk h3 (fun c hc=>.inl hc) h2 (fun c hc=>.inl hc))
theorem ak.Tv (H:ak w0 S w L) {t e:TypeId} {sz bytes:Nat} {l c:Nat} {x y:Int} {K:ah→World→Prop} (cD:fk P t e sz bytes) (hx:x=(l:Int)) (hy:y=(c:Int)) (hlc:l≤c) (hc:c≤9223372036854775807) (hb:bytes * c≤281474976710656)
  (h:∀ b w',ak w0 S w' (L ++ [.row e sz ⟨some ⟨b,0,none⟩,l,c⟩ ((jV c (zc P e)).take (l * sz))])→w0.heap.size≤b→K ⟨some ⟨b,0,none⟩,l,c⟩ w'):j0 P e x y w K:=by
 subst hx hy
 obtain ⟨i,z,hi,hz,j5,oX,jS⟩:=cD.info
 have RP:bytesOf P e=bytes:=by unfold bytesOf; rw [hi]; exact oX
 have qn:zc P e=z.cells.toList:=by unfold zc; rw [hi]; simp only [hz]
 have qo:(zc P e).length=sz:=by rw [qn]; simpa using jS
 have iT:(jV c (zc P e)).length=c * sz:=by
  unfold jV
  rw [List.length_flatten,List.map_replicate,List.sum_replicate_nat,qo]
 refine ⟨⟨by omega,by omega,by omega,?_⟩,?_⟩
 ·rw [RP]
  have h1:((bytes:Int) * (c:Int))=((bytes * c:Nat):Int):=by rw [Int.natCast_mul]
  have h2:(2 ^ 48:Int)=281474976710656:=by decide
  rw [h1,h2]
  omega
 ·simp only [Int.toNat_natCast]
  have hm:Mod [] w (w.alloc (.cells ⟨jV c (zc P e)⟩ e)):=Mod.alloc _ _ _
  refine h w.heap.size _ (H.push hm ?_ (by simp [aD.row,ah.row])) H.mod.size
  exact (bX.new w (jV c (zc P e)) e).own sz l c iT hlc (by simp only [maxLen]; omega)
end
theorem Bytes.mod {w w':World} {s:ah} {l:List B8} (h:Bytes w s l) {S:List Nat} (m:Mod S w w') (ho:off S s):Bytes w' s l:=Sl.mod h m ho
theorem Bytes.aG {w w':World} {s:ah} {l:List B8} (h:Bytes w s l) (m:Mod [] w w'):Bytes w' s l:=Sl.aG h m
structure e8 (w:World) (S:List Nat) (s:ah) (ls:List (List B8)):Prop where
 ex:∃ ss:List ah,Sl w s 1 (ss.map ah.v)∧off S s∧ss.length=ls.length∧∀ (i:Nat) (x:ah) (l:List B8),ss[i]? = some x→ls[i]? = some l→Bytes w x l∧off S x
theorem e8.mod {w w':World} {S:List Nat} {s:ah} {ls:List (List B8)} (h:e8 w S s ls) (m:Mod S w w'):e8 w' S s ls:=by
 obtain ⟨ss,h1,h2,h3,h4⟩:=h.ex
 exact ⟨ss,h1.mod m h2,h2,h3,fun i x l hx hl=>⟨(h4 i x l hx hl).1.mod m (h4 i x l hx hl).2,(h4 i x l hx hl).2⟩⟩
theorem e8.new {w:World} {S T:List Nat} {s:ah} {ls:List (List B8)} (h:e8 w S s ls) (hT:∀ b∈T,b∈S∨w.heap.size≤b):e8 w T s ls:=by
 obtain ⟨ss,h1,h2,h3,h4⟩:=h.ex
 have key:∀ {x:ah} {vs:List Value},Sl w x 1 vs→off S x→off T x:=fun {x vs} k1 k2 h0 a ha hb=>by
  rcases hT _ hb with h | h
  ·exact k2 h0 a ha h
  ·have:=k1.block (by omega) h0 ha; omega
 exact ⟨ss,h1,key h1 h2,h3,fun i x l hx hl=>⟨(h4 i x l hx hl).1,key (h4 i x l hx hl).1 (h4 i x l hx hl).2⟩⟩
theorem e8.len {w:World} {S:List Nat} {s:ah} {ls:List (List B8)} (h:e8 w S s ls):s.n=ls.length:=by
 obtain ⟨ss,h1,h2,h3,h4⟩:=h.ex
 have:=h1.len
 simp only [List.length_map] at this
 omega
theorem e8.ld {w:World} {S:List Nat} {s:ah} {ls:List (List B8)} (h:e8 w S s ls) {i:Nat} (hi:i<ls.length) {K:ah→Prop} (hk:∀ x,Bytes w x (ls.getD i [])→off S x→K x) :
  aQ s.a (i:Int) s.n (ax (Addr.add (base s.a) (Int.toNat (i:Int) * 1)) w K):=by
 have hn:=h.len
 obtain ⟨ss,h1,h2,h3,h4⟩:=h.ex
 refine ⟨⟨h1.pre (by omega),by omega,by omega⟩,ss[i]'(by omega),?_,?_⟩
 ·rw [Int.toNat_natCast,Nat.mul_one]
  exact h1.cell i _ (by simp [show i<ss.length by omega,ah.v])
 ·have:=h4 i (ss[i]'(by omega)) (ls.getD i []) (by simp [show i<ss.length by omega]) (by simp [hi])
  exact hk _ this.1 this.2
theorem e8.JM {w:World} {S:List Nat} {b:Nat} {x:ah} {l:List B8} {t:TypeId} (h:bX w b [x.v] t) (hb:b∉S) (hx:Bytes w x l) (ho:off S x):e8 w S ⟨some ⟨b,0,none⟩,1,1⟩ [l]:=
 ⟨[x],by simpa using h.sl 1 1 1 (by simp) (by omega),fun _ a ha=>by simp only [Option.some.injEq] at ha; subst ha; exact hb,rfl,fun i y m hy hm=>by
  cases i with
  | zero=>
   simp only [List.getElem?_cons_zero,Option.some.injEq] at hy hm
   subst hy hm; exact ⟨hx,ho⟩
  | succ i=>simp at hy⟩
theorem Bytes.nil (w:World):Bytes w ⟨none,0,0⟩ []:=Sl.nil w 1
theorem Own.bytes {w:World} {lo:Nat} {e:TypeId} {s:ah} {l:List B8} (h:Own w lo e 1 s (bp l)):Bytes w s l:=h.sl
def I5 (x s:ah):Prop:=x.n≤s.n∧∀ a,x.a=some a→∃ a0,s.a=some a0∧a.block=a0.block
theorem Sl.part {w:World} {s:ah} {sz:Nat} {vs:List Value} (h:Sl w s sz vs) (j5:0<sz) (l k:Nat) (hlk:l≤k) (hk:k≤s.n):Sl w ⟨sub s.a l s.c sz,k - l,s.c - l⟩ sz ((vs.drop (l * sz)).take ((k - l) * sz)):=by
 have hl:=h.len
 have hc:=h.cap
 have e1:k * sz≤s.n * sz:=Nat.mul_le_mul_right _ hk
 have e2:(k - l) * sz=k * sz - l * sz:=Nat.sub_mul _ _ _
 have e3:l * sz≤k * sz:=Nat.mul_le_mul_right _ hlk
 refine ⟨by simp only [List.length_take,List.length_drop]; omega,by show k - l≤s.c - l; omega,fun h0=>?_,fun i v hv=>?_⟩
 ·have h0:0<k - l:=h0
  have:=h.pre (by omega)
  unfold sub; split
  ·exact this
  ·simpa using this
 ·rw [List.getElem?_take] at hv
  split at hv
  ·rename_i hi
   rw [List.getElem?_drop] at hv
   have h1:=h.cell _ v hv
   have bO:l<k:=by
    rcases Nat.lt_or_ge l k with h | h
    ·exact h
    ·rw [show k - l=0 by omega,Nat.zero_mul] at hi; omega
   obtain ⟨a,ha⟩:=Option.isSome_iff_exists.1 (h.pre (by omega))
   have iN:¬ s.c=l:=by omega
   have hb:base s.a=a:=by rw [ha]; rfl
   unfold sub
   rw [if_neg iN,ha]
   show w.cell? ((a.add (l * sz)).add i)=some v
   rw [add_add,← hb]
   exact h1
  ·cases hv
theorem I5.part (s:ah) (l m sz n c:Nat) (hn:n≤s.n):I5 ⟨sub s.a l m sz,n,c⟩ s:=by
 refine ⟨hn,fun a ha=>?_⟩
 unfold sub at ha
 simp only at ha
 split at ha
 ·exact ⟨a,ha,rfl⟩
 ·cases hs:s.a with
  | none=>rw [hs] at ha; cases ha
  | some a0=>
   rw [hs] at ha
   simp only [Option.map_some,Option.some.injEq] at ha
   subst ha
   exact ⟨a0,rfl,jI _ _⟩
theorem Sl.l {w:World} {s:ah} {sz:Nat} {vs:List Value} {K:ah→Prop} (h:Sl w s sz vs) (j5:0<sz) (l:Nat) {x:Int} (hx:x=(l:Int)) (hl:l≤s.n)
  (hK:∀ z:ah,z.n=s.n - l→Sl w z sz (vs.drop (l * sz))→I5 z s→K z):jQ sz s x K:=by
 subst hx
 refine ⟨⟨by omega,by omega⟩,?_⟩
 simp only [Int.toNat_natCast]
 have:=h.part j5 l s.n hl (Nat.le_refl _)
 rw [List.take_of_length_le (by rw [List.length_drop,h.len,Nat.sub_mul]; exact Nat.le_refl _)] at this
 exact hK _ rfl this (I5.part _ _ _ _ _ _ (by omega))
theorem Iy (l:List B8) (n:Nat):(bp l).take n=bp (l.take n):=by simp [bp,List.map_take]
theorem Xp (l:List B8) (n:Nat):(bp l).drop n=bp (l.drop n):=by simp [bp,List.map_drop]
theorem akT (l:List B8) (i:Nat) (b:B8):(bp l).set i (.int .u8 (b.toNat:Int))=bp (l.set i b):=by simp [bp,u8,List.map_set]
theorem ak.bytes {w0 w:World} {S:List Nat} {L:List aD} (H:ak w0 S w L) (k:Nat) {e:TypeId} {s:ah} {bs:List B8} (hk:L[k]? = some (.row e 1 s (bp bs))):Bytes w s bs:=H.fJ k hk
theorem Bytes.some {w:World} {s:ah} {bs:List B8} (h:Bytes w s bs) (h0:0<s.n):s.a.isSome=true:=h.pre h0
theorem ak.vH {P:Program} {w0 w:World} {S:List Nat} {L:List aD} (H:ak w0 S w L) (k:Nat) {t ty e:TypeId} {s x:ah} {vs us:List B8} {K:ah→World→Prop} (cD:fk P t e 1 1) (hk:L[k]? = some (.row e 1 s (bp vs))) (hx:Bytes w x us)
  (hm:s.n+x.n≤100000000000000) (h:∀ s' w',ak w0 S w' (L.set k (.row e 1 s' (bp (vs ++ us))))→s'.n=s.n+x.n→K s' w'):cJ P [t,t] ty [.slice s.a s.n s.c,.slice x.a x.n x.c] w K:=
 H.app k cD hk hx (Xn us) (by omega) (by omega) fun s' w' H' hn=>h s' w' (by rw [PX]; exact H') hn
theorem ak.Rx {P:Program} {w0 w:World} {S:List Nat} {L:List aD} (H:ak w0 S w L) (k:Nat) {t ty e t1:TypeId} {s:ah} {vs:List B8} {n:Int} {K:ah→World→Prop} (x:B8) (cD:fk P t e 1 1) (hk:L[k]? = some (.row e 1 s (bp vs))) (hn:n=(x.toNat:Int))
  (hm:s.n≤100000000000000) (h:∀ s' w',ak w0 S w' (L.set k (.row e 1 s' (bp (vs ++ [x]))))→s'.n=s.n+1→K s' w'):Ev.nw t1 [.int .u8 n] w fun p w5=>cJ P [t,t] ty [.slice s.a s.n s.c,.slice (some p) 1 1] w5 K:=by
 subst hn
 exact H.Cv k cD hk rfl (by simp [ey]) (by omega) (by omega) fun s' w' H' hn=>h s' w' (by rw [PX]; exact H') hn
theorem ak.mkB {P:Program} {w0 w:World} {S:List Nat} {L:List aD} (H:ak w0 S w L) {t e:TypeId} {sz bytes:Nat} {l c:Nat} {x y:Int} {K:ah→World→Prop} (cD:fk P t e sz bytes) (hx:x=(l:Int)) (hy:y=(c:Int)) (hlc:l≤c) (hc:c≤9223372036854775807) (hb:bytes * c≤281474976710656)
  (h:∀ b w',ak w0 S w' (L ++ [.av b (jV c (zc P e)) e])→w0.heap.size≤b→(jV c (zc P e)).length=c * sz→K ⟨some ⟨b,0,none⟩,l,c⟩ w'):j0 P e x y w K:=by
 subst hx hy
 obtain ⟨i,z,hi,hz,j5,oX,jS⟩:=cD.info
 have RP:bytesOf P e=bytes:=by unfold bytesOf; rw [hi]; exact oX
 have qn:zc P e=z.cells.toList:=by unfold zc; rw [hi]; simp only [hz]
 have qo:(zc P e).length=sz:=by rw [qn]; simpa using jS
 have iT:(jV c (zc P e)).length=c * sz:=by
  unfold jV
  rw [List.length_flatten,List.map_replicate,List.sum_replicate_nat,qo]
 refine ⟨⟨by omega,by omega,by omega,?_⟩,?_⟩
 ·rw [RP]
  have h1:((bytes:Int) * (c:Int))=((bytes * c:Nat):Int):=by rw [Int.natCast_mul]
  have h2:(2 ^ 48:Int)=281474976710656:=by decide
  rw [h1,h2]
  omega
 ·simp only [Int.toNat_natCast]
  exact h w.heap.size _ (H.push (Mod.alloc _ _ _) (bX.new w (jV c (zc P e)) e) (by simp [aD.av])) H.mod.size iT
theorem ak.aod {P:Program} {w0 w:World} {S:List Nat} {L:List aD} (H:ak w0 S w L) (k:Nat) {t ty e:TypeId} {sz bytes b n c:Nat} {x:ah} {cs us:List Value} {K:ah→World→Prop} (cD:fk P t e sz bytes) (hk:L[k]? = some (.av b cs e))
  (jo:cs.length=c * sz) (oK:n+x.n≤c) (hx:Sl w x sz us) (h1:∀ u∈us,ey u=true)
  (h:∀ w',ak w0 S w' (L.set k (.av b (cs.take (n * sz) ++ us ++ cs.drop (n * sz+us.length)) e))→K ⟨some ⟨b,0,none⟩,n+x.n,c⟩ w'):cJ P [t,t] ty [.slice (some ⟨b,0,none⟩) n c,.slice x.a x.n x.c] w K:=by
 obtain ⟨i,z,hi,hz,j5,oX,jS⟩:=cD.info
 have CM:∀ u∈us,u.oneCell'=true:=fun u hu=>by
  have:=h1 u hu
  cases u <;> first | rfl | cases this
 have nY:=hx.len
 have hmul:n * sz+x.n * sz≤c * sz:=by rw [← Nat.add_mul]; exact Nat.mul_le_mul_right _ oK
 have hb:=H.av k hk
 obtain ⟨xa,xn,xc⟩:=x
 cases xa with
 | none=>
  have h0:xn=0:=by
   rcases Nat.eq_zero_or_pos xn with e | e
   ·exact e
   ·cases hx.pre e
  subst h0
  have hu:us=[]:=List.eq_nil_of_length_eq_zero (by simpa using nY)
  subst hu
  have hn:n≤c:=by simpa using oK
  have hr:(Builtin.append_ #[t,t] ty #[.slice (some ⟨b,0,none⟩) n c,.slice none 0 xc]).run P w=.ok (.slice (some ⟨b,0,none⟩) n c) w:=by
   simp [Builtin.append_,run_underlying cD.sy,Go.sizeOf,Go.typeInfo,hi,Builtin.lenOf,Builtin.firstCells,hn,storeCells]
  refine ⟨_,w,hr,⟨some ⟨b,0,none⟩,n,c⟩,rfl,h w ?_⟩
  have:=H.iP (T:=[]) (r':=.av b cs e) k hk (Mod.refl _ _) (fun b hb=>by cases hb) hb (fun c hc=>.inl hc)
  simpa using this
 | some xa=>
  subst j5
  have hr:=run_append_room (P:=P) w t ty e i cD.sy hi b n c ⟨cs⟩ hb xa xn xc us nY hx.cell CM oK (by show n * i.size+us.length≤cs.length; rw [jo,nY]; exact hmul)
  refine ⟨_,_,hr,⟨some ⟨b,0,none⟩,n+xn,c⟩,rfl,h _ ?_⟩
  exact H.iP (T:=[b]) k hk ⟨rfl,rfl,rfl,by simp,fun j _ hj=>setRow_other w b j _ (fun e=>hj (by simp [e]))⟩ (fun c hc=>.inl hc) (setRow_heap w b _ _ e _ hb) (fun c hc=>.inl hc)
end Go.Ev
end
section
set_option linter.unusedVariables false
set_option linter.unusedSimpArgs false
namespace Go.Proofs.YtgjoehgomjgckaaGreatDoor
open Go Go.Ev
theorem iK:fk Pr bJ aX 1 1:=fk.of (by kernel_rfl)
theorem Zj:IntKind.max .i64=9223372036854775807:=by decide
def Ss (az at_:Nat) (aT:B8) (dx:Bool):List Value:=[.int .i64 (az:Int),.int .u8 (aT.toNat:Int),.int .i64 (at_:Int),.bool dx]
def g9 (ws:List aI) (az at_:Nat) (aT:B8) (dx:Bool):List Value:=cQ ws ++ Ss az at_ aT dx
def flip (ws:List aI) (i:Nat) (b:B8):List aI:=ws.set (i / 8) (g ws (i / 8) ^^^ (b.setWidth 64 <<< (8 * (i % 8))))
theorem wT (ws:List aI) (i:Nat) (b:B8):(flip ws i b).length=ws.length:=by simp [flip]
theorem Tw (b i:Nat):Addr.add (Addr.add ⟨b,0,none⟩ 0) (i * 1)=⟨b,i,none⟩:=by rw [tM,ad]
theorem Cw (b:Nat):Addr.add ⟨b,0,none⟩ 0=⟨b,0,none⟩:=tM _ _ _
section
variable {ws:List aI} {az at_:Nat} {aT:B8} {dx:Bool}
theorem Xq (fB:ws.length=25) (i:Nat) (hi:i<25):(g9 ws az at_ aT dx)[i]? = some (.int .u64 ((g ws i).toNat:Int)):=by
 unfold g9
 rw [List.getElem?_append_left (by simp; omega)]
 exact Q9 ws i (by omega)
theorem Ra (fB:ws.length=25):(g9 ws az at_ aT dx)[25]? = some (.int .i64 (az:Int)):=by
 unfold g9; rw [List.getElem?_append_right (by simp; omega),yP,fB]; rfl
theorem akU (fB:ws.length=25):(g9 ws az at_ aT dx)[26]? = some (.int .u8 (aT.toNat:Int)):=by
 unfold g9; rw [List.getElem?_append_right (by simp; omega),yP,fB]; rfl
theorem zE (fB:ws.length=25):(g9 ws az at_ aT dx)[27]? = some (.int .i64 (at_:Int)):=by
 unfold g9; rw [List.getElem?_append_right (by simp; omega),yP,fB]; rfl
theorem WM (fB:ws.length=25):(g9 ws az at_ aT dx)[28]? = some (.bool dx):=by
 unfold g9; rw [List.getElem?_append_right (by simp; omega),yP,fB]; rfl
theorem wY (fB:ws.length=25):(g9 ws az at_ aT dx).length=29:=by simp [g9,Ss,fB]
theorem HS (fB:ws.length=25) (n:Nat):(g9 ws az at_ aT dx).set 27 (.int .i64 (n:Int))=g9 ws az n aT dx:=by
 unfold g9; rw [List.set_append_right _ _ (by simp; omega),yP,fB]; rfl
theorem afQ (fB:ws.length=25) (b:Bool):(g9 ws az at_ aT dx).set 28 (.bool b)=g9 ws az at_ aT b:=by
 unfold g9; rw [List.set_append_right _ _ (by simp; omega),yP,fB]; rfl
theorem agO (fB:ws.length=25) (i:Nat) (x:aI) (hi:i<25):(g9 ws az at_ aT dx).set i (.int .u64 (x.toNat:Int))=g9 (ws.set i x) az at_ aT dx:=by
 unfold g9; rw [List.set_append_left _ _ (by simp; omega),← Xo]; rfl
theorem ajD (fB:ws.length=25):(g9 ws az at_ aT dx).take 25=cQ ws:=by
 unfold g9; rw [List.take_append_of_le_length (by simp; omega),List.take_of_length_le (by simp; omega)]
theorem ajE (fB:ws.length=25):(g9 ws az at_ aT dx).drop 25=Ss az at_ aT dx:=by
 unfold g9; rw [List.drop_append_of_le_length (by simp; omega),List.drop_of_length_le (by simp; omega),List.nil_append]
end
abbrev vr (w:World) (b:Nat) (ws:List aI) (az at_:Nat) (aT:B8) (dx:Bool):Prop:=bX w b (g9 ws az at_ aT dx) LZ
abbrev jC (b:Nat) (ws:List aI) (az at_:Nat) (aT:B8) (dx:Bool):aD:=.av b (g9 ws az at_ aT dx) LZ
def Su (az:Int) (aT:B8):Bool:=decide (8≤az) && decide (az≤192) && decide (az % 8=0) && decide (1≤(aT.toNat:Int)) && decide ((aT.toNat:Int)≤127)
theorem ann (x:Int):decide (Int.tmod x 8=0)=decide (x % 8=0):=by
 have:Int.tmod x 8=0↔x % 8=0:=by rw [← Int.dvd_iff_tmod_eq_zero,Int.dvd_iff_emod_eq_zero]
 simp only [this]
theorem Vq (az:Nat) (aT:B8) (h:Su az aT=true) (w:World):Ok Pr Hj [.int .i64 (az:Int),.int .u8 (aT.toNat:Int)] w fun v w'=>∃ b,v=.pointer (some ⟨b,0,none⟩)∧vr w' b fY az 0 aT false∧w.heap.size≤b∧Mod [] w w':=by
 refine aeo ?_
 unfold NV
 rw [ann]
 refine ite_false ?_ (qM fun b w' hb h1 h2 _=>⟨b,rfl,h1,by omega,h2⟩)
 unfold Su at h
 simp only [Bool.and_eq_true,decide_eq_true_eq] at h
 simp only [Bool.or_eq_false_iff,decide_eq_false_iff_not,Bool.not_eq_false',decide_eq_true_eq]
 omega
theorem MA {ws:List aI} {az at_:Nat} {aT:B8} {dx:Bool} (fB:ws.length=25) (b i:Nat) (hi:i<200) (x:B8) (w:World) (h:vr w b ws az at_ aT dx) :
  Ok Pr Du [.pointer (some ⟨b,0,none⟩),.int .i64 (i:Int),.int .u8 (x.toNat:Int)] w fun v w'=>v=.tuple ⟨[]⟩∧vr w' b (flip ws i x) az at_ aT dx∧Mod [b] w w':=by
 refine acj ?_
 unfold KU
 have H:=ak.EF (r:=jC b ws az at_ aT dx) h
 refine ⟨⟨by omega,by rw [Zj]; omega⟩,⟨by omega,by omega⟩,H.drew.an 0 (i:=i / 8) rfl (Tw b (i / 8)) (Xq fB _ (by omega)) ⟨by omega,⟨by omega,by omega⟩,?_⟩⟩
 refine ⟨⟨by omega,by omega⟩,H.drew.st 0 (i:=i / 8) rfl (Tw b (i / 8)) (by rw [wY fB]; omega) rfl fun w1 H=>⟨rfl,?_,H.mod⟩⟩
 have H:=H.av 0 rfl
 rw [an8,show ((8:Int) * ((i:Int) % 8))=((8 * (i % 8):Nat):Int) by omega,Jl,zK,agO fB _ _ (by omega)] at H
 exact H
def eI (az:Nat) (s:List aI×Nat):List aI×Nat:=if s.2=az then (perm s.1,0) else s
theorem U0 {ws:List aI} {az at_:Nat} {aT:B8} {dx:Bool} (fB:ws.length=25) (b:Nat) (w:World) (h:vr w b ws az at_ aT dx) :
  Ok Pr GK [.pointer (some ⟨b,0,none⟩)] w fun v w'=>v=.tuple ⟨[]⟩∧vr w' b (eI az (ws,at_)).1 az (eI az (ws,at_)).2 aT dx∧Mod [b] w w':=by
 refine ack ?_
 unfold KV
 have H:=(ak.EF (r:=jC b ws az at_ aT dx) h).drew
 refine H.an 0 (i:=27) rfl (au b 27) (zE fB) (H.an 0 (i:=25) rfl (au b 25) (Ra fB) (bV (fun h1=>?_) (fun h1=>?_)))
 ·have h2:at_=az:=by have:=of_decide_eq_true h1; omega
  rw [eI,if_pos h2]
  refine H.aob 0 rfl (Cw b) (by rw [wY fB]; omega) ?_
  rw [ajD fB]
  refine aB (adw ws fB _) ?_
  rintro _ w1 ⟨rfl,m⟩
  have H:=H.frame m
  refine yX (nc (H.aoc 0 rfl (Cw b) (by rw [yP,yQ ws fB]) (by rw [wY fB]; omega) (WI _) fun w2 H=>?_))
  rw [ajE fB] at H
  refine ak.st (L:=[jC b (perm ws) az at_ aT dx]) H 0 (i:=27) rfl (au b 27) (by rw [wY (yQ ws fB)]; omega) rfl fun w3 H=>⟨rfl,?_,H.mod⟩
  have H:=H.av 0 rfl
  rw [show (.int .i64 (0:Int):Value)=.int .i64 ((0:Nat):Int) from rfl,HS (yQ ws fB)] at H
  exact H
 ·have h2:¬ at_=az:=by have:=of_decide_eq_false h1; omega
  rw [eI,if_neg h2]
  exact ⟨rfl,H.av 0 rfl,H.mod⟩
end Go.Proofs.YtgjoehgomjgckaaGreatDoor
end
section
set_option linter.unusedVariables false
set_option linter.unusedSimpArgs false
namespace Go.Proofs.YtgjoehgomjgckaaGreatDoor
open Go Go.Ev
def ru (az:Nat) (s:List aI×Nat) (x:B8):List aI×Nat:=eI az (flip s.1 s.2 x,s.2+1)
def eD (az:Nat) (s:List aI×Nat) (l:List B8):List aI×Nat:=l.foldl (ru az) s
theorem wN (az:Nat) (s:List aI×Nat) (a b:List B8):eD az s (a ++ b)=eD az (eD az s a) b:=List.foldl_append
def Fits (az:Nat) (s:List aI×Nat):Prop:=s.1.length=25∧s.2<az
theorem Fits.ru {az:Nat} {s:List aI×Nat} (h:Fits az s) (x:B8):Fits az (ru az s x):=by
 unfold YtgjoehgomjgckaaGreatDoor.ru eI
 split
 ·exact ⟨yQ _ ((wT _ _ _).trans h.1),Nat.lt_of_le_of_lt (Nat.zero_le _) h.2⟩
 ·rename_i hn
  have:=h.2
  exact ⟨(wT _ _ _).trans h.1,by dsimp only at hn ⊢; omega⟩
theorem Fits.eD {az:Nat}:∀ (l:List B8) {s:List aI×Nat},Fits az s→Fits az (eD az s l)
 | [],_,h=>h
 | x :: r,_,h=>Fits.eD r (h.ru x)
theorem kY {A:Type} (l:List A) (i:Nat) (h:i<l.length) (d:A):l.take (i+1)=l.take i ++ [l.getD i d]:=by
 rw [List.take_succ_eq_append_getElem h]
 simp [h]
theorem UR {s:List aI×Nat} {az:Nat} {aT:B8} (hr:az≤192) (hs:Fits az s) (b:Nat) (parts:ah) (ls:List (List B8)) (w:World) (h:vr w b s.1 az s.2 aT false) (hp:e8 w [b] parts ls)
  (EG:parts.n<1000000∧∀ l∈ls,l.length<1000000000) :
  Ok Pr Ds [.pointer (some ⟨b,0,none⟩),.slice parts.a parts.n parts.c] w fun v w'=>v=.nilIface∧vr w' b (eD az s ls.flatten).1 az (eD az s ls.flatten).2 aT false∧Mod [b] w w':=by
 refine ach ?_
 unfold KT
 have H:=ak.EF (r:=jC b s.1 az s.2 aT false) h
 refine ite_false rfl (nc (H.mH 0 (i:=28) rfl (au b 28) (WM hs.1) (ite_false rfl ?_)))
 have hn:=hp.len
 let st (j:Nat):=eD az s (ls.take j).flatten
 refine dm 0 ls.length (fun j w'=>ak w [b] w' [jC b (st j).1 az (st j).2 aT false]) rfl (by omega) H ?_ ?_
 ·intro again j w3 _ hj H aM
  refine ite_true (by rw [hn]; simpa using hj) ?_
  refine (hp.mod H.mod).ld hj fun x hx hxo=>?_
  have bU:=hx.len
  have jR:(ls.getD j []).length<1000000000:=EG.2 _ (by simp [hj])
  have ql:Fits az (st j):=hs.eD _
  have H3:=ak.EF (r:=jC b (st j).1 az (st j).2 aT false) (H.av 0 rfl)
  refine dm 0 (ls.getD j []).length (fun i w'=>ak w3 [b] w' [jC b (eD az (st j) ((ls.getD j []).take i)).1 az (eD az (st j) ((ls.getD j []).take i)).2 aT false]) rfl (by omega) H3 ?_ ?_
  ·intro again i w4 _ hi H4 aM
   have hf:Fits az (eD az (st j) ((ls.getD j []).take i)):=ql.eD _
   have hx4:Bytes w4 x (ls.getD j []):=hx.mod H4.mod hxo
   have Jy:=H4.av 0 rfl
   have CO:=hf.2
   refine ite_true (by rw [← bU]; simpa using hi) (hx4.ld hi (nc (H4.an 0 (i:=27) rfl (au b 27) (zE hf.1) ?_)))
   refine aB (MA hf.1 b _ (by omega) _ _ Jy) ?_
   rintro _ w5 ⟨rfl,h5,m5⟩
   have H5:=H4.iP (r':=jC b _ az _ aT false) 0 rfl m5 (fun c hc=>.inl hc) h5 (fun c hc=>.inl hc)
   have JN:(flip (eD az (st j) ((ls.getD j []).take i)).1 (eD az (st j) ((ls.getD j []).take i)).2 ((ls.getD j []).getD i 0)).length=25:=(wT _ _ _).trans hf.1
   refine nc (H5.an 0 (i:=27) rfl (au b 27) (zE JN) ⟨⟨by omega,by omega⟩,nc (H5.st 0 (i:=27) rfl (au b 27) (by rw [wY JN]; omega) rfl fun w6 H6=>?_)⟩)
   have h6:=H6.av 0 rfl
   rw [show ((eD az (st j) ((ls.getD j []).take i)).2:Int)+1=(((eD az (st j) ((ls.getD j []).take i)).2+1:Nat):Int) by omega,HS JN] at h6
   refine aB (U0 JN b _ h6) ?_
   rintro _ w7 ⟨rfl,h7,m7⟩
   refine ⟨⟨by omega,by omega⟩,aM w7 ?_⟩
   rw [kY _ _ hi 0,wN]
   exact H6.iP (r':=jC b _ az _ aT false) 0 rfl m7 (fun c hc=>.inl hc) h7 (fun c hc=>.inl hc)
  ·intro again w4 H4
   refine ite_false (by rw [← bU]; simp) ⟨⟨by omega,by omega⟩,?_⟩
   refine aM w4 ?_
   have e1:st (j+1)=eD az (st j) ((ls.getD j []).take (ls.getD j []).length):=by
    simp only [st]
    rw [kY _ _ hj [],List.flatten_append,wN,List.take_length]
    simp
   rw [e1]
   exact H.iP (r':=jC b _ az _ aT false) 0 rfl H4.mod (fun c hc=>.inl hc) (H4.av 0 rfl) (fun c hc=>.inl hc)
 ·intro again w3 H
  have e:ls.take ls.length=ls:=List.take_length
  refine ite_false (by rw [hn]; simp) ⟨rfl,?_,H.mod⟩
  have:=H.av 0 rfl
  simp only [st,e] at this
  exact this
def EH (s:List aI×Nat):B8:=(g s.1 (s.2 / 8) >>> (8 * (s.2 % 8))).setWidth 8
def zT (az:Nat) (x:List B8×(List aI×Nat)) (_i:Nat):List B8×(List aI×Nat):=(x.1 ++ [EH (eI az x.2)],((eI az x.2).1,(eI az x.2).2+1))
def cN (az:Nat) (s:List aI×Nat) (n:Nat):List B8×(List aI×Nat):=up (zT az) ([],s) n
theorem A9 (az:Nat) (s:List aI×Nat) (n:Nat):cN az s (n+1)=zT az (cN az s n) n:=mC _ _ _
def tS (az:Nat) (s:List aI×Nat):Prop:=s.1.length=25∧s.2≤az
theorem tS.eI {az:Nat} (hr:0<az) {s:List aI×Nat} (h:tS az s):Fits az (eI az s):=by
 unfold YtgjoehgomjgckaaGreatDoor.eI
 split
 ·exact ⟨yQ _ h.1,hr⟩
 ·rename_i hn
  have:=h.2
  exact ⟨h.1,by omega⟩
theorem tS.cN {az:Nat} (hr:0<az) {s:List aI×Nat} (h:tS az s) (n:Nat):tS az (cN az s n).2:=by
 induction n with
 | zero=>exact h
 | succ n ih=>
  rw [A9]
  have:=ih.eI hr
  exact ⟨this.1,this.2⟩
theorem U1 (az:Nat) (s:List aI×Nat) (n:Nat):(cN az s n).1.length=n:=by
 induction n with
 | zero=>rfl
 | succ n ih=>rw [A9]; simp [zT,ih]
def close (az:Nat) (aT:B8) (s:List aI×Nat):List aI×Nat:=(flip (flip s.1 s.2 aT) (az - 1) 128,az)
theorem ae7 (p:Option Addr) (n:Int) (hn:p=none∨n<1∨1048576<n) (w:World):Ok Pr Dt [.pointer p,.int .i64 n] w fun v w'=>v=.slice none 0 0∧w'=w:=by
 refine Uw ?_
 unfold GL
 refine ite_true ?_ ⟨rfl,rfl⟩
 simp only [Bool.or_eq_true,decide_eq_true_eq]
 rcases hn with rfl | h | h
 ·exact .inl (.inl rfl)
 ·exact .inl (.inr h)
 ·exact .inr h
def ready (az:Nat) (aT:B8) (dx:Bool) (s:List aI×Nat):List aI×Nat:=if dx then s else close az aT s
theorem ah2 (n:Nat):(jV n (zc Pr aX)).take (0 * 1)=bp []:=by simp [bp]
theorem U2 {s:List aI×Nat} {az:Nat} {aT:B8} {dx:Bool} (hr0:8≤az) (hr:az≤192) (hs:if dx then tS az s else Fits az s) (b:Nat) (n:Nat) (hn:1≤n) (hn':n≤1048576) (w:World) (h:vr w b s.1 az s.2 aT dx) :
  Ok Pr Dt [.pointer (some ⟨b,0,none⟩),.int .i64 (n:Int)] w fun v w'=>∃ x:ah,v=.slice x.a x.n x.c∧Own w' w.heap.size aX 1 x (bp (cN az (ready az aT dx s) n).1)∧
   vr w' b (cN az (ready az aT dx s) n).2.1 az (cN az (ready az aT dx s) n).2.2 aT true∧Mod [b] w w':=by
 refine Uw ?_
 unfold GL
 refine ite_false (by simp; omega) (jJ fun go bY=>?_)
 have H:=ak.EF (r:=jC b s.1 az s.2 aT dx) h
 have Ft:∀ (s':List aI×Nat) (w1:World),s'=ready az aT dx s→tS az s'→ak w [b] w1 [jC b s'.1 az s'.2 aT true]→go w1:=by
  rintro s' w1 rfl hg H
  refine bY w1 ?_
  refine H.Tv (l:=0) (c:=n) iK rfl rfl (Nat.zero_le _) (by omega) (by omega) fun c w2 H hc=>?_
  rw [ah2] at H
  generalize ready az aT dx s=r at *
  refine k7 0 n (fun i x w'=>ak w [b] w' [jC b (cN az r i).2.1 az (cN az r i).2.2 aT true,.row aX 1 x (bp (cN az r i).1)]∧x.n=i) rfl (by omega) ⟨H,rfl⟩ ?_ ?_
  ·rintro again i x w3 _ hi ⟨H,hx⟩ aM
   have hq:=hg.cN (by omega) i
   have hf:=hq.eI (by omega)
   have hfa:=hf.2
   refine ite_true (by simp; omega) (aB (U0 hq.1 b _ (H.av 0 rfl)) ?_)
   rintro _ w4 ⟨rfl,h4,m4⟩
   have H4:=(H.iP (r':=jC b _ az _ aT true) 0 rfl m4 (fun c hc=>.inl hc) h4 (fun c hc=>.inl hc)).drew
   change ak w [b] _ [jC b (eI az (cN az r i).2).1 az (eI az (cN az r i).2).2 aT true,.row aX 1 x (bp (cN az r i).1)] at H4
   refine nc (H4.an 0 (i:=27) rfl (au b 27) (zE hf.1) ⟨⟨by omega,by rw [Zj]; omega⟩,nc ⟨⟨by omega,by omega⟩,?_⟩⟩)
   refine H4.an 0 (i:=(eI az (cN az r i).2).2 / 8) rfl (Tw b ((eI az (cN az r i).2).2 / 8)) (Xq hf.1 _ (by omega)) (nc (H4.an 0 (i:=27) rfl (au b 27) (zE hf.1) ⟨by omega,⟨by omega,by omega⟩,?_⟩))
   refine kM (by omega) ?_
   rw [show ((8:Int) * (((eI az (cN az r i).2).2:Int) % 8))=((8 * ((eI az (cN az r i).2).2 % 8):Nat):Int) by omega,zL,aaq]
   refine H4.Cv 1 iK rfl rfl (by simp [ey]) (by omega) (by omega) fun x' w6 H6 hx'=>?_
   change ak w [b] _ [jC b (eI az (cN az r i).2).1 az (eI az (cN az r i).2).2 aT true,.row aX 1 x' (bp (cN az r i).1 ++ [u8 (EH (eI az (cN az r i).2))])] at H6
   refine nc (H6.an 0 (i:=27) rfl (au b 27) (zE hf.1) ⟨⟨by omega,by omega⟩,nc (H6.st 0 (i:=27) rfl (au b 27) (by rw [wY hf.1]; omega) rfl fun w7 H7=>⟨⟨by omega,by omega⟩,?_⟩)⟩)
   refine aM x' w7 ⟨?_,by omega⟩
   rw [show ((eI az (cN az r i).2).2:Int)+1=(((eI az (cN az r i).2).2+1:Nat):Int) by omega,HS hf.1] at H7
   rw [A9]
   have e:bp (zT az (cN az r i) i).1=bp (cN az r i).1 ++ [u8 (EH (eI az (cN az r i).2))]:=by
    unfold zT; rw [PX]; rfl
   rw [e]
   exact H7
  ·rintro again x w3 ⟨H,hx⟩
   refine ite_false (by simp) ⟨x,rfl,H.fresh 1 rfl ?_,H.av 0 rfl,H.mod⟩
   intro c hc hcS
   exact H.apart 1 0 _ _ (by omega) rfl rfl c hc (by simpa [aD.av] using hcS)
 refine nc (H.mH 0 (i:=28) rfl (au b 28) (WM (by cases dx <;> exact hs.1)) ?_)
 cases dx with
 | true=>exact ite_false rfl (Ft s w rfl hs H)
 | false=>
  have hs:Fits az s:=hs
  have hsa:=hs.2
  have H:=H.drew
  refine ite_true rfl (nc (H.an 0 (i:=27) rfl (au b 27) (zE hs.1) (nc (H.an 0 (i:=26) rfl (au b 26) (akU hs.1) (aB (MA hs.1 b _ (by omega) _ _ (H.av 0 rfl)) ?_)))))
  rintro _ w3 ⟨rfl,h3,m3⟩
  have H3:=H.iP (r':=jC b _ az _ aT false) 0 rfl m3 (fun c hc=>.inl hc) h3 (fun c hc=>.inl hc)
  have l3:(flip s.1 s.2 aT).length=25:=(wT _ _ _).trans hs.1
  refine nc (H3.an 0 (i:=25) rfl (au b 25) (Ra l3) ⟨⟨by omega,by omega⟩,?_⟩)
  rw [show ((az:Int) - 1)=((az - 1:Nat):Int) by omega]
  refine aB (MA l3 b (az - 1) (by omega) 128 _ h3) ?_
  rintro _ w4 ⟨rfl,h4,m4⟩
  have H4:=H3.iP (r':=jC b _ az _ aT false) 0 rfl m4 (fun c hc=>.inl hc) h4 (fun c hc=>.inl hc)
  have l4:(flip (flip s.1 s.2 aT) (az - 1) 128).length=25:=(wT _ _ _).trans l3
  refine nc (H4.an 0 (i:=25) rfl (au b 25) (Ra l4) (nc (H4.st 0 (i:=28) rfl (au b 28) (by rw [wY l4]; omega) rfl fun w5 H5=>?_)))
  rw [afQ l4] at H5
  refine nc (H5.st 0 (i:=27) rfl (au b 27) (by show 27<(g9 _ _ _ _ _).length; rw [wY l4]; omega) rfl fun w6 H6=>?_)
  refine Ft (close az aT s) w6 rfl ⟨l4,Nat.le_refl _⟩ ?_
  rw [HS l4] at H6
  exact H6
end Go.Proofs.YtgjoehgomjgckaaGreatDoor
end
section
set_option linter.unusedVariables false
set_option linter.unusedSimpArgs false
namespace Go.Proofs.YtgjoehgomjgckaaGreatDoor
open Go Go.Ev
def xM (l:List B8) (a:List aI) (n:Nat):List aI:=up (fun a i=>flip a i (l.getD i 0)) a n
def mix (a:List aI) (l:List B8):List aI:=xM l a l.length
theorem ahi (l:List B8) (a:List aI) (n:Nat):(xM l a n).length=a.length:=y8 _ (fun _ _=>wT _ _ _) _ _
def rY (az:Nat) (l:List B8):List B8:=l ++ List.replicate ((az - l.length % az) % az) 0
theorem ajF {az:Nat} (hr:0<az) (l:List B8):(rY az l).length % az=0:=by
 unfold rY
 rw [List.length_append,List.length_replicate]
 have h1:=Nat.mod_lt l.length hr
 rcases Nat.eq_zero_or_pos (l.length % az) with h | h
 ·rw [h,Nat.sub_zero,Nat.mod_self,Nat.add_zero,h]
 ·rw [Nat.mod_eq_of_lt (by omega:az - l.length % az<az),Nat.add_mod,Nat.mod_eq_of_lt (by omega:az - l.length % az<az),show l.length % az+(az - l.length % az)=az by omega,Nat.mod_self]
def rK (az:Nat) (aT:B8) (l:List B8):List B8:=
 let p:=rY az (l ++ [aT])
 p.set (p.length - 1) (p.getD (p.length - 1) 0 ^^^ 128)
def blocks (az:Nat) (p:List B8) (a:List aI) (m:Nat):List aI:=up (fun a j=>perm (mix a ((p.drop (az * j)).take az))) a m
theorem afR (az:Nat) (p:List B8) (m:Nat):(blocks az p fY m).length=25:=by
 induction m with
 | zero=>rfl
 | succ m ih=>
  rw [show blocks az p fY (m+1)=perm (mix (blocks az p fY m) ((p.drop (az * m)).take az)) from mC _ _ _]
  exact yQ _ ((ahi _ _ _).trans ih)
def BK (az:Nat) (x:List B8×List aI) (i:Nat):List B8×List aI:=
 let a:=if 0<i∧i % az=0 then perm x.2 else x.2
 (x.1 ++ [(g a (i % az / 8) >>> (8 * (i % 8))).setWidth 8],a)
def outs (az:Nat) (a:List aI) (n:Nat):List B8×List aI:=up (BK az) ([],a) n
theorem Im (az:Nat) (a:List aI) (n:Nat):outs az a (n+1)=BK az (outs az a n) n:=mC _ _ _
theorem ahj (az:Nat) (a:List aI) (ha:a.length=25) (n:Nat):(outs az a n).1.length=n∧(outs az a n).2.length=25:=by
 induction n with
 | zero=>exact ⟨rfl,ha⟩
 | succ n ih=>
  rw [Im]
  refine ⟨by simp [BK,ih.1],?_⟩
  simp only [BK]
  split
  ·exact yQ _ ih.2
  ·exact ih.2
def BS (az:Nat) (aT:B8) (l:List B8) (n:Nat):List B8:=(outs az (blocks az (rK az aT l) fY ((rK az aT l).length / az)) n).1
theorem afS (az:Nat) (aT:B8) (l:List B8) (n:Nat):(BS az aT l n).length=n:=by
 unfold BS
 exact (ahj _ _ (afR _ _ _) _).1
theorem afT (az:Nat) (aT:B8) (l:List B8):(rK az aT l).length=(rY az (l ++ [aT])).length:=by simp [rK]
end Go.Proofs.YtgjoehgomjgckaaGreatDoor
end
section
set_option linter.unusedVariables false
set_option linter.unusedSimpArgs false
namespace Go.Proofs.YtgjoehgomjgckaaGreatDoor
open Go Go.Ev
theorem flip_flip (ws:List aI) (i:Nat) (x y:B8) (h:i / 8<ws.length):flip (flip ws i x) i y=flip ws i (x ^^^ y):=by
 unfold flip
 rw [List.set_set]
 congr 1
 have:g (ws.set (i / 8) (g ws (i / 8) ^^^ BitVec.setWidth 64 x <<< (8 * (i % 8)))) (i / 8)=g ws (i / 8) ^^^ BitVec.setWidth 64 x <<< (8 * (i % 8)):=by
  simp [g,h]
 rw [this,BitVec.xor_assoc,BitVec.setWidth_xor,BitVec.shiftLeft_xor_distrib]
theorem aiI (ws:List aI) (i:Nat):flip ws i 0=ws:=by
 unfold flip
 have h0:(BitVec.setWidth 64 (0:B8)) <<< (8 * (i % 8))=(0:aI):=by
  rw [show BitVec.setWidth 64 (0:B8)=(0:aI) from rfl]; exact BitVec.zero_shiftLeft _
 rw [h0,show g ws (i / 8) ^^^ (0:aI)=g ws (i / 8) from BitVec.xor_zero]
 rcases Nat.lt_or_ge (i / 8) ws.length with h | h
 ·have:g ws (i / 8)=ws[i / 8]:=by simp [g,h]
  rw [this,List.set_getElem_self]
 ·rw [List.set_eq_of_length_le h]
theorem agP (az:Nat) (a:List aI) (bl:List B8) (hb:bl.length=az) (k:Nat) (hk:k<az):eD az (a,0) (bl.take k)=(xM bl a k,k):=by
 induction k with
 | zero=>rfl
 | succ k ih=>
  rw [kY _ _ (by omega) 0,wN,ih (by omega)]
  show eI az (flip (xM bl a k) k (bl.getD k 0),k+1)=_
  unfold eI
  rw [if_neg (by show ¬ k+1=az; omega),show xM bl a (k+1)=flip (xM bl a k) k (bl.getD k 0) from mC _ _ _]
theorem afU (az:Nat) (hr:0<az) (a:List aI) (bl:List B8) (hb:bl.length=az):eD az (a,0) bl=(perm (mix a bl),0):=by
 obtain ⟨k,rfl⟩:∃ k,az=k+1:=⟨az - 1,by omega⟩
 have e:bl=bl.take k ++ [bl.getD k 0]:=by rw [← kY _ _ (by omega) 0,← hb,List.take_length]
 have h1:=agP (k+1) a bl hb k (by omega)
 have h2:mix a bl=flip (xM bl a k) k (bl.getD k 0):=by unfold mix; rw [hb]; exact mC _ _ _
 rw [h2]
 conv=>lhs; rw [e]
 rw [wN,h1]
 show eI (k+1) (flip (xM bl a k) k (bl.getD k 0),k+1)=_
 unfold eI
 rw [if_pos rfl]
theorem afV (az:Nat) (hr:0<az) (p:List B8) (m:Nat) (hm:az * m≤p.length):eD az (fY,0) (p.take (az * m))=(blocks az p fY m,0):=by
 induction m with
 | zero=>rfl
 | succ m ih=>
  rw [Nat.mul_add,Nat.mul_one] at hm
  have e:p.take (az * (m+1))=p.take (az * m) ++ (p.drop (az * m)).take az:=by rw [Nat.mul_add,Nat.mul_one,List.take_add]
  rw [e,wN,ih (by omega),afU az hr _ _ (by rw [List.length_take,List.length_drop]; omega)]
  rw [show blocks az p fY (m+1)=perm (mix (blocks az p fY m) ((p.drop (az * m)).take az)) from mC _ _ _]
theorem aiJ (az:Nat) (hr:0<az) (l:List B8):∀ (s:List aI×Nat),s.2<az→(eD az s l).2=(s.2+l.length) % az:=by
 induction l with
 | nil=>intro s h; exact (Nat.mod_eq_of_lt h).symm
 | cons x r ih=>
  intro s h
  show (eD az (ru az s x) r).2=_
  have h1:(ru az s x).2<az∧(ru az s x).2 % az=(s.2+1) % az:=by
   unfold ru eI
   split
   ·rename_i e
    have e':s.2+1=az:=e
    exact ⟨hr,by rw [e',Nat.mod_self]; rfl⟩
   ·rename_i e
    have e':¬ s.2+1=az:=e
    exact ⟨by show s.2+1<az; omega,rfl⟩
  rw [ih _ h1.1,Nat.add_mod,h1.2,← Nat.add_mod,List.length_cons]
  congr 1; omega
theorem Vz (az:Nat) (ws:List aI):∀ (k at_:Nat),at_+k<az→eD az (ws,at_) (List.replicate k 0)=(ws,at_+k)
 | 0,at_,_=>rfl
 | k+1,at_,h=>by
  show eD az (ru az (ws,at_) 0) (List.replicate k 0)=_
  have e:ru az (ws,at_) 0=(ws,at_+1):=by
   unfold ru eI
   rw [if_neg (by show ¬ at_+1=az; omega)]
   show (flip ws at_ 0,at_+1)=_
   rw [aiI]
  rw [e,Vz az ws k (at_+1) (by omega)]
  congr 1; omega
theorem aiK (az:Nat) (hr:8≤az) (CP:az≤192) (aT:B8) (l:List B8) :
  eD az (fY,0) (rK az aT l)=(perm (close az aT (eD az (fY,0) l)).1,0):=by
 have CO:=aiJ az (by omega) l (fY,0) (by show 0<az; omega)
 have hf:Fits az (eD az (fY,0) l):=Fits.eD l ⟨rfl,by show 0<az; omega⟩
 rw [Nat.zero_add] at CO
 rcases hs:eD az (fY,0) l with ⟨ws,at_⟩
 rw [hs] at CO hf
 have CO:at_=l.length % az:=CO
 have bZ:at_<az:=hf.2
 have fB:ws.length=25:=hf.1
 obtain ⟨k,hk,hak⟩:∃ k,(az - (l.length+1) % az) % az=k∧at_+1+k=az:=by
  refine ⟨_,rfl,?_⟩
  have h1:(l.length+1) % az=(at_+1) % az:=by rw [CO,Nat.add_mod,Nat.mod_eq_of_lt (by omega:1<az)]
  rcases Nat.lt_or_ge (at_+1) az with h | h
  ·rw [h1,Nat.mod_eq_of_lt h,Nat.mod_eq_of_lt (by omega:az - (at_+1)<az)]; omega
  ·rw [h1,show at_+1=az by omega,Nat.mod_self,Nat.sub_zero,Nat.mod_self]; omega
 have hz:rY az (l ++ [aT])=l ++ ([aT] ++ List.replicate k 0):=by
  unfold rY
  rw [List.length_append,List.length_cons,List.length_nil,hk,List.append_assoc]
 have hp:rK az aT l=l ++ ([aT] ++ List.replicate k 0).set k (([aT] ++ List.replicate k 0).getD k 0 ^^^ 128):=by
  show (rY az (l ++ [aT])).set ((rY az (l ++ [aT])).length - 1) ((rY az (l ++ [aT])).getD ((rY az (l ++ [aT])).length - 1) 0 ^^^ 128)=_
  have hlen:(rY az (l ++ [aT])).length - 1=l.length+k:=by rw [hz]; simp
  rw [hlen,hz,List.set_append_right _ _ (by omega),Nat.add_sub_cancel_left]
  congr 3
  rw [List.getD_eq_getElem?_getD,List.getD_eq_getElem?_getD,List.getElem?_append_right (by omega),Nat.add_sub_cancel_left]
 rw [hp,wN,hs]
 unfold close
 cases k with
 | zero=>
  show eI az (flip ws at_ (aT ^^^ 128),at_+1)=_
  unfold eI
  rw [if_pos (by show at_+1=az; omega)]
  rw [show az - 1=at_ by omega,flip_flip _ _ _ _ (by rw [fB]; omega)]
 | succ k=>
  have e:([aT] ++ List.replicate (k+1) 0).set (k+1) (([aT] ++ List.replicate (k+1) 0).getD (k+1) 0 ^^^ 128)=[aT] ++ List.replicate k 0 ++ [128]:=by
   have h1:([aT] ++ List.replicate (k+1) (0:B8)).getD (k+1) 0=0:=by simp
   rw [h1,List.replicate_succ',← List.append_assoc,List.set_append_right _ _ (by simp)]
   have h2:k+1 - ([aT] ++ List.replicate k (0:B8)).length=0:=by simp
   rw [h2]
   rfl
  rw [e,wN,wN]
  have e1:eD az (ws,at_) [aT]=(flip ws at_ aT,at_+1):=by
   show eI az (flip ws at_ aT,at_+1)=_
   unfold eI
   rw [if_neg (by show ¬ at_+1=az; omega)]
  rw [e1,Vz az _ k (at_+1) (by omega)]
  show eI az (flip (flip ws at_ aT) (at_+1+k) 128,at_+1+k+1)=_
  unfold eI
  rw [if_pos (by show at_+1+k+1=az; omega)]
  rw [show at_+1+k=az - 1 by omega]
theorem agQ (az:Nat) (hr:8≤az) (FP:az % 8=0) (a:List aI) (n:Nat) :
  (cN az (a,az) n).1=(outs az (perm a) n).1∧(cN az (a,az) n).2=(if n=0 then (a,az) else ((outs az (perm a) n).2,(n - 1) % az+1)):=by
 induction n with
 | zero=>exact ⟨rfl,rfl⟩
 | succ n ih=>
  obtain ⟨h1,h2⟩:=ih
  have ano:eI az (cN az (a,az) n).2=((outs az (perm a) (n+1)).2,n % az):=by
   rw [h2,Im]
   simp only [BK]
   cases n with
   | zero=>
    rw [if_pos rfl,if_neg (by omega)]
    unfold eI
    rw [if_pos rfl,Nat.zero_mod]
    rfl
   | succ n=>
    rw [if_neg (by omega)]
    unfold eI
    have bZ:=Nat.mod_lt n (show 0<az by omega)
    have hm:(n+1) % az=if n % az+1=az then 0 else n % az+1:=by
     rw [Nat.add_mod,Nat.mod_eq_of_lt (by omega:1<az)]
     split
     ·rename_i h; rw [h,Nat.mod_self]
     ·rw [Nat.mod_eq_of_lt (by omega)]
    simp only [Nat.add_sub_cancel]
    split
    ·rename_i h
     rw [if_pos h] at hm
     rw [if_pos ⟨by omega,hm⟩,hm]
    ·rename_i h
     rw [if_neg h] at hm
     rw [if_neg (by omega),hm]
  rw [A9]
  unfold zT
  rw [ano]
  refine ⟨?_,?_⟩
  ·show (cN az (a,az) n).1 ++ [EH ((outs az (perm a) (n+1)).2,n % az)]=_
   rw [h1]
   conv=>rhs; rw [Im]
   rw [Im]
   simp only [BK,EH]
   rw [Nat.mod_mod_of_dvd n (Nat.dvd_of_mod_eq_zero FP)]
  ·rw [if_neg (by omega),Nat.add_sub_cancel]
theorem WN (az:Nat) (hr:8≤az) (CP:az≤192) (FP:az % 8=0) (aT:B8) (l:List B8) (n:Nat) :
  BS az aT l n=(cN az (close az aT (eD az (fY,0) l)) n).1:=by
 have hp:=aiK az hr CP aT l
 have hm:az * ((rK az aT l).length / az)=(rK az aT l).length:=by
  have h1:=Nat.div_add_mod (rK az aT l).length az
  have h2:=ajF (show 0<az by omega) (l ++ [aT])
  rw [← afT] at h2
  omega
 have hb:=afV az (by omega) (rK az aT l) ((rK az aT l).length / az) (by omega)
 rw [hm,List.take_length,hp] at hb
 unfold BS
 rw [← (Prod.mk.inj hb).1]
 exact (agQ az hr FP _ n).1.symm
end Go.Proofs.YtgjoehgomjgckaaGreatDoor
end
section
set_option linter.unusedVariables false
set_option linter.unusedSimpArgs false
namespace Go.Proofs.YtgjoehgomjgckaaGreatDoor
open Go Go.Ev
def fh (az:Nat) (aT:B8) (l:List B8) (n:Int):List B8:=if 1≤n∧n≤1048576 then BS az aT l n.toNat else []
theorem aiL (az:Nat) (aT:B8) (l:List B8) (n:Nat) (h:1≤n) (h2:n≤1048576):fh az aT l (n:Int)=BS az aT l n:=by
 unfold fh
 rw [if_pos (by omega),Int.toNat_natCast]
theorem N1 (az:Nat) (hr:8≤az) (CP:az≤192) (FP:az % 8=0) (aT:B8) (hm:Su az aT=true) (n:Int) (parts:ah) (ls:List (List B8)) (w:World) (hp:e8 w [] parts ls)
  (EG:parts.n<1000000∧∀ l∈ls,l.length<1000000000) :
  Ok Pr DT [.int .i64 (az:Int),.int .u8 (aT.toNat:Int),.int .i64 n,.slice parts.a parts.n parts.c] w fun v w'=>∃ y:ah,v=.slice y.a y.n y.c∧Own w' w.heap.size aX 1 y (bp (fh az aT ls.flatten n))∧Mod [] w w':=by
 refine aeZ ?_
 unfold OX
 refine aB (Vq az aT hm w) ?_
 rintro _ w1 ⟨b,rfl,h1,hb,m1⟩
 have H:=(ak.start w).Zh m1 h1 hb
 have hp1:e8 w1 [b] parts ls:=(hp.new (T:=[b]) fun c hc=>.inr (by simp only [List.mem_singleton] at hc; subst hc; exact hb)).mod m1.of_nil
 refine ZW (aB (UR CP (s:=(fY,0)) ⟨rfl,by show 0<az; omega⟩ b parts ls _ h1 hp1 EG) ?_)
 rintro _ w2 ⟨rfl,h2,m2⟩
 have hf:Fits az (eD az (fY,0) ls.flatten):=Fits.eD _ ⟨rfl,by show 0<az; omega⟩
 have H2:=H.iP (r':=jC b _ az _ aT false) 0 rfl m2 (fun c hc=>.inl hc) h2 (fun c hc=>.inl hc)
 rcases Decidable.em (1≤n∧n≤1048576) with hn | hn
 ·obtain ⟨k,rfl⟩:∃ k:Nat,n=(k:Int):=⟨n.toNat,by omega⟩
  refine aB (U2 hr CP (dx:=false) (s:=eD az (fY,0) ls.flatten) hf b k (by omega) (by omega) _ h2) ?_
  rintro _ w3 ⟨x,rfl,hx,h3,m3⟩
  have Tx:Mod [] w w3:=H2.mod.trans' m3 fun c hc=>.inr (by simp only [List.mem_singleton] at hc; subst hc; exact hb)
  refine bW ⟨x,rfl,?_,Tx⟩
  unfold fh
  rw [if_pos hn,Int.toNat_natCast,WN az hr CP FP]
  obtain ⟨hl,e1 | ⟨gg,cap,cur,e1,e2,e3⟩⟩:=hx
  ·exact ⟨hl,.inl e1⟩
  ·exact ⟨hl,.inr ⟨gg,cap,cur,e1,Nat.le_trans H2.mod.size e2,e3⟩⟩
 ·refine aB (ae7 _ n (.inr (by omega)) _) ?_
  rintro _ _ ⟨rfl,rfl⟩
  refine bW (s:=⟨none,0,0⟩) ⟨⟨none,0,0⟩,rfl,?_,H2.mod⟩
  unfold fh
  rw [if_neg hn]
  exact Own.nil _ _ _ _
def nN (w w':World) (v:Value) (l:List B8):Prop:=∃ y:ah,v=.slice y.a y.n y.c∧Own w' w.heap.size aX 1 y (bp l)∧Mod [] w w'
def Small (parts:ah) (ls:List (List B8)):Prop:=parts.n<1000000∧∀ l∈ls,l.length<1000000000
theorem K9 (n:Int) (parts:ah) (ls:List (List B8)) (w:World) (hp:e8 w [] parts ls) (hs:Small parts ls):Ok Pr s7 [.int .i64 n,.slice parts.a parts.n parts.c] w fun v w'=>nN w w' v (fh 136 31 ls.flatten n):=by
 refine acB ?_
 unfold Lw
 refine aB (N1 136 (by omega) (by omega) rfl 31 rfl n parts ls w hp hs) ?_
 rintro _ w1 ⟨y,rfl,h1,h2⟩
 exact bW ⟨y,rfl,h1,h2⟩
theorem LK (parts:ah) (ls:List (List B8)) (w:World) (hp:e8 w [] parts ls) (hs:Small parts ls):Ok Pr Dz [.slice parts.a parts.n parts.c] w fun v w'=>nN w w' v (fh 136 6 ls.flatten 32):=by
 refine adb ?_
 unfold L3
 refine aB (N1 136 (by omega) (by omega) rfl 6 rfl 32 parts ls w hp hs) ?_
 rintro _ w1 ⟨y,rfl,h1,h2⟩
 exact bW ⟨y,rfl,h1,h2⟩
theorem LL (parts:ah) (ls:List (List B8)) (w:World) (hp:e8 w [] parts ls) (hs:Small parts ls):Ok Pr Dy [.slice parts.a parts.n parts.c] w fun v w'=>nN w w' v (fh 72 6 ls.flatten 64):=by
 refine ada ?_
 unfold L0
 refine aB (N1 72 (by omega) (by omega) rfl 6 rfl 64 parts ls w hp hs) ?_
 rintro _ w1 ⟨y,rfl,h1,h2⟩
 exact bW ⟨y,rfl,h1,h2⟩
def many (n:Int):Nat:=if 1≤n∧n≤1048576 then n.toNat else 0
theorem ajG {l m:List B8} (h:l.length=m.length) (he:∀ i,i<l.length→l.getD i 0=m.getD i 0):l=m:=by
 refine List.ext_getElem h fun i h1 h2=>?_
 have:=he i h1
 simpa [h1,h2] using this
theorem Ly (x y:ah) (l m:List B8) (w:World) (hx:Bytes w x l) (hy:Bytes w y m) (hl:l.length<1000000000000):Ok Pr Dw [.slice x.a x.n x.c,.slice y.a y.n y.c] w fun v w'=>v=.bool (decide (l=m))∧Mod [] w w':=by
 refine acL ?_
 unfold LH
 have bU:=hx.len
 have jU:=hy.len
 refine bV (fun h=>?_) (fun h=>?_)
 ·have:l≠m:=fun e=>by
   have:l.length=m.length:=by rw [e]
   simp only [Bool.not_eq_true',decide_eq_false_iff_not] at h
   omega
  exact ⟨by rw [decide_eq_false this],Mod.refl _ _⟩
 ·have hlen:l.length=m.length:=by
   simp only [Bool.not_eq_false',decide_eq_true_eq] at h
   omega
  refine dm 0 l.length (fun i w'=>Mod [] w w'∧∀ j,j<i→l.getD j 0=m.getD j 0) rfl (by omega) ⟨Mod.refl _ _,fun j h=>by omega⟩ ?_ ?_
  ·rintro again i w1 _ hi ⟨hm,he⟩ aM
   have FO:=hm.trans (Mod.drew [] w1)
   refine ite_true (by rw [← bU]; simpa using hi) ((hx.aG FO).ld hi ((hy.aG FO).ld (by omega) (bV (fun h=>?_) (fun h=>?_))))
   ·have:l≠m:=fun e=>by
     subst e
     simp at h
    exact ⟨by rw [decide_eq_false this],FO⟩
   ·refine ⟨⟨by omega,by omega⟩,aM _ ⟨FO,fun j hj=>?_⟩⟩
    rcases Nat.lt_or_ge j i with h1 | h1
    ·exact he j h1
    ·have:j=i:=by omega
     subst this
     simp only [Bool.not_eq_false',decide_eq_true_eq] at h
     exact toNat_eq.1 h
  ·rintro again w1 ⟨hm,he⟩
   refine ite_false (by rw [← bU]; simp) ⟨by rw [decide_eq_true (ajG hlen he)],hm⟩
def low (x n:Int):Nat:=(x % 18446744073709551616 % n).toNat
theorem Zk {x n:Int} (h:0<n):(low x n:Int)<n:=by
 unfold low
 have:=Int.emod_nonneg (x % 18446744073709551616) (show n≠0 by omega)
 have:=Int.emod_lt_of_pos (x % 18446744073709551616) h
 omega
theorem VR (x n:Int) (hn:0<n) (qk:n≤9223372036854775807) (w:World):Ok Pr HI [.int .i64 x,.int .i64 n] w fun v w'=>v=.int .i64 (low x n:Int)∧w'=w:=by
 refine afL ?_
 unfold PU
 have e:IntKind.wrap .u64 n=n:=by rw [wrap_u64]; omega
 rw [e,wrap_u64]
 have h1:=Int.emod_nonneg (x % 18446744073709551616) (show n≠0 by omega)
 have h2:=Int.emod_lt_of_pos (x % 18446744073709551616) hn
 refine RO hn ⟨Int.emod_nonneg _ (by decide),⟨by omega,by omega⟩,?_,rfl⟩
 unfold low
 congr 1
 omega
end Go.Proofs.YtgjoehgomjgckaaGreatDoor
end
section
set_option linter.unusedVariables false
set_option linter.unusedSimpArgs false
namespace Go.Proofs.YtgjoehgomjgckaaGreatDoor
open Go Go.Ev
def Laid (w:World):Prop:=w.cell? ⟨0,0,none⟩=some (.iface acK (.agg #[.pointer (some ⟨1,akP,none⟩)]))
theorem Laid.mod {w w':World} (h:Laid w) {S:List Nat} (m:Mod S w w') (h0:0∉S):Laid w':=m.cell h h0
theorem Laid.oO {w0 w:World} {S:List Nat} {L:List aD} (h:Laid w0) (H:ak w0 S w L) (h0:0∉S):Laid w:=h.mod H.mod h0
theorem Xr (w:World) (o1 o2 o3 o4:Obj) (p:Nat) (v:Value):Mod [p] w (((((w.alloc o1).alloc o2).alloc o3).alloc o4).setCell ⟨p,0,none⟩ v):=
 ((((Mod.alloc _ w o1).trans (Mod.alloc _ _ o2)).trans (Mod.alloc _ _ o3)).trans (Mod.alloc _ _ o4)).trans (Mod.setCell _ ⟨p,0,none⟩ v)
theorem Xs {w:World} {p:Nat} {u:Value} {t:TypeId} (h:bX w p [u] t) (o1 o2 o3 o4:Obj) (v:Value):bX (((((w.alloc o1).alloc o2).alloc o3).alloc o4).setCell ⟨p,0,none⟩ v) p [v] t:=
 ((((h.aG (Mod.alloc _ _ o1)).aG (Mod.alloc _ _ o2)).aG (Mod.alloc _ _ o3)).aG (Mod.alloc _ _ o4)).set 0 v
theorem aeu (e:Addr) (p:Nat) (u:Value) (w:World) (hg:Laid w) (hp:bX w p [u] jw) :
  Ok Pr Hq [.iface jw (.pointer (some e)),.iface UP (.pointer (some ⟨p,0,none⟩))] w fun v w'=>v=.bool true∧Mod [p] w w'∧bX w' p [.pointer (some e)] jw:=by
 refine Calls.mono (alE e ⟨p,0,none⟩ u w hg ((hp.cell 0).trans rfl) (hp.frozen 0)) ?_
 rintro _ _ ⟨rfl,rfl⟩
 exact ⟨_,rfl,rfl,Xr _ _ _ _ _ _ _,Xs hp _ _ _ _ _⟩
theorem ae8 (b:Nat) (c:Int) (p:Nat) (u:Value) (w:World) (hg:Laid w) (hc:w.cell? ⟨b,0,none⟩=some (.int .i64 c)) (hp:bX w p [u] qH) :
  Ok Pr Hq [.iface jw (.pointer (some ⟨b,0,none⟩)),.iface Vn (.pointer (some ⟨p,0,none⟩))] w fun v w'=>v=.bool true∧Mod [p] w w'∧bX w' p [.int .i64 c] qH:=by
 refine Calls.mono (akH b c ⟨p,0,none⟩ u w hg hc ((hp.cell 0).trans rfl) (hp.frozen 0)) ?_
 rintro _ _ ⟨rfl,rfl⟩
 exact ⟨_,rfl,rfl,Xr _ _ _ _ _ _ _,Xs hp _ _ _ _ _⟩
theorem ae9 (b:Nat) (c:Int) (w:World) (hc:w.cell? ⟨b,0,none⟩=some (.int .i64 c)):Ok Pr Bl [.iface jw (.pointer (some ⟨b,0,none⟩)),.iface qH (.int .i64 c)] w fun v w'=>v=.bool true∧w'=w:=by
 refine Calls.mono (XZ b c w hc) ?_
 rintro _ _ ⟨rfl,rfl⟩
 exact ⟨_,rfl,rfl,rfl⟩
theorem akV:zc Pr qH=[.int .i64 0]:=by kernel_rfl
theorem aoe:zc Pr jw=[.pointer none]:=by kernel_rfl
theorem VS (b:Nat) (c:Int) (w:World) (hg:Laid w) (hc:w.cell? ⟨b,0,none⟩=some (.int .i64 c)):Ok Pr DY [.iface jw (.pointer (some ⟨b,0,none⟩))] w fun v w'=>v=.int .i64 c∧Mod [] w w':=by
 refine afM ?_
 unfold PV
 rw [akV]
 refine (ak.start w).nw fun p w1 H hp=>?_
 refine WL (ite_false rfl (aB (ae8 b c p _ w1 (hg.oO H (by simp)) (H.mod.pP hc) (H.av 0 rfl)) ?_))
 rintro _ w2 ⟨rfl,m2,h2⟩
 have H2:=H.iP (r':=.av p [.int .i64 c] qH) 0 rfl m2 (fun c hc=>.inl hc) h2 (fun c hc=>.inl hc)
 exact bz (ite_true rfl (H2.an 0 rfl rfl rfl ⟨rfl,H2.mod⟩))
theorem agR (w:World):Ok Pr Bq [.nilIface] w fun v w'=>v=.int .i64 0∧w'=w:=by
 refine Vo ?_
 unfold HR
 exact ⟨rfl,rfl⟩
theorem ahk (b:Nat) (c:Int) (s:ByteArray) (w:World) (hg:Laid w) (hb:bX w b [.int .i64 c,.string s] pI) (hc:c≠0):Ok Pr Bq [.iface jw (.pointer (some ⟨b,0,none⟩))] w fun v w'=>v=.int .i64 c∧Mod [] w w':=by
 refine Vo ?_
 unfold HR
 rw [aoe]
 have CQ:w.cell? ⟨b,0,none⟩=some (.int .i64 c):=(hb.cell 0).trans rfl
 refine WL (ite_false rfl ((ak.start w).nw fun p w1 H hp=>jJ fun go bY=>?_))
 have H:=H.drew
 refine aB (aeu ⟨b,0,none⟩ p _ _ (hg.oO H (by simp)) (H.av 0 rfl)) ?_
 rintro _ w3 ⟨rfl,m3,h3⟩
 have H:=H.iP (r':=.av p [.pointer (some ⟨b,0,none⟩)] jw) 0 rfl m3 (fun c hc=>.inl hc) h3 (fun c hc=>.inl hc)
 have CR:w3.cell? (Addr.add ⟨b,0,none⟩ 0)=some (.int .i64 c):=by rw [Cw]; exact H.mod.pP CQ
 refine bz (H.mo 0 rfl rfl rfl (H.mo 0 rfl rfl rfl (ite_false rfl (nc ⟨c,CR,H.mo 0 rfl rfl rfl (ite_false (decide_eq_false hc) (nc ⟨c,CR,?_⟩))⟩))))
 refine aB (ae9 b c _ (by rw [← Cw]; exact CR)) ?_
 rintro _ _ ⟨rfl,rfl⟩
 refine bz (H.mo 0 rfl rfl rfl (ite_false rfl (nc ⟨c,CR,?_⟩)))
 refine aB (VS b c _ (hg.oO H (by simp)) (by rw [← Cw]; exact CR)) ?_
 rintro _ w5 ⟨rfl,m5⟩
 refine eE ⟨zm m5 CR,H.kept m5 0 rfl rfl 1,ite_false (by simp) (bY w5 ?_)⟩
 have H:=H.frame m5
 refine H.mo 0 rfl rfl rfl (nc ⟨c,?_,rfl,H.mod⟩)
 rw [Cw]; exact H.mod.pP CQ
end Go.Proofs.YtgjoehgomjgckaaGreatDoor
end
section
set_option linter.unusedVariables false
set_option linter.unusedSimpArgs false
namespace Go.Proofs.YtgjoehgomjgckaaGreatDoor
open Go Go.Ev Go.ChangeShapes Go.WideShapes Go.ChangeAt Go.RowKit
theorem own:ownKnob Tryz.prog.godebug=none:=by kernel_rfl
theorem laidOut:laidOutB Tryz.prog=true:=by kernel_rfl
theorem et:Tryz.prog.globalNamed "errors.errorType"=some 0:=by kernel_rfl
theorem rt:(Tryz.prog.cutTypes.find? (·.1 == "internal/reflectlite.rtype")).map (·.2)=some 183:=by kernel_rfl
theorem alO:((List.range 352).filter fun t=>Tryz.prog.rowNamed t [101,114,114,111,114])=[41]:=by kernel_rfl
theorem anp:Tryz.prog.types.size=352:=by kernel_rfl
theorem akW {W:World} (h:laidMetH Tryz.prog [("errors.errorType",Rows.laid_errors_errorType)] W):Laid W:=by
 have h':laidMet Tryz.prog [] W∧handlesMet Tryz.prog [("errors.errorType",Rows.laid_errors_errorType)] W:=h
 obtain ⟨name,u,ty,e1,e2,e3,e4,e5⟩:=h'.2 _ (List.mem_singleton.2 rfl)
 have en:name=[101,114,114,111,114]:=(Option.some.inj e1).symm
 subst en
 obtain rfl:=Option.some.inj (rt.symm.trans e2)
 have hm:ty∈(List.range 352).filter fun t=>Tryz.prog.rowNamed t [101,114,114,111,114]:=List.mem_filter.2 ⟨List.mem_range.2 (by rw [← anp]; exact e3),e4⟩
 rw [alO] at hm
 obtain rfl:=List.mem_singleton.1 hm
 have hh:typeHandle Tryz.prog 41=.pointer (some ⟨1,41,none⟩):=by kernel_rfl
 rw [hh] at e5
 have:=World.var?_cell et e5 0
 simpa [Laid] using this
noncomputable def QK (os:Os):World:=
 let w0:=World.holding Tryz.prog os ⟨#[],#[],[]⟩
 { w0 with heap:=w0.heap.modify 0 fun
   | .cells _ t frozen=>.cells #[.iface 183 (.agg #[.pointer (some ⟨1,41,none⟩)])] t frozen
   | o=>o }
theorem afW (os:Os) (args:Array Value):laidMetH Tryz.prog [("errors.errorType",Rows.laid_errors_errorType)] ((QK os).forCall (fun _ _=>0) ⟨#[],args,[]⟩).memory:=
 laidMetH_of_parts (laidMet_nil _ _) (by kernel_rfl)
end Go.Proofs.YtgjoehgomjgckaaGreatDoor
end
section
set_option linter.unusedVariables false
set_option linter.unusedSimpArgs false
namespace Go.Ev
open Go Go.RowKit Go.ChangeShapes Go.WideShapes Go.ChangeAt Go.Deep
variable {H:Type} {enc:TypeId×Value→H} {P:Program} {w:World} {held:Bool}
theorem Zl {k:IntKind} {n:Int} (h:(Lit.int k n).wf=true):k.min≤n∧n≤k.max:=by
 simpa [Lit.wf] using h
theorem afX {s:ah} {xs:List Int} (h:aan w s .u8 xs):Bytes w s (xs.map (BitVec.ofInt 8)):=by
 have e:bp (xs.map (BitVec.ofInt 8))=xs.map (Value.int .u8):=by
  unfold bp
  rw [List.map_map]
  refine List.map_congr_left fun x hx=>?_
  have h1:=h.2 x hx
  have e1:IntKind.min .u8=0:=by decide
  have e2:IntKind.max .u8=255:=by decide
  rw [e1,e2] at h1
  show Value.int .u8 _=_
  congr 1
  rw [BitVec.toNat_ofInt]
  omega
 unfold Bytes
 rw [e]
 exact h.1
end Go.Ev
end
section
set_option linter.unusedVariables false
set_option linter.unusedSimpArgs false
namespace Go.Ev
open Go Go.RowKit
theorem ajH {A1 A2 A3 A4:Type} {mk:A1→A2→A3→A4→Fr} {body:(A1→A2→A3→A4→World→Prop)→A1→A2→A3→A4→World→Prop} {y1:A1} {y2:A2} {y3:A3} {y4:A4} {v:World} (I:A1→A2→A3→A4→World→Prop) (μ:A1→A2→A3→A4→World→Nat) (hi:I y1 y2 y3 y4 v)
  (hb:∀ (again:A1→A2→A3→A4→World→Prop) x1 x2 x3 x4 w,I x1 x2 x3 x4 w→(∀ gZ jT mJ FQ w',I gZ jT mJ FQ w'→μ gZ jT mJ FQ w'<μ x1 x2 x3 x4 w→again gZ jT mJ FQ w')→body again x1 x2 x3 x4 w):Jj mk body y1 y2 y3 y4 v:=by
 intro X hX
 suffices ∀ n x1 x2 x3 x4 w,μ x1 x2 x3 x4 w<n→I x1 x2 x3 x4 w→X (mk x1 x2 x3 x4) w from this _ y1 y2 y3 y4 v (Nat.lt_succ_self _) hi
 intro n
 induction n with
 | zero=>intro x1 x2 x3 x4 w h; omega
 | succ n ih=>intro x1 x2 x3 x4 w hn hI; exact hX x1 x2 x3 x4 w (hb _ x1 x2 x3 x4 w hI fun gZ jT mJ FQ w' h1 h2=>ih gZ jT mJ FQ w' (by omega) h1)
theorem Xt {A1 A2 A3:Type} {mk:A1→A2→A3→Int→Fr} {body:(A1→A2→A3→Int→World→Prop)→A1→A2→A3→Int→World→Prop} {v:World} {z1:A1} {z2:A2} {z3:A3} {y:Int} (lo hi:Nat) (I:Nat→A1→A2→A3→World→Prop) (hy:y=(lo:Int)) (hle:lo≤hi) (h0:I lo z1 z2 z3 v)
  (step:∀ (again:A1→A2→A3→Int→World→Prop) (i:Nat) x1 x2 x3 w,lo≤i→i<hi→I i x1 x2 x3 w→(∀ gZ jT mJ w',I (i+1) gZ jT mJ w'→again gZ jT mJ ((i:Int)+1) w')→body again x1 x2 x3 (i:Int) w)
  (done:∀ (again:A1→A2→A3→Int→World→Prop) x1 x2 x3 w,I hi x1 x2 x3 w→body again x1 x2 x3 (hi:Int) w):Jj mk body z1 z2 z3 y v:=by
 subst hy
 refine ajH (fun x1 x2 x3 x w=>∃ i:Nat,x=(i:Int)∧lo≤i∧i≤hi∧I i x1 x2 x3 w) (fun _ _ _ x _=>hi - x.toNat) ⟨lo,rfl,Nat.le_refl _,hle,h0⟩ ?_
 rintro again x1 x2 x3 x w ⟨i,rfl,h1,h2,h3⟩ aM
 rcases Nat.lt_or_ge i hi with h | h
 ·exact step again i x1 x2 x3 w h1 h h3 fun gZ jT mJ w' h4=>aM gZ jT mJ _ w' ⟨i+1,by simp,by omega,by omega,h4⟩ (by omega)
 ·have:i=hi:=by omega
  subst this
  exact done again x1 x2 x3 w h3
theorem ajI {A1 A2 A3:Type} {mk:A1→A2→A3→Fr} {rest:A1→A2→A3→World→Prop} {first:(A1→A2→A3→World→Prop)→Prop} (h:∀ go:A1→A2→A3→World→Prop,(∀ x1 x2 x3 w,rest x1 x2 x3 w→go x1 x2 x3 w)→first go):ZS mk rest first:=
 fun _ hK=>h _ fun x1 x2 x3 w hw=>hK x1 x2 x3 w hw
end Go.Ev
end
section
set_option linter.unusedVariables false
set_option linter.unusedSimpArgs false
namespace Go.Ev
open Go Go.RowKit
variable {P:Program}
def i64 (n:Int):Value:=.int .i64 n
def cu (l:List Int):List Value:=l.map i64
theorem aiM (l:List Int):∀ v∈cu l,ey v=true:=by
 intro v hv
 obtain ⟨b,-,rfl⟩:=List.mem_map.1 hv
 rfl
@[simp] theorem VT (l:List Int):(cu l).length=l.length:=by simp [cu]
theorem DW (a b:List Int):cu (a ++ b)=cu a ++ cu b:=by simp [cu]
theorem ajJ (l:List Int) (i:Nat) (x:Int):(cu l).set i (.int .i64 x)=cu (l.set i x):=by simp [cu,i64,List.map_set]
theorem ajK (l:List Int) (i:Nat) (h:i<l.length):(cu l)[i]? = some (.int .i64 (l.getD i 0)):=by simp [cu,i64,h]
theorem WO (l:List Int) (n:Nat):(cu l).take n=cu (l.take n):=by simp [cu,List.map_take]
theorem aiN (l:List Int) (n:Nat):(cu l).drop n=cu (l.drop n):=by simp [cu,List.map_drop]
def dS (w:World) (s:ah) (l:List Int):Prop:=Sl w s 1 (cu l)
theorem dS.len {w:World} {s:ah} {l:List Int} (h:dS w s l):l.length=s.n:=by simpa using Sl.len h
theorem dS.aG {w w':World} {s:ah} {l:List Int} (h:dS w s l) (m:Mod [] w w'):dS w' s l:=Sl.aG h m
theorem dS.some {w:World} {s:ah} {l:List Int} (h:dS w s l) (h0:0<s.n):s.a.isSome=true:=h.pre h0
theorem dS.ld {w:World} {s:ah} {l:List Int} (h:dS w s l) {i:Nat} (hi:i<l.length) {x:Int} (hx:x=(i:Int)) {K:Int→Prop} (hk:K (l.getD i 0)) :
  aQ s.a x s.n (an .i64 (Addr.add (base s.a) (Int.toNat x * 1)) w K):=by
 subst hx
 have hl:=h.len
 refine ⟨⟨h.pre (by omega),by omega,by omega⟩,_,?_,hk⟩
 rw [Int.toNat_natCast,Nat.mul_one]
 exact h.cell i _ (ajK l i hi)
theorem Own.dJ {w:World} {lo:Nat} {e:TypeId} {s:ah} {l:List Int} (h:Own w lo e 1 s (cu l)):dS w s l:=h.sl
section
variable {w0 w:World} {S:List Nat} {L:List aD}
theorem ak.dJ (H:ak w0 S w L) (k:Nat) {e:TypeId} {s:ah} {l:List Int} (hk:L[k]? = some (.row e 1 s (cu l))):dS w s l:=H.fJ k hk
theorem ak.sA (H:ak w0 S w L) (k:Nat) {e:TypeId} {s:ah} {l:List Int} {i:Nat} {x n:Int} {K:World→Prop} (hk:L[k]? = some (.row e 1 s (cu l))) (hi:i<l.length) (hx:x=(i:Int))
  (h:∀ w',ak w0 S w' (L.set k (.row e 1 s (cu (l.set i n))))→K w'):aQ s.a x s.n (Ev.st (Addr.add (base s.a) (Int.toNat x * 1)) (.int .i64 n) w K):=by
 subst hx
 have hl:=(H.dJ k hk).len
 refine ⟨⟨(H.dJ k hk).pre (by omega),by omega,by omega⟩,?_⟩
 refine H.qQ k hk (i:=i) (by rw [Int.toNat_natCast,Nat.mul_one]) (by simpa using hi) rfl fun w' H'=>h w' ?_
 rw [← ajJ]; exact H'
theorem ak.aof (H:ak w0 S w L) (k:Nat) {t ty e:TypeId} {s x:ah} {vs us:List Int} {K:ah→World→Prop} (cD:fk P t e 1 8) (hk:L[k]? = some (.row e 1 s (cu vs))) (hx:dS w x us)
  (hm:s.n+x.n≤10000000000000) (h:∀ s' w',ak w0 S w' (L.set k (.row e 1 s' (cu (vs ++ us))))→s'.n=s.n+x.n→K s' w'):cJ P [t,t] ty [.slice s.a s.n s.c,.slice x.a x.n x.c] w K:=
 H.app k cD hk hx (aiM us) (by omega) (by omega) fun s' w' H' hn=>h s' w' (by rw [DW]; exact H') hn
theorem ak.Sv (H:ak w0 S w L) (k:Nat) {t ty e t1:TypeId} {s:ah} {vs:List Int} {n:Int} {K:ah→World→Prop} (cD:fk P t e 1 8) (hk:L[k]? = some (.row e 1 s (cu vs)))
  (hm:s.n≤10000000000000) (h:∀ s' w',ak w0 S w' (L.set k (.row e 1 s' (cu (vs ++ [n]))))→s'.n=s.n+1→K s' w'):Ev.nw t1 [.int .i64 n] w fun p w5=>cJ P [t,t] ty [.slice s.a s.n s.c,.slice (some p) 1 1] w5 K:=
 H.Cv k cD hk rfl (by simp [ey]) (by omega) (by omega) fun s' w' H' hn=>h s' w' (by rw [DW]; exact H') hn
theorem Xu (n:Nat) (v:Value):jV n [v]=List.replicate n v:=by
 unfold jV
 induction n with
 | zero=>rfl
 | succ n ih=>rw [List.replicate_succ,List.flatten_cons,ih]; rfl
theorem VU (n:Nat):jV n [.int .i64 0]=cu (List.replicate n 0):=by rw [Xu]; simp [cu,i64]
theorem ah3 (n:Nat):jV n [.int .u8 0]=bp (List.replicate n 0):=by rw [Xu]; simp [bp,u8]
theorem ak.JO (H:ak w0 S w L) {t e:TypeId} {n:Nat} {x y:Int} {K:ah→World→Prop} (cD:fk P t e 1 8) (hz:zc P e=[.int .i64 0]) (hx:x=(n:Int)) (hy:y=(n:Int)) (hn:n≤1000000000)
  (h:∀ s w',ak w0 S w' (L ++ [.row e 1 s (cu (List.replicate n 0))])→s.n=n→K s w'):j0 P e x y w K:=by
 refine H.Tv cD hx hy (Nat.le_refl n) (by omega) (by omega) fun b w' H' _=>h _ w' ?_ rfl
 rw [hz,VU,Nat.mul_one,List.take_of_length_le (by simp)] at H'
 exact H'
theorem ak.uv (H:ak w0 S w L) {t e:TypeId} {n:Nat} {x y:Int} {K:ah→World→Prop} (cD:fk P t e 1 1) (hz:zc P e=[.int .u8 0]) (hx:x=(n:Int)) (hy:y=(n:Int)) (hn:n≤1000000000)
  (h:∀ s w',ak w0 S w' (L ++ [.row e 1 s (bp (List.replicate n 0))])→s.n=n→K s w'):j0 P e x y w K:=by
 refine H.Tv cD hx hy (Nat.le_refl n) (by omega) (by omega) fun b w' H' _=>h _ w' ?_ rfl
 rw [hz,ah3,Nat.mul_one,List.take_of_length_le (by simp)] at H'
 exact H'
end
theorem wrap_i64 {n:Int} (h1:-9223372036854775808≤n) (h2:n<9223372036854775808):IntKind.wrap .i64 n=n:=by
 have e:IntKind.wrap .i64 n=if n % 18446744073709551616 ≥ 9223372036854775808 then n % 18446744073709551616 - 18446744073709551616 else n % 18446744073709551616:=by
  simp [IntKind.wrap,IntKind.signed,IntKind.bits]
 rw [e]
 split <;> omega
theorem SR {a b:Nat} (ha:a<9223372036854775808) (hb:b<9223372036854775808):iC .i64 (a:Int) (b:Int)=((a &&& b:Nat):Int):=by
 unfold iC
 have e:(BitVec.ofInt (IntKind.bits .i64) (a:Int) &&& BitVec.ofInt (IntKind.bits .i64) (b:Int)).toNat=a &&& b:=by
  rw [BitVec.toNat_and]
  show (BitVec.ofInt 64 (a:Int)).toNat &&& (BitVec.ofInt 64 (b:Int)).toNat=_
  rw [BitVec.toNat_ofInt,BitVec.toNat_ofInt]
  congr 1 <;> omega
 rw [e]
 have:a &&& b≤a:=Nat.and_le_left
 exact wrap_i64 (by omega) (by omega)
theorem orN {a b:Nat} (ha:a<9223372036854775808) (hb:b<9223372036854775808):sw .i64 (a:Int) (b:Int)=((a ||| b:Nat):Int):=by
 unfold sw
 have e:(BitVec.ofInt (IntKind.bits .i64) (a:Int) ||| BitVec.ofInt (IntKind.bits .i64) (b:Int)).toNat=a ||| b:=by
  rw [BitVec.toNat_or]
  show (BitVec.ofInt 64 (a:Int)).toNat ||| (BitVec.ofInt 64 (b:Int)).toNat=_
  rw [BitVec.toNat_ofInt,BitVec.toNat_ofInt]
  congr 1 <;> omega
 rw [e]
 have:a ||| b<2 ^ 63:=Nat.or_lt_two_pow (by omega) (by omega)
 exact wrap_i64 (by omega) (by omega)
theorem Cx {a k:Nat} (hk:k≤64) (h:a * 2 ^ k<9223372036854775808):shl .i64 (a:Int) (k:Int)=((a * 2 ^ k:Nat):Int):=by
 unfold shl
 rw [Int.toNat_natCast,show IntKind.bits .i64=64 from rfl,Nat.min_eq_left hk]
 have e:((a:Int) * 2 ^ k)=((a * 2 ^ k:Nat):Int):=by rw [Int.natCast_mul,Int.natCast_pow]; rfl
 rw [e]
 exact wrap_i64 (by omega) (by omega)
theorem Fu {a k:Nat} (ha:a<9223372036854775808):shr .i64 (a:Int) (k:Int)=((a / 2 ^ k:Nat):Int):=by
 unfold shr
 rw [show IntKind.bits .i64=64 from rfl,Int.toNat_natCast,Int.fdiv_eq_ediv_of_nonneg _ (by exact Int.le_of_lt (Int.pow_pos (by decide)))]
 have e:a / 2 ^ k=a / 2 ^ (min k 64):=by
  rcases Nat.le_total k 64 with h | h
  ·rw [Nat.min_eq_left h]
  ·rw [Nat.min_eq_right h,Nat.div_eq_of_lt (Nat.lt_of_lt_of_le (show a<2 ^ 64 by omega) (Nat.pow_le_pow_right (by decide) h)),Nat.div_eq_of_lt (by omega)]
 rw [e,Int.natCast_ediv,Int.natCast_pow]
 rfl
def num:List B8→Nat
 | []=>0
 | b :: r=>b.toNat+256 * num r
theorem Wk (l m:List B8):num (l ++ m)=num l+2 ^ (8 * l.length) * num m:=by
 induction l with
 | nil=>simp [num]
 | cons a r ih=>
  simp only [List.cons_append,num,ih,List.length_cons,Nat.mul_add,Nat.mul_one,Nat.pow_add]
  rw [show (2:Nat) ^ 8=256 from rfl]
  generalize 2 ^ (8 * r.length)=p
  have:256 * (p * num m)=p * 256 * num m:=by rw [Nat.mul_comm p 256,Nat.mul_assoc]
  omega
theorem Zm (l:List B8):num l<2 ^ (8 * l.length):=by
 induction l with
 | nil=>simp [num]
 | cons a r ih=>
  simp only [num,List.length_cons,Nat.mul_add,Nat.mul_one,Nat.pow_add]
  rw [show (2:Nat) ^ 8=256 from rfl]
  have:=a.isLt
  generalize 2 ^ (8 * r.length)=p at *
  omega
theorem afY (l:List B8) (k:Nat) (h:k<l.length):num (l.take (k+1))=num (l.take k)+2 ^ (8 * k) * (l.getD k 0).toNat:=by
 rw [List.take_succ_eq_append_getElem h,Wk,List.length_take,Nat.min_eq_left (by omega)]
 simp [num,h]
theorem ajL (l:List B8) (k:Nat) (h:k≤l.length):num l=num (l.take k)+2 ^ (8 * k) * num (l.drop k):=by
 have:=Wk (l.take k) (l.drop k)
 rw [List.take_append_drop,List.length_take,Nat.min_eq_left h] at this
 exact this
theorem Zn (a r c p d:Nat) (h:p+d≤c):(a+2 ^ c * r) / 2 ^ p % 2 ^ d=a / 2 ^ p % 2 ^ d:=by
 obtain ⟨e,rfl⟩:=Nat.exists_eq_add_of_le h
 have e1:2 ^ (p+d+e) * r=2 ^ p * (2 ^ d * (2 ^ e * r)):=by rw [Nat.pow_add,Nat.pow_add]; simp only [Nat.mul_assoc]
 rw [e1,Nat.add_mul_div_left _ _ (Nat.pow_pos (by decide)),Nat.add_mul_mod_self_left]
def uw (N d i:Nat):Nat:=N / 2 ^ (d * i) % 2 ^ d
theorem ajM (l:List B8) (k d i:Nat) (hk:k≤l.length) (h:d * (i+1)≤8 * k):uw (num (l.take k)) d i=uw (num l) d i:=by
 unfold uw
 rw [ajL l k hk,Zn _ _ _ _ _ (by rw [Nat.mul_succ] at h; exact h)]
theorem Zo (N d i:Nat):uw N d i<2 ^ d:=Nat.mod_lt _ (Nat.pow_pos (by decide))
def unpack (d:Nat) (l:List B8):List Int:=(List.range (8 * l.length / d)).map fun i=>((uw (num l) d i:Nat):Int)
theorem akX (x d:Nat):x &&& (2 ^ d - 1)=x % 2 ^ d:=Nat.and_two_pow_sub_one_eq_mod x d
theorem Yl {x n y:Nat} (h:x<2 ^ n):x ||| (y * 2 ^ n)=x+y * 2 ^ n:=by
 rw [Nat.mul_comm y,Nat.or_comm,← Nat.two_pow_add_eq_or_of_lt h,Nat.add_comm]
end Go.Ev
end
section
set_option linter.unusedVariables false
set_option linter.unusedSimpArgs false
namespace Go.Ev
open Go Go.RowKit
theorem ak.add {w0 w:World} {S:List Nat} {L:List aD} {r:aD} (H:ak w0 S w L) (hr:r.ok w) (ho:∀ b∈r.fp,b∈S∨w0.heap.size≤b) (hd:∀ (k:Nat) (s:aD),L[k]? = some s→∀ b∈s.fp,b∉r.fp):ak w0 S w (L ++ [r]):=by
 have e:∀ {k:Nat} {s:aD},(L ++ [r])[k]? = some s→(L[k]? = some s∧k<L.length)∨(s=r∧k=L.length):=fun {k s} h=>by
  rcases Nat.lt_or_ge k L.length with hk | hk
  ·rw [List.getElem?_append_left hk] at h; exact .inl ⟨h,hk⟩
  ·rw [List.getElem?_append_right hk] at h
   rcases Nat.eq_zero_or_pos (k - L.length) with e | e
   ·rw [e] at h; simp at h; exact .inr ⟨h.symm,by omega⟩
   ·rw [List.getElem?_eq_none (by simp; omega)] at h; cases h
 refine ⟨H.mod,fun k s hs=>?_,fun k s hs b hb=>?_,fun j k s t lI hs ht b hb iO=>?_⟩
 ·rcases e hs with ⟨h,_⟩ | ⟨rfl,_⟩
  ·exact H.ok k s h
  ·exact hr
 ·rcases e hs with ⟨h,_⟩ | ⟨rfl,_⟩
  ·exact H.own k s h b hb
  ·exact ho b hb
 ·rcases e hs with ⟨h,_⟩ | ⟨rfl,hj⟩
  ·rcases e ht with ⟨h',_⟩ | ⟨rfl,_⟩
   ·exact H.apart j k s t lI h h' b hb iO
   ·exact hd j s h b hb iO
  ·rcases e ht with ⟨h',_⟩ | ⟨rfl,hk⟩
   ·exact hd k t h' b iO hb
   ·omega
theorem ak.anq {w0 w w':World} {S:List Nat} {L:List aD} {r s:aD} (H:ak w0 S w L) (m:Mod [] w w') (hr:r.ok w') (hs:s.ok w') (hrf:∀ b∈r.fp,w.heap.size≤b) (hsf:∀ b∈s.fp,w.heap.size≤b) (hd:∀ b∈r.fp,b∉s.fp):ak w0 S w' (L ++ [r,s]):=by
 have H1:=H.push m hr hrf
 have H2:=H1.add hs (fun b hb=>.inr (Nat.le_trans H.mod.size (hsf b hb))) fun k t ht b hb iO=>by
  rcases Nat.lt_or_ge k L.length with hk | hk
  ·rw [List.getElem?_append_left hk] at ht
   have:=t.lt w (H.ok k t ht) b hb
   have:=hsf b iO
   omega
  ·rw [List.getElem?_append_right hk] at ht
   rcases Nat.eq_zero_or_pos (k - L.length) with e | e
   ·rw [e] at ht; simp at ht; subst ht; exact hd b hb iO
   ·rw [List.getElem?_eq_none (by simp; omega)] at ht; cases ht
 rw [List.append_assoc] at H2
 exact H2
theorem ak.clone {P:Program} {w0 w:World} {S:List Nat} {L:List aD} (H:ak w0 S w L) {t ty e:TypeId} {sz bytes:Nat} {x:ah} {us:List Value} {K:ah→World→Prop} (cD:fk P t e sz bytes) (hx:Sl w x sz us) (h1:∀ u∈us,ey u=true) (hm:x.n * bytes≤140737488355328) (uq:x.n≤9223372036854775807)
  (h:∀ s' w',ak w0 S w' (L ++ [.row e sz s' us])→s'.n=x.n→K s' w'):cJ P [t,t] ty [.slice none 0 0,.slice x.a x.n x.c] w K:=by
 have H1:=H.iZ e sz
 refine H1.app (s:=⟨none,0,0⟩) (vs:=[]) L.length cD (by simp) hx h1 (by rw [Nat.zero_add]; exact hm) (by rw [Nat.zero_add]; exact uq) fun s' w' H' hn=>h s' w' ?_ (by rw [hn]; exact Nat.zero_add _)
 rw [List.set_append_right _ _ (Nat.le_refl _),Nat.sub_self,List.nil_append] at H'
 exact H'
theorem ak.RQ {P:Program} {w0 w:World} {S:List Nat} {L:List aD} (H:ak w0 S w L) {t ty e:TypeId} {x:ah} {us:List B8} {K:ah→World→Prop} (cD:fk P t e 1 1) (hx:Bytes w x us) (hm:x.n≤10000000000000)
  (h:∀ s' w',ak w0 S w' (L ++ [.row e 1 s' (bp us)])→s'.n=x.n→K s' w'):cJ P [t,t] ty [.slice none 0 0,.slice x.a x.n x.c] w K:=
 H.clone cD hx (Xn us) (by omega) (by omega) h
end Go.Ev
namespace Go.Proofs.YtgjoehgomjgckaaGreatDoor
open Go Go.Ev
def fW (w:World) (e:Value) (c:Int):Prop:=(e=.nilIface∧c=0)∨∃ b s,e=.iface jw (.pointer (some ⟨b,0,none⟩))∧bX w b [.int .i64 c,.string s] pI∧c≠0
def Fv:Value→List Nat
 | .iface _ (.pointer (some a))=>[a.block]
 | _=>[]
def aD.err (e:Value) (c:Int):aD where
 fp:=Fv e
 ok w:=fW w e c
 kC w w' h k:=by
  rcases k with k | ⟨b,s,rfl,hb,hc⟩
  ·exact .inl k
  ·exact .inr ⟨b,s,rfl,(h b (by simp [Fv])).trans hb,hc⟩
 lt w h b hb:=by
  rcases h with ⟨rfl,_⟩ | ⟨a,s,rfl,h,_⟩
  ·cases hb
  ·simp only [Fv,List.mem_singleton] at hb; subst hb; exact h.lt
def cP (w w':World) (e:Value) (c:Int):Prop:=fW w' e c∧∀ b∈Fv e,w.heap.size≤b
theorem cP.zero (w w':World):cP w w' .nilIface 0:=⟨.inl ⟨rfl,rfl⟩,fun b hb=>by cases hb⟩
theorem cP.mk {w w':World} {b:Nat} {c:Int} {s:ByteArray} (h:bX w' b [.int .i64 c,.string s] pI) (hb:w.heap.size≤b) (hc:c≠0):cP w w' (.iface jw (.pointer (some ⟨b,0,none⟩))) c:=
 ⟨.inr ⟨b,s,rfl,h,hc⟩,fun a ha=>by simp only [Fv,List.mem_singleton] at ha; subst ha; exact hb⟩
theorem cP.from {w0 w w':World} {e:Value} {c:Int} (h:cP w w' e c) (hs:w0.heap.size≤w.heap.size):cP w0 w' e c:=⟨h.1,fun b hb=>Nat.le_trans hs (h.2 b hb)⟩
theorem fW.mod {w w':World} {e:Value} {c:Int} (h:fW w e c) (m:Mod [] w w'):fW w' e c:=by
 rcases h with k | ⟨b,s,rfl,hb,hc⟩
 ·exact .inl k
 ·exact .inr ⟨b,s,rfl,hb.aG m,hc⟩
theorem fW.isNil {w:World} {e:Value} {c:Int} (h:fW w e c) {K:Bool→Prop} (hk:K (decide (c=0))):fm e K:=by
 rcases h with ⟨rfl,rfl⟩ | ⟨b,s,rfl,_,hc⟩
 ·exact hk
 ·rw [decide_eq_false hc] at hk; exact hk
theorem VA (e:Value) (c:Int) (w:World) (hg:Laid w) (h:fW w e c):Ok Pr Bq [e] w fun v w'=>v=.int .i64 c∧Mod [] w w':=by
 rcases h with ⟨rfl,rfl⟩ | ⟨b,s,rfl,hb,hc⟩
 ·refine (agR w).mono ?_
  rintro _ _ ⟨rfl,rfl⟩
  exact ⟨rfl,Mod.refl _ _⟩
 ·exact ahk b c s w hg hb hc
def jA (e:TypeId) (sz:Nat) (w w':World) (v:Value) (vs:List Value) (c:Int):Prop:=
 ∃ (y:ah) (er:Value),v=.tuple ⟨[.slice y.a y.n y.c,er]⟩∧Own w' w.heap.size e sz y vs∧cP w w' er c∧(c≠0→y=⟨none,0,0⟩)∧Mod [] w w'
theorem jA.no {e:TypeId} {sz:Nat} {w w':World} {er:Value} {c:Int} (h:cP w w' er c) (m:Mod [] w w'):jA e sz w w' (.tuple ⟨[.slice none 0 0,er]⟩) [] c:=
 ⟨⟨none,0,0⟩,er,rfl,Own.nil _ _ _ _,h,fun _=>rfl,m⟩
theorem jA.yes {e:TypeId} {sz:Nat} {w w':World} {y:ah} {vs:List Value} (h:Own w' w.heap.size e sz y vs) (m:Mod [] w w'):jA e sz w w' (.tuple ⟨[.slice y.a y.n y.c,.nilIface]⟩) vs 0:=
 ⟨y,.nilIface,rfl,h,cP.zero _ _,fun h=>absurd rfl h,m⟩
theorem _root_.Go.Ev.ak.SS {w0 w w':World} {S:List Nat} {L:List aD} (H:ak w0 S w L) {e:TypeId} {sz:Nat} {y:ah} {er:Value} {vs:List Value} {c:Int} (m:Mod [] w w') (hy:Own w' w.heap.size e sz y vs) (he:cP w w' er c) (hn:c≠0→y=⟨none,0,0⟩) :
  ak w0 S w' (L ++ [.row e sz y vs,aD.err er c]):=
 ak.anq H m hy.lo he.1 (fun b hb=>(Own.ED hy b hb).1) he.2 fun b hb iO=>by
  rcases he.1 with ⟨rfl,_⟩ | ⟨_,_,_,_,hc⟩
  ·cases iO
  ·rw [hn hc] at hb; cases hb
theorem _root_.Go.Ev.ak.err {w0 w:World} {S:List Nat} {L:List aD} (H:ak w0 S w L) (k:Nat) {e:Value} {c:Int} (hk:L[k]? = some (aD.err e c)):fW w e c:=H.ok k _ hk
theorem _root_.Go.Ev.ak.gH {w0 w w':World} {S:List Nat} {L:List aD} (H:ak w0 S w L) {er:Value} {c:Int} (m:Mod [] w w') (he:cP w w' er c):ak w0 S w' (L ++ [aD.err er c]):=H.push m he.1 he.2
theorem BG:fk Pr fo bH 1 8:=fk.of (by kernel_rfl)
end Go.Proofs.YtgjoehgomjgckaaGreatDoor
end
section
set_option linter.unusedVariables false
set_option linter.unusedSimpArgs false
namespace Go.Ev
open Go Go.RowKit
theorem ak.alP {w0 w w':World} {S T:List Nat} {L:List aD} (H:ak w0 S w L) (k:Nat) {r r' n:aD} (hk:L[k]? = some r) (m:Mod T w w') (hT:∀ b∈T,b∈r.fp) (hr:r'.ok w') (hf:∀ b∈r'.fp,b∈r.fp) (hn:n.ok w') (Ty:∀ b∈n.fp,w.heap.size≤b) :
  ak w0 S w' (L.set k r' ++ [n]):=by
 have H':=H.iP k hk m (fun b hb=>.inl (hT b hb)) hr (fun b hb=>.inl (hf b hb))
 have old:∀ (j:Nat) (s:aD),(L.set k r')[j]? = some s→∀ b∈s.fp,b<w.heap.size:=by
  intro j s hs b hb
  rw [List.getElem?_set] at hs
  split at hs
  ·split at hs
   ·obtain rfl:=Option.some.inj hs
    exact r.lt w (H.ok k r hk) b (hf b hb)
   ·cases hs
  ·exact s.lt w (H.ok j s hs) b hb
 have e:∀ {j:Nat} {s:aD},(L.set k r' ++ [n])[j]? = some s→((L.set k r')[j]? = some s∧j<(L.set k r').length)∨(s=n∧j=(L.set k r').length):=fun {j s} h=>by
  rcases Nat.lt_or_ge j (L.set k r').length with hj | hj
  ·rw [List.getElem?_append_left hj] at h; exact .inl ⟨h,hj⟩
  ·rw [List.getElem?_append_right hj] at h
   rcases Nat.eq_zero_or_pos (j - (L.set k r').length) with e | e
   ·rw [e] at h; simp at h; exact .inr ⟨h.symm,by omega⟩
   ·rw [List.getElem?_eq_none (by simp at e ⊢; omega)] at h; cases h
 refine ⟨H'.mod,fun j s hs=>?_,fun j s hs b hb=>?_,fun i j s t AB hs ht b hb iO=>?_⟩
 ·rcases e hs with ⟨h,_⟩ | ⟨rfl,_⟩
  ·exact H'.ok j s h
  ·exact hn
 ·rcases e hs with ⟨h,_⟩ | ⟨rfl,_⟩
  ·exact H'.own j s h b hb
  ·exact .inr (Nat.le_trans H.mod.size (Ty b hb))
 ·rcases e hs with ⟨h,hi⟩ | ⟨rfl,hi⟩
  ·rcases e ht with ⟨h',_⟩ | ⟨rfl,_⟩
   ·exact H'.apart i j s t AB h h' b hb iO
   ·have:=old i s h b hb; have:=Ty b iO; omega
  ·rcases e ht with ⟨h',_⟩ | ⟨rfl,hj⟩
   ·have:=old j t h' b iO; have:=Ty b hb; omega
   ·omega
theorem e8.ofs {w:World} {S:List Nat} {b:Nat} {ss:List ah} {ls:List (List B8)} {t:TypeId} (h:bX w b (ss.map ah.v) t) (hb:b∉S) (hl:ss.length=ls.length) (hx:∀ (i:Nat) (x:ah) (l:List B8),ss[i]? = some x→ls[i]? = some l→Bytes w x l∧off S x) :
  e8 w S ⟨some ⟨b,0,none⟩,ss.length,ss.length⟩ ls:=
 ⟨ss,(by
  have:=h.sl 1 ss.length ss.length (by simp) (by omega)
  rw [Nat.mul_one,List.take_of_length_le (by simp)] at this
  exact this),fun _ a ha=>by simp only [Option.some.injEq] at ha; subst ha; exact hb,hl,hx⟩
theorem e8.zU {w:World} {S:List Nat} {b:Nat} {x y:ah} {l m:List B8} {t:TypeId} (h:bX w b [x.v,y.v] t) (hb:b∉S) (hx:Bytes w x l) (ox:off S x) (hy:Bytes w y m) (oy:off S y):e8 w S ⟨some ⟨b,0,none⟩,2,2⟩ [l,m]:=
 e8.ofs (ss:=[x,y]) h hb rfl fun i z k hz hk=>by
  match i with
  | 0=>
   simp only [List.getElem?_cons_zero,Option.some.injEq] at hz hk
   subst hz hk; exact ⟨hx,ox⟩
  | 1=>
   simp only [List.getElem?_cons_succ,List.getElem?_cons_zero,Option.some.injEq] at hz hk
   subst hz hk; exact ⟨hy,oy⟩
  | i+2=>simp at hz
theorem e8.ld0 {w0 w:World} {S:List Nat} {s:ah} {ls:List (List B8)} (h:e8 w0 S s ls) (m:Mod S w0 w) {i:Nat} (hi:i<ls.length) {K:ah→Prop} (hk:∀ x,Bytes w0 x (ls.getD i [])→off S x→K x) :
  aQ s.a (i:Int) s.n (ax (Addr.add (base s.a) (Int.toNat (i:Int) * 1)) w K):=by
 have hn:=h.len
 obtain ⟨ss,h1,h2,h3,h4⟩:=h.ex
 have CM:=h1.mod m h2
 refine ⟨⟨h1.pre (by omega),by omega,by omega⟩,ss[i]'(by omega),?_,?_⟩
 ·rw [Int.toNat_natCast,Nat.mul_one]
  exact CM.cell i _ (by simp [show i<ss.length by omega,ah.v])
 ·have:=h4 i (ss[i]'(by omega)) (ls.getD i []) (by simp [show i<ss.length by omega]) (by simp [hi])
  exact hk _ this.1 this.2
theorem anr {w w':World} {a:Addr} {v:Value} (h:w.cell? a=some v) (h':w'.cell? a=some v):kept a 1 w w':=fun j hj=>by
 have:j=0:=by omega
 subst this
 have e:a.add 0=a:=by unfold Addr.add; split <;> simp_all
 rw [e,h,h']
theorem ak.only {w0 w:World} {S:List Nat} {L:List aD} (H:ak w0 S w L) (k:Nat) {r:aD} (hk:L[k]? = some r):ak w0 S w [r]:=
 ⟨H.mod,fun j s hs=>by
  match j with
  | 0=>simp at hs; subst hs; exact H.ok k _ hk
  | j+1=>simp at hs,fun j s hs=>by
  match j with
  | 0=>simp at hs; subst hs; exact H.own k _ hk
  | j+1=>simp at hs,fun i j s t AB hs ht=>by
  match i,j with
  | 0,0=>exact absurd rfl AB
  | 0,j+1=>simp at ht
  | i+1,_=>simp at hs⟩
theorem ak.two {w0 w:World} {S:List Nat} {L:List aD} (H:ak w0 S w L) (k l:Nat) {r s:aD} (hk:L[k]? = some r) (hl:L[l]? = some s) (bO:k≠l):ak w0 S w [r,s]:=
 (H.only k hk).add (H.ok l _ hl) (H.own l _ hl) fun j u hj b hb=>by
  match j with
  | 0=>
   simp at hj; subst hj
   exact H.apart k l _ _ bO hk hl b hb
  | j+1=>simp at hj
theorem ak.Rb {w0 w:World} {S:List Nat} {L:List aD} (H:ak w0 S w L) (k:Nat) {b:Nat} {l:List B8} {t:TypeId} (hk:L[k]? = some (.av b (bp l) t)):Bytes w ⟨some ⟨b,0,none⟩,l.length,l.length⟩ l:=by
 have:=(H.av k hk).sl 1 l.length l.length (by simp) (Nat.le_refl _)
 rw [Nat.mul_one,List.take_of_length_le (by simp)] at this
 exact this
theorem UI {P:Program} (w:World) (t ti ty e:TypeId) (i:TypeInfo) (z:Value) {k:IntKind} (ht:P.underlying t=some (.slice e)) (ry:P.underlying ti=some (.int k)) (hi:P.info? e=some i) (hz:i.zero=some z)
  (g uh Jz m:Nat) (cur:Array Value) (hg:w.heap[g]? = some (.cells cur e (0,0))) (hs:i.size=1) (v:Value) (qn:z.cells=#[v]) (hv:v.oneCell'=true) (hm:m * i.bytes≤281474976710656) (uq:m<9223372036854775808)
  (oK:uh+m≤Jz) (JA:uh+m≤cur.size) :
  (Builtin.append_ #[t,ti] ty #[.slice (some ⟨g,0,none⟩) uh Jz,.int .i64 (m:Int)]).run P w =
   .ok (.slice (some ⟨g,0,none⟩) (uh+m) Jz) (w.setRow g (cur.toList.take uh ++ List.replicate m v ++ cur.toList.drop (uh+m)).toArray):=by
 have FR:IntKind.wrap .i64 (m:Int)=(m:Int):=wrap_i64 (by omega) (by omega)
 have hle:¬ ((m:Int) * (i.bytes:Int) > 2 ^ 48):=by
  have e1:((m:Int) * (i.bytes:Int))=((m * i.bytes:Nat):Int):=by rw [Int.natCast_mul]
  rw [e1,show (2:Int) ^ 48=281474976710656 by decide]
  omega
 have aog:¬ (281474976710656<(m:Int) * (i.bytes:Int)):=fun h=>hle (by rw [show (2:Int) ^ 48=281474976710656 by decide]; exact h)
 have jS:(Builtin.zeroCells z.cells m).toList=List.replicate m v:=by
  unfold Builtin.zeroCells
  rw [qn]
  refine List.ext_getElem (by simp) fun j h1 h2=>?_
  simp [Nat.mod_one]
 have ql:=run_storeCells_at (P:=P) g (uh * i.size) e (List.replicate m v) 0 cur w hg (by rw [hs,List.length_replicate]; omega) fun u hu=>by rw [List.eq_of_mem_replicate hu]; exact hv
 simp only [Nat.add_zero,hs,Nat.mul_one,List.length_replicate] at ql
 rcases Nat.eq_zero_or_pos m with rfl | h0
 ·have qW:(w.setRow g (cur.toList.take uh ++ List.replicate 0 v ++ cur.toList.drop (uh+0)).toArray)=w:=by
   have:=setRow_self w g cur e (0,0) hg
   simpa using this
  rw [qW]
  simp [Builtin.append_,run_underlying ht,run_underlying ry,Go.sizeOf,Go.typeInfo,hi,asInt,asIntOf,show uh≤Jz by omega,storeCells,show IntKind.wrap .i64 0=0 by decide]
 ·have iN:¬ m * i.size=0:=by rw [hs]; omega
  simp [Builtin.append_,run_underlying ht,run_underlying ry,Go.sizeOf,Go.typeInfo,hi,asInt,asIntOf,FR,show ¬ ((m:Int)<0) by omega,aog,oK,hs,zeroValue,hz,jS,Addr.add_lit,ql,show ¬ m=0 by omega]
theorem ak.aoh {P:Program} {w0 w:World} {S:List Nat} {L:List aD} (H:ak w0 S w L) (k:Nat) {t ti ty e:TypeId} {q:IntKind} {bytes b n c m:Nat} {x:Int} {v:Value} {cs:List Value} {K:ah→World→Prop} (cD:fk P t e 1 bytes) (ry:P.underlying ti=some (.int q)) (hz:zc P e=[v]) (hv:ey v=true)
  (hk:L[k]? = some (.av b cs e)) (hx:x=(m:Int)) (jo:cs.length=c) (oK:n+m≤c) (hm:m * bytes≤281474976710656) (uq:m<9223372036854775808)
  (h:∀ w',ak w0 S w' (L.set k (.av b (cs.take n ++ List.replicate m v ++ cs.drop (n+m)) e))→K ⟨some ⟨b,0,none⟩,n+m,c⟩ w'):cJ P [t,ti] ty [.slice (some ⟨b,0,none⟩) n c,.int .i64 x] w K:=by
 subst hx
 obtain ⟨i,z,hi,CS,j5,oX,jS⟩:=cD.info
 have qn:z.cells=#[v]:=by
  have:z.cells.toList=[v]:=by
   have h2:zc P e=z.cells.toList:=by unfold zc; rw [hi]; simp only [CS]
   rw [← h2]; exact hz
  rw [← Array.toArray_toList (xs:=z.cells),this]
 have j4:v.oneCell'=true:=by cases v <;> first | rfl | cases hv
 have hr:=UI (P:=P) w t ti ty e i z cD.sy ry hi CS b n c m ⟨cs⟩ (H.av k hk) j5 v qn j4 (by rw [oX]; exact hm) uq oK (by show n+m≤cs.length; omega)
 refine ⟨_,_,hr,⟨some ⟨b,0,none⟩,n+m,c⟩,rfl,h _ ?_⟩
 exact H.iP (T:=[b]) k hk ⟨rfl,rfl,rfl,by simp,fun j _ hj=>setRow_other w b j _ (fun e=>hj (by simp [e]))⟩ (fun c hc=>.inl hc) (setRow_heap w b _ _ e _ (H.av k hk)) (fun c hc=>.inl hc)
end Go.Ev
namespace Go.Proofs.YtgjoehgomjgckaaGreatDoor
open Go Go.Ev
set_option linter.unusedVariables false
theorem ahl {az:Nat} {aT:B8} {dx:Bool} {s:List aI×Nat} (h:if dx then tS az s else Fits az s):tS az (ready az aT dx s):=by
 cases dx with
 | true=>exact h
 | false=>exact ⟨(wT _ _ _).trans ((wT _ _ _).trans h.1),Nat.le_refl _⟩
theorem RR {parts:ah} {l:List B8} (hn:parts.n=1) (hl:l.length≤1000000):Small parts [l]:=⟨by omega,fun m hm=>by rw [List.mem_singleton.1 hm]; omega⟩
theorem tw (az:Nat) (aT:B8) (l:List B8) (n:Nat) (h:n≤1048576):(fh az aT l (n:Int)).length=n:=by
 unfold fh
 split
 ·rw [Int.toNat_natCast,afS]
 ·simp only [List.length_nil]; omega
theorem O6 (az:Nat) (s:List aI×Nat) (m n:Nat):cN az s (m+n)=((cN az s m).1 ++ (cN az (cN az s m).2 n).1,(cN az (cN az s m).2 n).2):=by
 induction n with
 | zero=>simp [cN,akR]
 | succ n ih=>
  rw [← Nat.add_assoc,A9,ih,A9]
  simp [zT,List.append_assoc]
theorem _root_.Go.Ev.ak.alQ {w0 w:World} {S:List Nat} {L:List aD} (H:ak w0 S w L) (k:Nat) {b az:Nat} {s:List aI×Nat} {aT:B8} (hk:L[k]? = some (jC b s.1 az s.2 aT false)) (hr:az≤192) (hs:Fits az s) {parts:ah} {ls:List (List B8)}
  (hp:e8 w [b] parts ls) (EG:Small parts ls) {K:Value→World→Prop} (h:∀ w',Mod [b] w w'→ak w0 S w' (L.set k (jC b (eD az s ls.flatten).1 az (eD az s ls.flatten).2 aT false))→K .nilIface w') :
  ay Pr Ds [.pointer (some ⟨b,0,none⟩),.slice parts.a parts.n parts.c] w K:=by
 refine aB (UR hr hs b parts ls _ (H.av k hk) hp EG) ?_
 rintro _ w1 ⟨rfl,h1,m1⟩
 exact h w1 m1 (H.iP k hk m1 (fun c hc=>.inl hc) h1 (fun c hc=>.inl hc))
theorem ZX {az:Nat} (h:8≤az):Fits az ((fY,0):List aI×Nat):=⟨rfl,by show 0<az; omega⟩
def sB (az:Nat) (aT:B8) (s:List aI×Nat) (m:Nat):List aI×Nat:=if m=0 then s else (cN az (close az aT s) m).2
def vZ (m:Nat):Bool:=decide (0<m)
theorem aiO (az:Nat) (aT:B8) (s:List aI×Nat) (m:Nat):ready az aT (vZ m) (sB az aT s m)=(cN az (close az aT s) m).2:=by
 unfold sB vZ ready
 rcases Nat.eq_zero_or_pos m with rfl | h
 ·rfl
 ·rw [if_pos (by simp; omega),if_neg (by omega)]
theorem alR {az:Nat} {aT:B8} {s:List aI×Nat} (hr:8≤az) (hs:Fits az s) (m:Nat):if vZ m=true then tS az (sB az aT s m) else Fits az (sB az aT s m):=by
 unfold sB vZ
 rcases Nat.eq_zero_or_pos m with rfl | h
 ·simpa using hs
 ·rw [if_neg (show ¬ m=0 by omega),if_pos (by simp [h])]
  exact (ahl (dx:=false) hs).cN (by omega) m
theorem akY {parts:ah} {ls:List (List B8)} (hn:parts.n<1000000) (h:∀ l∈ls,l.length≤1000000):Small parts ls:=⟨hn,fun l hl=>by have:=h l hl; omega⟩
theorem zA {parts:ah} {l m:List B8} (hn:parts.n=2) (hl:l.length≤1000000) (hm:m.length≤1000000):Small parts [l,m]:=akY (by omega) fun k hk=>by
 simp only [List.mem_cons,List.not_mem_nil,or_false] at hk
 rcases hk with rfl | rfl <;> omega
theorem yR (n:Int):IntKind.wrap .u8 n=((BitVec.ofInt 8 n).toNat:Int):=by
 rw [wrap_u8,BitVec.toNat_ofInt]
 omega
end Go.Proofs.YtgjoehgomjgckaaGreatDoor
end
section
set_option linter.unusedVariables false
set_option linter.unusedSimpArgs false
namespace Go.Ev
open Go
set_option maxRecDepth 20000
set_option linter.unusedVariables false
theorem ak.join {w0 w w':World} {S:List Nat} {L L2:List aD} (H:ak w0 S w L) (H2:ak w [] w' L2):ak w0 S w' (L ++ L2):=by
 have HF:=H.frame H2.mod
 have SW:∀ (k:Nat) (r:aD),L2[k]? = some r→∀ b∈r.fp,w.heap.size≤b:=fun k r hk b hb=>(H2.own k r hk b hb).resolve_left (by simp)
 have lt1:∀ (k:Nat) (r:aD),L[k]? = some r→∀ b∈r.fp,b<w.heap.size:=fun k r hk b hb=>r.lt w (H.ok k r hk) b hb
 have split:∀ (k:Nat) (r:aD),(L ++ L2)[k]? = some r→(k<L.length∧L[k]? = some r)∨(L.length≤k∧L2[k - L.length]? = some r):=fun k r hk=>by
  rcases Nat.lt_or_ge k L.length with h | h
  ·rw [List.getElem?_append_left h] at hk; exact .inl ⟨h,hk⟩
  ·rw [List.getElem?_append_right h] at hk; exact .inr ⟨h,hk⟩
 refine ⟨HF.mod,fun k r hk=>?_,fun k r hk b hb=>?_,fun j k r s lI hj hk b hb yl=>?_⟩
 ·rcases split k r hk with ⟨_,h⟩ | ⟨_,h⟩
  ·exact HF.ok k r h
  ·exact H2.ok _ r h
 ·rcases split k r hk with ⟨_,h⟩ | ⟨_,h⟩
  ·exact HF.own k r h b hb
  ·exact .inr (Nat.le_trans H.mod.size (SW _ r h b hb))
 ·rcases split j r hj with ⟨h0,h⟩ | ⟨h0,h⟩ <;> rcases split k s hk with ⟨h1,h'⟩ | ⟨h1,h'⟩
  ·exact HF.apart j k r s lI h h' b hb yl
  ·have:=lt1 j r h b hb
   have:=SW _ s h' b yl
   omega
  ·have:=lt1 k s h' b yl
   have:=SW _ r h b hb
   omega
  ·exact H2.apart _ _ r s (by omega) h h' b hb yl
theorem afZ {z:Value} {v:Value} (hz:z.cells=#[v]) (m:Nat):(Builtin.zeroCells z.cells m).toList=List.replicate m v:=by
 unfold Builtin.zeroCells
 rw [hz]
 refine List.ext_getElem (by simp) fun j h1 h2=>?_
 simp [Nat.mod_one]
section
variable {P:Program}
theorem ajN {t ti ty e:TypeId} {q:IntKind} {bytes lo m:Nat} {s:ah} {v:Value} {vs:List Value} {w:World} (cD:fk P t e 1 bytes) (ry:P.underlying ti=some (.int q)) (hz:zc P e=[v]) (hv:ey v=true) (hs:Own w lo e 1 s vs)
  (hb:(s.n+m) * bytes≤140737488355328) (hm:s.n+m≤1000000000) (mq:lo≤w.heap.size) :
  ∃ s':ah,∃ w',(Builtin.append_ #[t,ti] ty #[s.v,.int .i64 (m:Int)]).run P w=.ok s'.v w'∧Own w' lo e 1 s' (vs ++ List.replicate m v)∧Mod s.row w w'∧s'.n=s.n+m∧(∀ b∈s'.row,b∈s.row∨w.heap.size≤b):=by
 obtain ⟨i,z,hi,CS,j5,oX,jS⟩:=cD.info
 have qn:z.cells=#[v]:=by
  have:z.cells.toList=[v]:=by
   have h2:zc P e=z.cells.toList:=by unfold zc; rw [hi]; simp only [CS]
   rw [← h2]; exact hz
  rw [← Array.toArray_toList (xs:=z.cells),this]
 have j4:v.oneCell'=true:=by cases v <;> first | rfl | cases hv
 have FT:m * i.bytes≤281474976710656:=by
  rw [oX]
  have:m * bytes≤(s.n+m) * bytes:=Nat.mul_le_mul_right _ (by omega)
  omega
 obtain ⟨sa,sn,sc⟩:=s
 dsimp only at hb hm
 have grow:∀ (ba:Option Addr),sc<sn+m→0<m→vs.length=sn→(Builtin.firstCells i.size sn (.slice ba sn sc)).run P w.drew=.ok vs.toArray w.drew→∃ s':ah,∃ w',(Builtin.append_ #[t,ti] ty #[.slice ba sn sc,.int .i64 (m:Int)]).run P w=.ok s'.v w'∧Own w' lo e 1 s' (vs ++ List.replicate m v)∧Mod (ah.row ⟨sa,sn,sc⟩) w w'∧s'.n=sn+m∧(∀ b∈s'.row,b∈ah.row ⟨sa,sn,sc⟩∨w.heap.size≤b):=by
  intro ba hg h0 vX hold
  have hr:=Go.Lib.run_append_grow_zeros (P:=P) w t ti ty e i z .i64 q cD.sy ry hi CS ba sn sc vs hold m h0 (by omega) hg (by omega) FT (growslice_fits hg (by rw [oX]; exact hb))
  have vY:=grownCap_ge w (sn+m) sc e
  have vW:grownCap w (sn+m) sc e≤maxLen:=grownCap_le_maxLen w (sn+m) sc e (by simp only [maxLen]; omega)
  refine ⟨⟨some ⟨w.heap.size,0,none⟩,sn+m,grownCap w (sn+m) sc e⟩,_,hr,⟨?_,.inr ⟨w.heap.size,_,_,rfl,mq,heap_alloc_new w.drew _,vY,vW,?_,?_⟩⟩,(Mod.drew _ w).trans (Mod.alloc _ w.drew _),rfl,?_⟩
  ·rw [List.length_append,List.length_replicate]; show vs.length+m=(sn+m) * 1; omega
  ·simp only [Array.size_append,List.size_toArray,size_zeroCells,jS,vX]
   omega
  ·simp only [Array.toList_append,afZ qn]
   rw [List.take_left' (by rw [List.length_append,List.length_replicate]; omega)]
  ·intro b hb
   simp only [ah.row,List.mem_singleton] at hb
   exact .inr (by omega)
 have ux:vs.length=sn:=by have:=hs.1; simpa using this
 rcases hs.2 with ⟨hv,hn⟩ | ⟨g,cap,cur,hv,hlg,hg,CN,vW,jo,Ch⟩
 ·simp only [ah.v,Value.slice.injEq] at hv
  obtain ⟨rfl,rfl,rfl⟩:=hv
  rcases Nat.eq_zero_or_pos m with rfl | h0
  ·refine ⟨⟨none,0,0⟩,w,?_,by simpa using hs,Mod.refl _ _,rfl,fun b hb=>.inl hb⟩
   simp [ah.v,Builtin.append_,run_underlying cD.sy,run_underlying ry,Go.sizeOf,Go.typeInfo,hi,asInt,asIntOf,show IntKind.wrap .i64 0=0 by decide]
  ·have vX:vs=[]:=List.eq_nil_of_length_eq_zero ux
   subst vX
   exact grow none (by omega) h0 rfl (run_firstCells_none w.drew i.size 0 0 0)
 ·simp only [ah.v,Value.slice.injEq] at hv
  obtain ⟨rfl,-,rfl⟩:=hv
  by_cases oK:sn+m≤sc
  ·have hr:=UI (P:=P) w t ti ty e i z cD.sy ry hi CS g sn sc m cur hg j5 v qn j4 FT (by omega) oK (by omega)
   refine ⟨⟨some ⟨g,0,none⟩,sn+m,sc⟩,_,hr,⟨by rw [List.length_append,List.length_replicate]; show vs.length+m=(sn+m) * 1; omega,.inr ⟨g,sc,_,rfl,hlg,setRow_heap w g cur _ e (0,0) hg,oK,vW,?_,?_⟩⟩,⟨rfl,rfl,rfl,by simp,fun j _ hj=>setRow_other w g j _ (fun e=>hj (by simp [ah.row,e]))⟩,rfl,fun b hb=>.inl hb⟩
   ·simp only [List.size_toArray,List.length_append,List.length_take,List.length_replicate,List.length_drop,Array.length_toList]
    omega
   ·rw [Nat.mul_one] at Ch
    show ((cur.toList.take sn ++ List.replicate m v ++ cur.toList.drop (sn+m)).toArray.toList.take ((sn+m) * 1))=_
    rw [List.toList_toArray,Ch,Nat.mul_one,List.take_left' (by rw [List.length_append,List.length_replicate]; omega)]
  ·have holds:∀ j u,vs[j]? = some u→w.cell? ((⟨g,0,none⟩:Addr).add j)=some u:=World.ownsRow.cells (g:=g) hs rfl
   have arI:sn≤sc:=CN
   have hm0:0<m:=by omega
   exact grow (some ⟨g,0,none⟩) (by omega) hm0 ux (run_firstCells_some (P:=P) w.drew i.size sn ⟨g,0,none⟩ sn sc vs (by rw [j5,Nat.mul_one]; exact ux) (by simpa using holds))
theorem ak.ans {w0 w:World} {S:List Nat} {L:List aD} (H:ak w0 S w L) (k:Nat) {t ti ty e:TypeId} {q:IntKind} {bytes m:Nat} {s:ah} {x:Int} {v:Value} {vs:List Value} {K:ah→World→Prop} (cD:fk P t e 1 bytes) (ry:P.underlying ti=some (.int q)) (hz:zc P e=[v]) (hv:ey v=true)
  (hk:L[k]? = some (.row e 1 s vs)) (hx:x=(m:Int)) (hb:(s.n+m) * bytes≤140737488355328) (hm:s.n+m≤1000000000)
  (h:∀ s' w',ak w0 S w' (L.set k (.row e 1 s' (vs ++ List.replicate m v)))→s'.n=s.n+m→K s' w'):cJ P [t,ti] ty [.slice s.a s.n s.c,.int .i64 x] w K:=by
 subst hx
 obtain ⟨s',w',hr,h2,h3,h4,h5⟩:=ajN (ty:=ty) cD ry hz hv (H.qV k hk) hb hm (Nat.zero_le _)
 exact ⟨_,w',hr,s',rfl,h s' w' (H.iP k hk h3 (fun b hb=>.inl hb) h2 h5) h4⟩
end
end Go.Ev
namespace Go.Proofs.YtgjoehgomjgckaaGreatDoor
open Go Go.Ev
set_option linter.unusedVariables false
end Go.Proofs.YtgjoehgomjgckaaGreatDoor
end
section
set_option linter.unusedVariables false
set_option linter.unusedSimpArgs false
namespace Go.Proofs.YtgjoehgomjgckaaGreatDoor
open Go Go.Ev
set_option maxRecDepth 20000
set_option linter.unusedVariables false
theorem rN {A:Type} {x:A} {K:A→Prop} (h:K x):lt x K:=h
def pz (o:List Int) (x:Int):List Int:=if x<8380417∧o.length<256 then o ++ [x] else o
end Go.Proofs.YtgjoehgomjgckaaGreatDoor
end
section
set_option linter.unusedVariables false
set_option linter.unusedSimpArgs false
namespace Go.Proofs.YtgjoehgomjgckaaGreatDoor
open Go Go.Ev
theorem Es:fk Pr fo bH 1 8:=fk.of (by kernel_rfl)
theorem BT:zc Pr bH=[.int .i64 0]:=by kernel_rfl
theorem ahm (d x:Nat) (hd:d≤62) (hx:x<9223372036854775808) (w:World):Ok Pr PR [.int .i64 (d:Int),.int .i64 (x:Int)] w fun v w'=>v=.int .i64 ((x % 2 ^ d:Nat):Int)∧w'=w:=by
 refine afN ?_
 unfold PW
 have h2:2 ^ d≤2 ^ 62:=Nat.pow_le_pow_right (by decide) hd
 have h1:0<2 ^ d:=Nat.pow_pos (by decide)
 have e:shl .i64 (1:Int) (d:Int)=((2 ^ d:Nat):Int):=by
  have:=Cx (a:=1) (k:=d) (by omega) (by omega)
  rw [Nat.one_mul] at this
  exact this
 rw [e,show (((2 ^ d:Nat):Int) - 1)=((2 ^ d - 1:Nat):Int) by omega]
 refine ite_false (by simp; omega) (kM (by omega) ⟨⟨by omega,by omega⟩,?_,rfl⟩)
 rw [SR hx (by omega),akX]
theorem GZ (d:Nat) (rz:1≤d) (hd:d≤24) (x:ah) (l:List B8) (hl:l.length≤1000000) (w:World) (hx:Bytes w x l) :
  Ok Pr AV [.int .i64 (d:Int),.slice x.a x.n x.c] w fun v w'=>∃ y:ah,v=.slice y.a y.n y.c∧Own w' w.heap.size bH 1 y (cu (unpack d l))∧Mod [] w w':=by
 refine adN ?_
 unfold M6
 have bU:=hx.len
 refine ite_false (by simp; omega) ?_
 have p32:∀ n,n≤32→2 ^ n≤4294967296:=fun n hn=>by
  have:=Nat.pow_le_pow_right (n:=2) (by decide) hn
  exact this
 let f (m:Nat):List Int:=(List.range m).map fun i=>((uw (num l) d i:Nat):Int)
 refine Xt 0 l.length (fun k (out:ah) (held n:Int) w'=>∃ m:Nat,d * m≤8 * k∧8 * k<d * (m+1)∧n=((8 * k - d * m:Nat):Int)∧held=((num (l.take k) / 2 ^ (d * m):Nat):Int)∧out.n=m∧ak w [] w' [.row bH 1 out (cu (f m))]) rfl (by omega)
  ⟨0,by omega,by omega,by simp,by simp [num],rfl,(ak.start w).iZ bH 1⟩ ?_ ?_
 ·rintro again k out held n w1 _ hk ⟨m,CT,uq,rfl,rfl,nT,H⟩ aM
  have hmd:m≤d * m:=Nat.le_mul_of_pos_left m (by omega)
  have aar:d * (m+1)=d * m+d:=Nat.mul_succ d m
  have hb:=(l.getD k 0).isLt
  have hN:=Zm (l.take k)
  rw [List.length_take,Nat.min_eq_left (by omega)] at hN
  refine ite_true (by simp; omega) ((hx.aG H.mod).ld hk ⟨⟨by omega,by omega⟩,kM (by omega) ?_⟩)
  have Cy:num (l.take k) / 2 ^ (d * m)<2 ^ (8 * k - d * m):=by
   rw [Nat.div_lt_iff_lt_mul (Nat.pow_pos (by decide)),← Nat.pow_add,Nat.sub_add_cancel CT]
   exact hN
  have hp:=p32 (8 * k - d * m) (by omega)
  have hx2:(l.getD k 0).toNat * 2 ^ (8 * k - d * m)<4294967296:=by
   have h1:2 ^ (8+(8 * k - d * m))≤4294967296:=p32 _ (by omega)
   rw [Nat.pow_add] at h1
   have h2:(l.getD k 0).toNat * 2 ^ (8 * k - d * m)<2 ^ 8 * 2 ^ (8 * k - d * m):=Nat.mul_lt_mul_of_pos_right hb (Nat.pow_pos (by decide))
   omega
  rw [Cx (by omega) (by omega),orN (by omega) (by omega),Yl Cy]
  have eh:num (l.take k) / 2 ^ (d * m)+(l.getD k 0).toNat * 2 ^ (8 * k - d * m)=num (l.take (k+1)) / 2 ^ (d * m):=by
   rw [afY l k hk,show 8 * k=d * m+(8 * k - d * m) by omega,Nat.pow_add,Nat.mul_assoc,Nat.add_mul_div_left _ _ (Nat.pow_pos (by decide)),Nat.add_sub_cancel_left,Nat.mul_comm (2 ^ (8 * k - d * m))]
  rw [eh]
  unfold lt
  refine ⟨⟨by omega,by omega⟩,?_⟩
  refine Ix (fun (out:ah) (held n:Int) w'=>∃ m:Nat,d * m≤8 * (k+1)∧n=((8 * (k+1) - d * m:Nat):Int)∧n≤40∧held=((num (l.take (k+1)) / 2 ^ (d * m):Nat):Int)∧out.n=m∧ak w [] w' [.row bH 1 out (cu (f m))])
   (fun _ _ n _=>n.toNat) ⟨m,by omega,by omega,by omega,rfl,nT,H⟩ ?_
  rintro k9 out held n w2 ⟨m,CT,rfl,arJ,rfl,nT,H⟩ iU
  have hmd:m≤d * m:=Nat.le_mul_of_pos_left m (by omega)
  have aar:d * (m+1)=d * m+d:=Nat.mul_succ d m
  refine bV (fun h=>?_) (fun h=>?_)
  ·have h:=of_decide_eq_true h
   have hN:=Zm (l.take (k+1))
   rw [List.length_take,Nat.min_eq_left (by omega)] at hN
   have Cy:num (l.take (k+1)) / 2 ^ (d * m)<2 ^ (8 * (k+1) - d * m):=by
    rw [Nat.div_lt_iff_lt_mul (Nat.pow_pos (by decide)),← Nat.pow_add,Nat.sub_add_cancel CT]
    exact hN
   have hp:2 ^ (8 * (k+1) - d * m)≤2 ^ 40:=Nat.pow_le_pow_right (by decide) (by omega)
   refine aB (ahm d _ (by omega) (by omega) _) ?_
   rintro _ _ ⟨rfl,rfl⟩
   refine eE (H.Sv 0 Es rfl (by omega) fun lC w3 H arK=>kM (by omega) ⟨⟨by omega,by omega⟩,?_⟩)
   rw [Fu (by omega)]
   refine iU _ _ _ w3 ⟨m+1,by omega,by omega,by omega,?_,by omega,?_⟩ (by omega)
   ·rw [Nat.div_div_eq_div_mul,← Nat.pow_add,aar]
   ·have e:f (m+1)=f m ++ [((uw (num l) d m:Nat):Int)]:=by simp [f,List.range_succ]
    rw [e]
    have e2:num (l.take (k+1)) / 2 ^ (d * m) % 2 ^ d=uw (num l) d m:=ajM l (k+1) d m (by omega) (by omega)
    rw [e2] at H
    exact H
  ·have h:=of_decide_eq_false h
   refine ⟨⟨by omega,by omega⟩,aM _ _ _ w2 ⟨m,by omega,by omega,rfl,rfl,nT,H⟩⟩
 ·rintro again out held n w1 ⟨m,CT,uq,rfl,rfl,nT,H⟩
  refine ite_false (by rw [bU]; simp) ⟨out,rfl,?_,H.mod⟩
  have:8 * l.length / d=m:=by
   rw [Nat.div_eq_iff (by omega)]
   have:d * (m+1)=d * m+d:=Nat.mul_succ d m
   rw [Nat.mul_comm m d]
   omega
  unfold unpack
  rw [this]
  exact H.fS 0 rfl
def bit (l:List B8) (k:Nat):Nat:=uw (num l) 1 k
theorem alS (l:List B8) (k:Nat):bit l k≤1:=by have:=Zo (num l) 1 k; unfold bit; omega
end Go.Proofs.YtgjoehgomjgckaaGreatDoor
end
section
set_option linter.unusedVariables false
set_option linter.unusedSimpArgs false
namespace Go.Ev
open Go Go.RowKit
variable {P:Program}
def strOf (l:List B8):ByteArray:=⟨(l.map UInt8.ofBitVec).toArray⟩
def bOf (s:ByteArray):List B8:=s.data.toList.map UInt8.toBitVec
theorem WQ (l:List B8):bOf (strOf l)=l:=by
 unfold bOf strOf
 simp only [List.map_map]
 exact List.map_id' l
theorem aiP {l m:List B8}:strOf l=strOf m↔l=m:=⟨fun h=>by rw [← WQ l,h,WQ],fun h=>by rw [h]⟩
theorem Zp {w:World} {x:ah} {l:List B8} {K:ByteArray→World→Prop} (hx:Bytes w x l) (h:K (strOf l) w):Js P x w K:=by
 obtain ⟨xa,xn,xc⟩:=x
 have hl:=hx.len
 dsimp only at hl
 cases xa with
 | none=>
  have h0:xn=0:=by
   rcases Nat.eq_zero_or_pos xn with e | e
   ·exact e
   ·cases Sl.pre hx e
  have hu:l=[]:=List.eq_nil_of_length_eq_zero (by omega)
  subst hu
  exact ⟨_,w,rfl,_,rfl,h⟩
 | some a=>
  have hc:=run_loadCells_list (P:=P) w a ((l.map fun b=>(b.toNat:Int)).map (Value.int .u8)) (fun j v hj=>by
   refine Sl.cell hx j v ?_
   rw [← hj]
   congr 1
   simp [bp,u8])
  simp only [List.length_map] at hc
  have hr:=run_bytesToString (P:=P) w a l.length xc _ hc
  rw [hl] at hr
  refine ⟨_,w,hr,_,rfl,?_⟩
  have e:(l.map fun b=>(b.toNat:Int))=(l.map UInt8.ofBitVec).map (fun b=>(b.toNat:Int)):=by
   rw [List.map_map]
   rfl
  rw [e,foldl_push_byteCells]
  have:(⟨ByteArray.empty.data ++ (l.map UInt8.ofBitVec).toArray⟩:ByteArray)=strOf l:=by
   unfold strOf
   congr 1
   exact Array.empty_append
  rw [this]
  exact h
end Go.Ev
namespace Go.Ev
open Go Go.RowKit
variable {P:Program}
end Go.Ev
end
section
set_option linter.unusedVariables false
set_option linter.unusedSimpArgs false
namespace Go.Ev
open Go Go.RowKit
set_option linter.unusedVariables false
theorem ak.gp {w0 w:World} {S:List Nat} {L:List aD} (H:ak w0 S w L) (k:Nat) {b i:Nat} {a:Addr} {n:ByteArray} {cs:List Value} {t:TypeId} {K:ByteArray→Prop} (hk:L[k]? = some (.av b cs t)) (ha:a=⟨b,i,none⟩) (hv:cs[i]? = some (.string n)) (h:K n):gp a w K:=
 ⟨n,H.cell k hk ha hv,h⟩
end Go.Ev
namespace Go.Proofs.YtgjoehgomjgckaaGreatDoor
open Go Go.Ev
set_option linter.unusedVariables false
set_option linter.unusedSimpArgs false
@[reducible] def HT (c0:Int) (c1:Int) (c2:Int) (c3:Int) (c4:Int) (c5:Int) (c6:Int) (c7:Int) (c8:Int) (c9:Int) (nV:Int) (nX:ByteArray) (kF:ah) (kG:ah):List Value:=[.int .i64 c0,.int .i64 c1,.int .i64 c2,.int .i64 c3,.int .i64 c4,.int .i64 c5,.int .i64 c6,.int .i64 c7,.int .i64 c8,.int .i64 c9,.int .i64 nV,.string nX,.slice kF.a kF.n kF.c,.slice kG.a kG.n kG.c]
theorem M8 {a:Addr} {w:World} {c0:Int} {c1:Int} {c2:Int} {c3:Int} {c4:Int} {c5:Int} {c6:Int} {c7:Int} {c8:Int} {c9:Int} {nV:Int} {nX:ByteArray} {kF:ah} {kG:ah} {K:Int→Int→Int→Int→Int→Int→Int→Int→Int→Int→Int→ByteArray→ah→ah→Prop} (h:∀ (i:Nat) (v:Value),(HT c0 c1 c2 c3 c4 c5 c6 c7 c8 c9 nV nX kF kG)[i]? = some v→w.cell? (Addr.add a i)=some v) (hK:K c0 c1 c2 c3 c4 c5 c6 c7 c8 c9 nV nX kF kG):jH a w K:=
 ⟨_,h 0 _ rfl,⟨_,h 1 _ rfl,⟨_,h 2 _ rfl,⟨_,h 3 _ rfl,⟨_,h 4 _ rfl,⟨_,h 5 _ rfl,⟨_,h 6 _ rfl,⟨_,h 7 _ rfl,⟨_,h 8 _ rfl,⟨_,h 9 _ rfl,⟨_,h 10 _ rfl,⟨_,h 11 _ rfl,⟨kF,h 12 _ rfl,⟨kG,h 13 _ rfl,hK⟩⟩⟩⟩⟩⟩⟩⟩⟩⟩⟩⟩⟩⟩
theorem _root_.Go.Ev.ak.jH {w0 w:World} {S:List Nat} {L:List aD} (H:ak w0 S w L) (k:Nat) {b:Nat} {t:TypeId} {c0:Int} {c1:Int} {c2:Int} {c3:Int} {c4:Int} {c5:Int} {c6:Int} {c7:Int} {c8:Int} {c9:Int} {nV:Int} {nX:ByteArray} {kF:ah} {kG:ah} {K:Int→Int→Int→Int→Int→Int→Int→Int→Int→Int→Int→ByteArray→ah→ah→Prop} (hk:L[k]? = some (.av b (HT c0 c1 c2 c3 c4 c5 c6 c7 c8 c9 nV nX kF kG) t)) (hK:K c0 c1 c2 c3 c4 c5 c6 c7 c8 c9 nV nX kF kG):jH ⟨b,0,none⟩ w K:=
 M8 (fun i v hv=>H.cell k hk (au b i) hv) hK
theorem _root_.Go.Ev.ak.HQ {w0 w:World} {S:List Nat} {L:List aD} (H:ak w0 S w L) (k:Nat) {b:Nat} {t:TypeId} {cs:List Value} {c0:Int} {c1:Int} {c2:Int} {c3:Int} {c4:Int} {c5:Int} {c6:Int} {c7:Int} {c8:Int} {c9:Int} {nV:Int} {nX:ByteArray} {kF:ah} {kG:ah} {K:World→Prop} (hk:L[k]? = some (.av b cs t)) (hl:cs.length=14) (h:∀ w',ak w0 S w' (L.set k (.av b (HT c0 c1 c2 c3 c4 c5 c6 c7 c8 c9 nV nX kF kG) t))→K w'):HQ ⟨b,0,none⟩ c0 c1 c2 c3 c4 c5 c6 c7 c8 c9 nV nX kF kG w K:=by
 have bO:k<L.length:=(List.getElem?_eq_some_iff.1 hk).1
 obtain ⟨u0,u1,u2,u3,u4,u5,u6,u7,u8,u9,JP,JQ,JR,JS,rfl⟩:∃ u0 u1 u2 u3 u4 u5 u6 u7 u8 u9 JP JQ JR JS,cs=[u0,u1,u2,u3,u4,u5,u6,u7,u8,u9,JP,JQ,JR,JS]:=by
  match cs,hl with
  | [u0,u1,u2,u3,u4,u5,u6,u7,u8,u9,JP,JQ,JR,JS],_=>exact ⟨u0,u1,u2,u3,u4,u5,u6,u7,u8,u9,JP,JQ,JR,JS,rfl⟩
 refine H.st k hk (au b 0) (by simp) rfl fun w0 H0=>?_
 simp only [List.set_set,List.set_cons_zero,List.set_cons_succ] at H0
 refine H0.st k (List.getElem?_set_self bO) (au b 1) (by simp) rfl fun w1 H1=>?_
 simp only [List.set_set,List.set_cons_zero,List.set_cons_succ] at H1
 refine H1.st k (List.getElem?_set_self bO) (au b 2) (by simp) rfl fun w2 H2=>?_
 simp only [List.set_set,List.set_cons_zero,List.set_cons_succ] at H2
 refine H2.st k (List.getElem?_set_self bO) (au b 3) (by simp) rfl fun w3 H3=>?_
 simp only [List.set_set,List.set_cons_zero,List.set_cons_succ] at H3
 refine H3.st k (List.getElem?_set_self bO) (au b 4) (by simp) rfl fun w4 H4=>?_
 simp only [List.set_set,List.set_cons_zero,List.set_cons_succ] at H4
 refine H4.st k (List.getElem?_set_self bO) (au b 5) (by simp) rfl fun w5 H5=>?_
 simp only [List.set_set,List.set_cons_zero,List.set_cons_succ] at H5
 refine H5.st k (List.getElem?_set_self bO) (au b 6) (by simp) rfl fun w6 H6=>?_
 simp only [List.set_set,List.set_cons_zero,List.set_cons_succ] at H6
 refine H6.st k (List.getElem?_set_self bO) (au b 7) (by simp) rfl fun w7 H7=>?_
 simp only [List.set_set,List.set_cons_zero,List.set_cons_succ] at H7
 refine H7.st k (List.getElem?_set_self bO) (au b 8) (by simp) rfl fun w8 H8=>?_
 simp only [List.set_set,List.set_cons_zero,List.set_cons_succ] at H8
 refine H8.st k (List.getElem?_set_self bO) (au b 9) (by simp) rfl fun w9 H9=>?_
 simp only [List.set_set,List.set_cons_zero,List.set_cons_succ] at H9
 refine H9.st k (List.getElem?_set_self bO) (au b 10) (by simp) rfl fun cM JT=>?_
 simp only [List.set_set,List.set_cons_zero,List.set_cons_succ] at JT
 refine JT.st k (List.getElem?_set_self bO) (au b 11) (by simp) rfl fun cZ JU=>?_
 simp only [List.set_set,List.set_cons_zero,List.set_cons_succ] at JU
 refine JU.st k (List.getElem?_set_self bO) (au b 12) (by simp) rfl fun fV JV=>?_
 simp only [List.set_set,List.set_cons_zero,List.set_cons_succ] at JV
 refine JV.st k (List.getElem?_set_self bO) (au b 13) (by simp) rfl fun fO H13=>?_
 simp only [List.set_set,List.set_cons_zero,List.set_cons_succ] at H13
 exact h _ H13
@[reducible] def k5 (c0:Int) (c1:ah) (c2:ah) (c3:ah) (c4:ah) (c5:ah):List Value:=[.int .i64 c0,.slice c1.a c1.n c1.c,.slice c2.a c2.n c2.c,.slice c3.a c3.n c3.c,.slice c4.a c4.n c4.c,.slice c5.a c5.n c5.c]
theorem US {a:Addr} {w:World} {c0:Int} {c1:ah} {c2:ah} {c3:ah} {c4:ah} {c5:ah} {K:Int→ah→ah→ah→ah→ah→Prop} (h:∀ (i:Nat) (v:Value),(k5 c0 c1 c2 c3 c4 c5)[i]? = some v→w.cell? (Addr.add a i)=some v) (hK:K c0 c1 c2 c3 c4 c5):bD a w K:=
 ⟨_,h 0 _ rfl,⟨c1,h 1 _ rfl,⟨c2,h 2 _ rfl,⟨c3,h 3 _ rfl,⟨c4,h 4 _ rfl,⟨c5,h 5 _ rfl,hK⟩⟩⟩⟩⟩⟩
theorem _root_.Go.Ev.ak.bD {w0 w:World} {S:List Nat} {L:List aD} (H:ak w0 S w L) (k:Nat) {b:Nat} {t:TypeId} {c0:Int} {c1:ah} {c2:ah} {c3:ah} {c4:ah} {c5:ah} {K:Int→ah→ah→ah→ah→ah→Prop} (hk:L[k]? = some (.av b (k5 c0 c1 c2 c3 c4 c5) t)) (hK:K c0 c1 c2 c3 c4 c5):bD ⟨b,0,none⟩ w K:=
 US (fun i v hv=>H.cell k hk (au b i) hv) hK
theorem _root_.Go.Ev.ak.bE {w0 w:World} {S:List Nat} {L:List aD} (H:ak w0 S w L) (k:Nat) {b:Nat} {t:TypeId} {cs:List Value} {c0:Int} {c1:ah} {c2:ah} {c3:ah} {c4:ah} {c5:ah} {K:World→Prop} (hk:L[k]? = some (.av b cs t)) (hl:cs.length=6) (h:∀ w',ak w0 S w' (L.set k (.av b (k5 c0 c1 c2 c3 c4 c5) t))→K w'):bE ⟨b,0,none⟩ c0 c1 c2 c3 c4 c5 w K:=by
 have bO:k<L.length:=(List.getElem?_eq_some_iff.1 hk).1
 obtain ⟨u0,u1,u2,u3,u4,u5,rfl⟩:∃ u0 u1 u2 u3 u4 u5,cs=[u0,u1,u2,u3,u4,u5]:=by
  match cs,hl with
  | [u0,u1,u2,u3,u4,u5],_=>exact ⟨u0,u1,u2,u3,u4,u5,rfl⟩
 refine H.st k hk (au b 0) (by simp) rfl fun w0 H0=>?_
 simp only [List.set_set,List.set_cons_zero,List.set_cons_succ] at H0
 refine H0.st k (List.getElem?_set_self bO) (au b 1) (by simp) rfl fun w1 H1=>?_
 simp only [List.set_set,List.set_cons_zero,List.set_cons_succ] at H1
 refine H1.st k (List.getElem?_set_self bO) (au b 2) (by simp) rfl fun w2 H2=>?_
 simp only [List.set_set,List.set_cons_zero,List.set_cons_succ] at H2
 refine H2.st k (List.getElem?_set_self bO) (au b 3) (by simp) rfl fun w3 H3=>?_
 simp only [List.set_set,List.set_cons_zero,List.set_cons_succ] at H3
 refine H3.st k (List.getElem?_set_self bO) (au b 4) (by simp) rfl fun w4 H4=>?_
 simp only [List.set_set,List.set_cons_zero,List.set_cons_succ] at H4
 refine H4.st k (List.getElem?_set_self bO) (au b 5) (by simp) rfl fun w5 H5=>?_
 simp only [List.set_set,List.set_cons_zero,List.set_cons_succ] at H5
 exact h _ H5
theorem iu {c0:Int} {c1:ah} {c2:ah} {c3:ah} {c4:ah} {c5:ah} {K:Int→ah→ah→ah→ah→ah→Prop} (hK:K c0 c1 c2 c3 c4 c5):dB (.agg ⟨k5 c0 c1 c2 c3 c4 c5⟩) K:=
 ⟨_,rfl,c0,rfl,c1,rfl,c2,rfl,c3,rfl,c4,rfl,c5,rfl,rfl,hK⟩
@[reducible] def ew (c0:Int) (c1:Int) (c2:ah) (c3:ah):List Value:=[.int .i64 c0,.int .i64 c1,.slice c2.a c2.n c2.c,.slice c3.a c3.n c3.c]
theorem aev {a:Addr} {w:World} {c0:Int} {c1:Int} {c2:ah} {c3:ah} {K:Int→Int→ah→ah→Prop} (h:∀ (i:Nat) (v:Value),(ew c0 c1 c2 c3)[i]? = some v→w.cell? (Addr.add a i)=some v) (hK:K c0 c1 c2 c3):cI a w K:=
 ⟨_,h 0 _ rfl,⟨_,h 1 _ rfl,⟨c2,h 2 _ rfl,⟨c3,h 3 _ rfl,hK⟩⟩⟩⟩
theorem _root_.Go.Ev.ak.cI {w0 w:World} {S:List Nat} {L:List aD} (H:ak w0 S w L) (k:Nat) {b:Nat} {t:TypeId} {c0:Int} {c1:Int} {c2:ah} {c3:ah} {K:Int→Int→ah→ah→Prop} (hk:L[k]? = some (.av b (ew c0 c1 c2 c3) t)) (hK:K c0 c1 c2 c3):cI ⟨b,0,none⟩ w K:=
 aev (fun i v hv=>H.cell k hk (au b i) hv) hK
theorem _root_.Go.Ev.ak.bN {w0 w:World} {S:List Nat} {L:List aD} (H:ak w0 S w L) (k:Nat) {b:Nat} {t:TypeId} {cs:List Value} {c0:Int} {c1:Int} {c2:ah} {c3:ah} {K:World→Prop} (hk:L[k]? = some (.av b cs t)) (hl:cs.length=4) (h:∀ w',ak w0 S w' (L.set k (.av b (ew c0 c1 c2 c3) t))→K w'):bN ⟨b,0,none⟩ c0 c1 c2 c3 w K:=by
 have bO:k<L.length:=(List.getElem?_eq_some_iff.1 hk).1
 obtain ⟨u0,u1,u2,u3,rfl⟩:∃ u0 u1 u2 u3,cs=[u0,u1,u2,u3]:=by
  match cs,hl with
  | [u0,u1,u2,u3],_=>exact ⟨u0,u1,u2,u3,rfl⟩
 refine H.st k hk (au b 0) (by simp) rfl fun w0 H0=>?_
 simp only [List.set_set,List.set_cons_zero,List.set_cons_succ] at H0
 refine H0.st k (List.getElem?_set_self bO) (au b 1) (by simp) rfl fun w1 H1=>?_
 simp only [List.set_set,List.set_cons_zero,List.set_cons_succ] at H1
 refine H1.st k (List.getElem?_set_self bO) (au b 2) (by simp) rfl fun w2 H2=>?_
 simp only [List.set_set,List.set_cons_zero,List.set_cons_succ] at H2
 refine H2.st k (List.getElem?_set_self bO) (au b 3) (by simp) rfl fun w3 H3=>?_
 simp only [List.set_set,List.set_cons_zero,List.set_cons_succ] at H3
 exact h _ H3
theorem qD {c0:Int} {c1:Int} {c2:ah} {c3:ah} {K:Int→Int→ah→ah→Prop} (hK:K c0 c1 c2 c3):fR (.agg ⟨ew c0 c1 c2 c3⟩) K:=
 ⟨_,rfl,c0,rfl,c1,rfl,c2,rfl,c3,rfl,rfl,hK⟩
@[reducible] def dH (c0:Int) (c1:Int) (c2:Int) (c3:ah):List Value:=[.int .i64 c0,.int .i64 c1,.int .i64 c2,.slice c3.a c3.n c3.c]
theorem qF {a:Addr} {w:World} {c0:Int} {c1:Int} {c2:Int} {c3:ah} {K:Int→Int→Int→ah→Prop} (h:∀ (i:Nat) (v:Value),(dH c0 c1 c2 c3)[i]? = some v→w.cell? (Addr.add a i)=some v) (hK:K c0 c1 c2 c3):bA a w K:=
 ⟨_,h 0 _ rfl,⟨_,h 1 _ rfl,⟨_,h 2 _ rfl,⟨c3,h 3 _ rfl,hK⟩⟩⟩⟩
theorem _root_.Go.Ev.ak.bA {w0 w:World} {S:List Nat} {L:List aD} (H:ak w0 S w L) (k:Nat) {b:Nat} {t:TypeId} {c0:Int} {c1:Int} {c2:Int} {c3:ah} {K:Int→Int→Int→ah→Prop} (hk:L[k]? = some (.av b (dH c0 c1 c2 c3) t)) (hK:K c0 c1 c2 c3):bA ⟨b,0,none⟩ w K:=
 qF (fun i v hv=>H.cell k hk (au b i) hv) hK
theorem _root_.Go.Ev.ak.cF {w0 w:World} {S:List Nat} {L:List aD} (H:ak w0 S w L) (k:Nat) {b:Nat} {t:TypeId} {cs:List Value} {c0:Int} {c1:Int} {c2:Int} {c3:ah} {K:World→Prop} (hk:L[k]? = some (.av b cs t)) (hl:cs.length=4) (h:∀ w',ak w0 S w' (L.set k (.av b (dH c0 c1 c2 c3) t))→K w'):cF ⟨b,0,none⟩ c0 c1 c2 c3 w K:=by
 have bO:k<L.length:=(List.getElem?_eq_some_iff.1 hk).1
 obtain ⟨u0,u1,u2,u3,rfl⟩:∃ u0 u1 u2 u3,cs=[u0,u1,u2,u3]:=by
  match cs,hl with
  | [u0,u1,u2,u3],_=>exact ⟨u0,u1,u2,u3,rfl⟩
 refine H.st k hk (au b 0) (by simp) rfl fun w0 H0=>?_
 simp only [List.set_set,List.set_cons_zero,List.set_cons_succ] at H0
 refine H0.st k (List.getElem?_set_self bO) (au b 1) (by simp) rfl fun w1 H1=>?_
 simp only [List.set_set,List.set_cons_zero,List.set_cons_succ] at H1
 refine H1.st k (List.getElem?_set_self bO) (au b 2) (by simp) rfl fun w2 H2=>?_
 simp only [List.set_set,List.set_cons_zero,List.set_cons_succ] at H2
 refine H2.st k (List.getElem?_set_self bO) (au b 3) (by simp) rfl fun w3 H3=>?_
 simp only [List.set_set,List.set_cons_zero,List.set_cons_succ] at H3
 exact h _ H3
theorem oA {c0:Int} {c1:Int} {c2:Int} {c3:ah} {K:Int→Int→Int→ah→Prop} (hK:K c0 c1 c2 c3):rF (.agg ⟨dH c0 c1 c2 c3⟩) K:=
 ⟨_,rfl,c0,rfl,c1,rfl,c2,rfl,c3,rfl,rfl,hK⟩
@[reducible] def uQ (c0:Int) (c1:Int) (c2:Int) (c3:ah):List Value:=[.int .i64 c0,.int .i64 c1,.int .i64 c2,.slice c3.a c3.n c3.c]
theorem uO {a:Addr} {w:World} {c0:Int} {c1:Int} {c2:Int} {c3:ah} {K:Int→Int→Int→ah→Prop} (h:∀ (i:Nat) (v:Value),(uQ c0 c1 c2 c3)[i]? = some v→w.cell? (Addr.add a i)=some v) (hK:K c0 c1 c2 c3):gE a w K:=
 ⟨_,h 0 _ rfl,⟨_,h 1 _ rfl,⟨_,h 2 _ rfl,⟨c3,h 3 _ rfl,hK⟩⟩⟩⟩
theorem _root_.Go.Ev.ak.gE {w0 w:World} {S:List Nat} {L:List aD} (H:ak w0 S w L) (k:Nat) {b:Nat} {t:TypeId} {c0:Int} {c1:Int} {c2:Int} {c3:ah} {K:Int→Int→Int→ah→Prop} (hk:L[k]? = some (.av b (uQ c0 c1 c2 c3) t)) (hK:K c0 c1 c2 c3):gE ⟨b,0,none⟩ w K:=
 uO (fun i v hv=>H.cell k hk (au b i) hv) hK
theorem _root_.Go.Ev.ak.fz {w0 w:World} {S:List Nat} {L:List aD} (H:ak w0 S w L) (k:Nat) {b:Nat} {t:TypeId} {cs:List Value} {c0:Int} {c1:Int} {c2:Int} {c3:ah} {K:World→Prop} (hk:L[k]? = some (.av b cs t)) (hl:cs.length=4) (h:∀ w',ak w0 S w' (L.set k (.av b (uQ c0 c1 c2 c3) t))→K w'):fz ⟨b,0,none⟩ c0 c1 c2 c3 w K:=by
 have bO:k<L.length:=(List.getElem?_eq_some_iff.1 hk).1
 obtain ⟨u0,u1,u2,u3,rfl⟩:∃ u0 u1 u2 u3,cs=[u0,u1,u2,u3]:=by
  match cs,hl with
  | [u0,u1,u2,u3],_=>exact ⟨u0,u1,u2,u3,rfl⟩
 refine H.st k hk (au b 0) (by simp) rfl fun w0 H0=>?_
 simp only [List.set_set,List.set_cons_zero,List.set_cons_succ] at H0
 refine H0.st k (List.getElem?_set_self bO) (au b 1) (by simp) rfl fun w1 H1=>?_
 simp only [List.set_set,List.set_cons_zero,List.set_cons_succ] at H1
 refine H1.st k (List.getElem?_set_self bO) (au b 2) (by simp) rfl fun w2 H2=>?_
 simp only [List.set_set,List.set_cons_zero,List.set_cons_succ] at H2
 refine H2.st k (List.getElem?_set_self bO) (au b 3) (by simp) rfl fun w3 H3=>?_
 simp only [List.set_set,List.set_cons_zero,List.set_cons_succ] at H3
 exact h _ H3
theorem wK {c0:Int} {c1:Int} {c2:Int} {c3:ah} {K:Int→Int→Int→ah→Prop} (hK:K c0 c1 c2 c3):uP (.agg ⟨uQ c0 c1 c2 c3⟩) K:=
 ⟨_,rfl,c0,rfl,c1,rfl,c2,rfl,c3,rfl,rfl,hK⟩
@[reducible] def lQ (c0:Int) (c1:Int) (c2:ah) (c3:Int) (c4:Int):List Value:=[.int .i64 c0,.int .i64 c1,.slice c2.a c2.n c2.c,.int .i64 c3,.int .u64 c4]
theorem UJ {a:Addr} {w:World} {c0:Int} {c1:Int} {c2:ah} {c3:Int} {c4:Int} {K:Int→Int→ah→Int→Int→Prop} (h:∀ (i:Nat) (v:Value),(lQ c0 c1 c2 c3 c4)[i]? = some v→w.cell? (Addr.add a i)=some v) (hK:K c0 c1 c2 c3 c4):M0 a w K:=
 ⟨_,h 0 _ rfl,⟨_,h 1 _ rfl,⟨c2,h 2 _ rfl,⟨_,h 3 _ rfl,⟨_,h 4 _ rfl,hK⟩⟩⟩⟩⟩
theorem _root_.Go.Ev.ak.AW {w0 w:World} {S:List Nat} {L:List aD} (H:ak w0 S w L) (k:Nat) {b:Nat} {t:TypeId} {cs:List Value} {c0:Int} {c1:Int} {c2:ah} {c3:Int} {c4:Int} {K:World→Prop} (hk:L[k]? = some (.av b cs t)) (hl:cs.length=5) (h:∀ w',ak w0 S w' (L.set k (.av b (lQ c0 c1 c2 c3 c4) t))→K w'):AW ⟨b,0,none⟩ c0 c1 c2 c3 c4 w K:=by
 have bO:k<L.length:=(List.getElem?_eq_some_iff.1 hk).1
 obtain ⟨u0,u1,u2,u3,u4,rfl⟩:∃ u0 u1 u2 u3 u4,cs=[u0,u1,u2,u3,u4]:=by
  match cs,hl with
  | [u0,u1,u2,u3,u4],_=>exact ⟨u0,u1,u2,u3,u4,rfl⟩
 refine H.st k hk (au b 0) (by simp) rfl fun w0 H0=>?_
 simp only [List.set_set,List.set_cons_zero,List.set_cons_succ] at H0
 refine H0.st k (List.getElem?_set_self bO) (au b 1) (by simp) rfl fun w1 H1=>?_
 simp only [List.set_set,List.set_cons_zero,List.set_cons_succ] at H1
 refine H1.st k (List.getElem?_set_self bO) (au b 2) (by simp) rfl fun w2 H2=>?_
 simp only [List.set_set,List.set_cons_zero,List.set_cons_succ] at H2
 refine H2.st k (List.getElem?_set_self bO) (au b 3) (by simp) rfl fun w3 H3=>?_
 simp only [List.set_set,List.set_cons_zero,List.set_cons_succ] at H3
 refine H3.st k (List.getElem?_set_self bO) (au b 4) (by simp) rfl fun w4 H4=>?_
 simp only [List.set_set,List.set_cons_zero,List.set_cons_succ] at H4
 exact h _ H4
@[reducible] def rE (c0:Int) (c1:Int) (c2:Int) (c3:Int) (c4:Int) (c5:Bool):List Value:=[.int .i64 c0,.int .i64 c1,.int .i64 c2,.int .i64 c3,.int .i64 c4,.bool c5]
theorem L5 {a:Addr} {w:World} {c0:Int} {c1:Int} {c2:Int} {c3:Int} {c4:Int} {c5:Bool} {K:Int→Int→Int→Int→Int→Bool→Prop} (h:∀ (i:Nat) (v:Value),(rE c0 c1 c2 c3 c4 c5)[i]? = some v→w.cell? (Addr.add a i)=some v) (hK:K c0 c1 c2 c3 c4 c5):iJ a w K:=
 ⟨_,h 0 _ rfl,⟨_,h 1 _ rfl,⟨_,h 2 _ rfl,⟨_,h 3 _ rfl,⟨_,h 4 _ rfl,⟨_,h 5 _ rfl,hK⟩⟩⟩⟩⟩⟩
theorem _root_.Go.Ev.ak.iJ {w0 w:World} {S:List Nat} {L:List aD} (H:ak w0 S w L) (k:Nat) {b:Nat} {t:TypeId} {c0:Int} {c1:Int} {c2:Int} {c3:Int} {c4:Int} {c5:Bool} {K:Int→Int→Int→Int→Int→Bool→Prop} (hk:L[k]? = some (.av b (rE c0 c1 c2 c3 c4 c5) t)) (hK:K c0 c1 c2 c3 c4 c5):iJ ⟨b,0,none⟩ w K:=
 L5 (fun i v hv=>H.cell k hk (au b i) hv) hK
theorem _root_.Go.Ev.ak.oB {w0 w:World} {S:List Nat} {L:List aD} (H:ak w0 S w L) (k:Nat) {b:Nat} {t:TypeId} {cs:List Value} {c0:Int} {c1:Int} {c2:Int} {c3:Int} {c4:Int} {c5:Bool} {K:World→Prop} (hk:L[k]? = some (.av b cs t)) (hl:cs.length=6) (h:∀ w',ak w0 S w' (L.set k (.av b (rE c0 c1 c2 c3 c4 c5) t))→K w'):oB ⟨b,0,none⟩ c0 c1 c2 c3 c4 c5 w K:=by
 have bO:k<L.length:=(List.getElem?_eq_some_iff.1 hk).1
 obtain ⟨u0,u1,u2,u3,u4,u5,rfl⟩:∃ u0 u1 u2 u3 u4 u5,cs=[u0,u1,u2,u3,u4,u5]:=by
  match cs,hl with
  | [u0,u1,u2,u3,u4,u5],_=>exact ⟨u0,u1,u2,u3,u4,u5,rfl⟩
 refine H.st k hk (au b 0) (by simp) rfl fun w0 H0=>?_
 simp only [List.set_set,List.set_cons_zero,List.set_cons_succ] at H0
 refine H0.st k (List.getElem?_set_self bO) (au b 1) (by simp) rfl fun w1 H1=>?_
 simp only [List.set_set,List.set_cons_zero,List.set_cons_succ] at H1
 refine H1.st k (List.getElem?_set_self bO) (au b 2) (by simp) rfl fun w2 H2=>?_
 simp only [List.set_set,List.set_cons_zero,List.set_cons_succ] at H2
 refine H2.st k (List.getElem?_set_self bO) (au b 3) (by simp) rfl fun w3 H3=>?_
 simp only [List.set_set,List.set_cons_zero,List.set_cons_succ] at H3
 refine H3.st k (List.getElem?_set_self bO) (au b 4) (by simp) rfl fun w4 H4=>?_
 simp only [List.set_set,List.set_cons_zero,List.set_cons_succ] at H4
 refine H4.st k (List.getElem?_set_self bO) (au b 5) (by simp) rfl fun w5 H5=>?_
 simp only [List.set_set,List.set_cons_zero,List.set_cons_succ] at H5
 exact h _ H5
theorem UT {c0:Int} {c1:Int} {c2:Int} {c3:Int} {c4:Int} {c5:Bool} {K:Int→Int→Int→Int→Int→Bool→Prop} (hK:K c0 c1 c2 c3 c4 c5):NT (.agg ⟨rE c0 c1 c2 c3 c4 c5⟩) K:=
 ⟨_,rfl,c0,rfl,c1,rfl,c2,rfl,c3,rfl,c4,rfl,c5,rfl,rfl,hK⟩
@[reducible] def ku (c0:Int) (c1:Int) (c2:ByteArray):List Value:=[.int .i64 c0,.int .i64 c1,.string c2]
theorem Dx {a:Addr} {w:World} {c0:Int} {c1:Int} {c2:ByteArray} {K:Int→Int→ByteArray→Prop} (h:∀ (i:Nat) (v:Value),(ku c0 c1 c2)[i]? = some v→w.cell? (Addr.add a i)=some v) (hK:K c0 c1 c2):AX a w K:=
 ⟨_,h 0 _ rfl,⟨_,h 1 _ rfl,⟨_,h 2 _ rfl,hK⟩⟩⟩
theorem _root_.Go.Ev.ak.AY {w0 w:World} {S:List Nat} {L:List aD} (H:ak w0 S w L) (k:Nat) {b:Nat} {t:TypeId} {cs:List Value} {c0:Int} {c1:Int} {c2:ByteArray} {K:World→Prop} (hk:L[k]? = some (.av b cs t)) (hl:cs.length=3) (h:∀ w',ak w0 S w' (L.set k (.av b (ku c0 c1 c2) t))→K w'):AY ⟨b,0,none⟩ c0 c1 c2 w K:=by
 have bO:k<L.length:=(List.getElem?_eq_some_iff.1 hk).1
 obtain ⟨u0,u1,u2,rfl⟩:∃ u0 u1 u2,cs=[u0,u1,u2]:=by
  match cs,hl with
  | [u0,u1,u2],_=>exact ⟨u0,u1,u2,rfl⟩
 refine H.st k hk (au b 0) (by simp) rfl fun w0 H0=>?_
 simp only [List.set_set,List.set_cons_zero,List.set_cons_succ] at H0
 refine H0.st k (List.getElem?_set_self bO) (au b 1) (by simp) rfl fun w1 H1=>?_
 simp only [List.set_set,List.set_cons_zero,List.set_cons_succ] at H1
 refine H1.st k (List.getElem?_set_self bO) (au b 2) (by simp) rfl fun w2 H2=>?_
 simp only [List.set_set,List.set_cons_zero,List.set_cons_succ] at H2
 exact h _ H2
@[reducible] def Ho (c0:Int) (c1:Int) (c2:Int) (c3:Int) (c4:Int) (c5:Int) (c6:Int) (c7:Int) (c8:Int):List Value:=[.int .i64 c0,.int .i64 c1,.int .i64 c2,.int .i64 c3,.int .i64 c4,.int .i64 c5,.int .i64 c6,.int .i64 c7,.int .i64 c8]
theorem aew {a:Addr} {w:World} {c0:Int} {c1:Int} {c2:Int} {c3:Int} {c4:Int} {c5:Int} {c6:Int} {c7:Int} {c8:Int} {K:Int→Int→Int→Int→Int→Int→Int→Int→Int→Prop} (h:∀ (i:Nat) (v:Value),(Ho c0 c1 c2 c3 c4 c5 c6 c7 c8)[i]? = some v→w.cell? (Addr.add a i)=some v) (hK:K c0 c1 c2 c3 c4 c5 c6 c7 c8):pF a w K:=
 ⟨_,h 0 _ rfl,⟨_,h 1 _ rfl,⟨_,h 2 _ rfl,⟨_,h 3 _ rfl,⟨_,h 4 _ rfl,⟨_,h 5 _ rfl,⟨_,h 6 _ rfl,⟨_,h 7 _ rfl,⟨_,h 8 _ rfl,hK⟩⟩⟩⟩⟩⟩⟩⟩⟩
theorem _root_.Go.Ev.ak.pF {w0 w:World} {S:List Nat} {L:List aD} (H:ak w0 S w L) (k:Nat) {b:Nat} {t:TypeId} {c0:Int} {c1:Int} {c2:Int} {c3:Int} {c4:Int} {c5:Int} {c6:Int} {c7:Int} {c8:Int} {K:Int→Int→Int→Int→Int→Int→Int→Int→Int→Prop} (hk:L[k]? = some (.av b (Ho c0 c1 c2 c3 c4 c5 c6 c7 c8) t)) (hK:K c0 c1 c2 c3 c4 c5 c6 c7 c8):pF ⟨b,0,none⟩ w K:=
 aew (fun i v hv=>H.cell k hk (au b i) hv) hK
theorem _root_.Go.Ev.ak.qG {w0 w:World} {S:List Nat} {L:List aD} (H:ak w0 S w L) (k:Nat) {b:Nat} {t:TypeId} {cs:List Value} {c0:Int} {c1:Int} {c2:Int} {c3:Int} {c4:Int} {c5:Int} {c6:Int} {c7:Int} {c8:Int} {K:World→Prop} (hk:L[k]? = some (.av b cs t)) (hl:cs.length=9) (h:∀ w',ak w0 S w' (L.set k (.av b (Ho c0 c1 c2 c3 c4 c5 c6 c7 c8) t))→K w'):qG ⟨b,0,none⟩ c0 c1 c2 c3 c4 c5 c6 c7 c8 w K:=by
 have bO:k<L.length:=(List.getElem?_eq_some_iff.1 hk).1
 obtain ⟨u0,u1,u2,u3,u4,u5,u6,u7,u8,rfl⟩:∃ u0 u1 u2 u3 u4 u5 u6 u7 u8,cs=[u0,u1,u2,u3,u4,u5,u6,u7,u8]:=by
  match cs,hl with
  | [u0,u1,u2,u3,u4,u5,u6,u7,u8],_=>exact ⟨u0,u1,u2,u3,u4,u5,u6,u7,u8,rfl⟩
 refine H.st k hk (au b 0) (by simp) rfl fun w0 H0=>?_
 simp only [List.set_set,List.set_cons_zero,List.set_cons_succ] at H0
 refine H0.st k (List.getElem?_set_self bO) (au b 1) (by simp) rfl fun w1 H1=>?_
 simp only [List.set_set,List.set_cons_zero,List.set_cons_succ] at H1
 refine H1.st k (List.getElem?_set_self bO) (au b 2) (by simp) rfl fun w2 H2=>?_
 simp only [List.set_set,List.set_cons_zero,List.set_cons_succ] at H2
 refine H2.st k (List.getElem?_set_self bO) (au b 3) (by simp) rfl fun w3 H3=>?_
 simp only [List.set_set,List.set_cons_zero,List.set_cons_succ] at H3
 refine H3.st k (List.getElem?_set_self bO) (au b 4) (by simp) rfl fun w4 H4=>?_
 simp only [List.set_set,List.set_cons_zero,List.set_cons_succ] at H4
 refine H4.st k (List.getElem?_set_self bO) (au b 5) (by simp) rfl fun w5 H5=>?_
 simp only [List.set_set,List.set_cons_zero,List.set_cons_succ] at H5
 refine H5.st k (List.getElem?_set_self bO) (au b 6) (by simp) rfl fun w6 H6=>?_
 simp only [List.set_set,List.set_cons_zero,List.set_cons_succ] at H6
 refine H6.st k (List.getElem?_set_self bO) (au b 7) (by simp) rfl fun w7 H7=>?_
 simp only [List.set_set,List.set_cons_zero,List.set_cons_succ] at H7
 refine H7.st k (List.getElem?_set_self bO) (au b 8) (by simp) rfl fun w8 H8=>?_
 simp only [List.set_set,List.set_cons_zero,List.set_cons_succ] at H8
 exact h _ H8
theorem aex {c0:Int} {c1:Int} {c2:Int} {c3:Int} {c4:Int} {c5:Int} {c6:Int} {c7:Int} {c8:Int} {K:Int→Int→Int→Int→Int→Int→Int→Int→Int→Prop} (hK:K c0 c1 c2 c3 c4 c5 c6 c7 c8):NU (.agg ⟨Ho c0 c1 c2 c3 c4 c5 c6 c7 c8⟩) K:=
 ⟨_,rfl,c0,rfl,c1,rfl,c2,rfl,c3,rfl,c4,rfl,c5,rfl,c6,rfl,c7,rfl,c8,rfl,rfl,hK⟩
@[reducible] def D1 (c0:Int) (c1:Int) (c2:Int) (c3:Int) (c4:Int) (c5:Int) (c6:Int) (c7:Int) (c8:Int):List Value:=[.int .i64 c0,.int .i64 c1,.int .i64 c2,.int .i64 c3,.int .i64 c4,.int .i64 c5,.int .i64 c6,.int .i64 c7,.int .i64 c8]
theorem af0 {a:Addr} {w:World} {c0:Int} {c1:Int} {c2:Int} {c3:Int} {c4:Int} {c5:Int} {c6:Int} {c7:Int} {c8:Int} {K:Int→Int→Int→Int→Int→Int→Int→Int→Int→Prop} (h:∀ (i:Nat) (v:Value),(D1 c0 c1 c2 c3 c4 c5 c6 c7 c8)[i]? = some v→w.cell? (Addr.add a i)=some v) (hK:K c0 c1 c2 c3 c4 c5 c6 c7 c8):rG a w K:=
 ⟨_,h 0 _ rfl,⟨_,h 1 _ rfl,⟨_,h 2 _ rfl,⟨_,h 3 _ rfl,⟨_,h 4 _ rfl,⟨_,h 5 _ rfl,⟨_,h 6 _ rfl,⟨_,h 7 _ rfl,⟨_,h 8 _ rfl,hK⟩⟩⟩⟩⟩⟩⟩⟩⟩
theorem _root_.Go.Ev.ak.rG {w0 w:World} {S:List Nat} {L:List aD} (H:ak w0 S w L) (k:Nat) {b:Nat} {t:TypeId} {c0:Int} {c1:Int} {c2:Int} {c3:Int} {c4:Int} {c5:Int} {c6:Int} {c7:Int} {c8:Int} {K:Int→Int→Int→Int→Int→Int→Int→Int→Int→Prop} (hk:L[k]? = some (.av b (D1 c0 c1 c2 c3 c4 c5 c6 c7 c8) t)) (hK:K c0 c1 c2 c3 c4 c5 c6 c7 c8):rG ⟨b,0,none⟩ w K:=
 af0 (fun i v hv=>H.cell k hk (au b i) hv) hK
theorem _root_.Go.Ev.ak.mY {w0 w:World} {S:List Nat} {L:List aD} (H:ak w0 S w L) (k:Nat) {b:Nat} {t:TypeId} {cs:List Value} {c0:Int} {c1:Int} {c2:Int} {c3:Int} {c4:Int} {c5:Int} {c6:Int} {c7:Int} {c8:Int} {K:World→Prop} (hk:L[k]? = some (.av b cs t)) (hl:cs.length=9) (h:∀ w',ak w0 S w' (L.set k (.av b (D1 c0 c1 c2 c3 c4 c5 c6 c7 c8) t))→K w'):mY ⟨b,0,none⟩ c0 c1 c2 c3 c4 c5 c6 c7 c8 w K:=by
 have bO:k<L.length:=(List.getElem?_eq_some_iff.1 hk).1
 obtain ⟨u0,u1,u2,u3,u4,u5,u6,u7,u8,rfl⟩:∃ u0 u1 u2 u3 u4 u5 u6 u7 u8,cs=[u0,u1,u2,u3,u4,u5,u6,u7,u8]:=by
  match cs,hl with
  | [u0,u1,u2,u3,u4,u5,u6,u7,u8],_=>exact ⟨u0,u1,u2,u3,u4,u5,u6,u7,u8,rfl⟩
 refine H.st k hk (au b 0) (by simp) rfl fun w0 H0=>?_
 simp only [List.set_set,List.set_cons_zero,List.set_cons_succ] at H0
 refine H0.st k (List.getElem?_set_self bO) (au b 1) (by simp) rfl fun w1 H1=>?_
 simp only [List.set_set,List.set_cons_zero,List.set_cons_succ] at H1
 refine H1.st k (List.getElem?_set_self bO) (au b 2) (by simp) rfl fun w2 H2=>?_
 simp only [List.set_set,List.set_cons_zero,List.set_cons_succ] at H2
 refine H2.st k (List.getElem?_set_self bO) (au b 3) (by simp) rfl fun w3 H3=>?_
 simp only [List.set_set,List.set_cons_zero,List.set_cons_succ] at H3
 refine H3.st k (List.getElem?_set_self bO) (au b 4) (by simp) rfl fun w4 H4=>?_
 simp only [List.set_set,List.set_cons_zero,List.set_cons_succ] at H4
 refine H4.st k (List.getElem?_set_self bO) (au b 5) (by simp) rfl fun w5 H5=>?_
 simp only [List.set_set,List.set_cons_zero,List.set_cons_succ] at H5
 refine H5.st k (List.getElem?_set_self bO) (au b 6) (by simp) rfl fun w6 H6=>?_
 simp only [List.set_set,List.set_cons_zero,List.set_cons_succ] at H6
 refine H6.st k (List.getElem?_set_self bO) (au b 7) (by simp) rfl fun w7 H7=>?_
 simp only [List.set_set,List.set_cons_zero,List.set_cons_succ] at H7
 refine H7.st k (List.getElem?_set_self bO) (au b 8) (by simp) rfl fun w8 H8=>?_
 simp only [List.set_set,List.set_cons_zero,List.set_cons_succ] at H8
 exact h _ H8
theorem He {c0:Int} {c1:Int} {c2:Int} {c3:Int} {c4:Int} {c5:Int} {c6:Int} {c7:Int} {c8:Int} {K:Int→Int→Int→Int→Int→Int→Int→Int→Int→Prop} (hK:K c0 c1 c2 c3 c4 c5 c6 c7 c8):Wh (.agg ⟨D1 c0 c1 c2 c3 c4 c5 c6 c7 c8⟩) K:=
 ⟨_,rfl,c0,rfl,c1,rfl,c2,rfl,c3,rfl,c4,rfl,c5,rfl,c6,rfl,c7,rfl,c8,rfl,rfl,hK⟩
@[reducible] def yY (c0:ah) (c1:ah) (c2:ah) (c3:ah):List Value:=[.slice c0.a c0.n c0.c,.slice c1.a c1.n c1.c,.slice c2.a c2.n c2.c,.slice c3.a c3.n c3.c]
theorem af1 {a:Addr} {w:World} {c0:ah} {c1:ah} {c2:ah} {c3:ah} {K:ah→ah→ah→ah→Prop} (h:∀ (i:Nat) (v:Value),(yY c0 c1 c2 c3)[i]? = some v→w.cell? (Addr.add a i)=some v) (hK:K c0 c1 c2 c3):D0 a w K:=
 ⟨c0,h 0 _ rfl,⟨c1,h 1 _ rfl,⟨c2,h 2 _ rfl,⟨c3,h 3 _ rfl,hK⟩⟩⟩⟩
theorem _root_.Go.Ev.ak.D0 {w0 w:World} {S:List Nat} {L:List aD} (H:ak w0 S w L) (k:Nat) {b:Nat} {t:TypeId} {c0:ah} {c1:ah} {c2:ah} {c3:ah} {K:ah→ah→ah→ah→Prop} (hk:L[k]? = some (.av b (yY c0 c1 c2 c3) t)) (hK:K c0 c1 c2 c3):D0 ⟨b,0,none⟩ w K:=
 af1 (fun i v hv=>H.cell k hk (au b i) hv) hK
theorem _root_.Go.Ev.ak.wX {w0 w:World} {S:List Nat} {L:List aD} (H:ak w0 S w L) (k:Nat) {b:Nat} {t:TypeId} {cs:List Value} {c0:ah} {c1:ah} {c2:ah} {c3:ah} {K:World→Prop} (hk:L[k]? = some (.av b cs t)) (hl:cs.length=4) (h:∀ w',ak w0 S w' (L.set k (.av b (yY c0 c1 c2 c3) t))→K w'):wX ⟨b,0,none⟩ c0 c1 c2 c3 w K:=by
 have bO:k<L.length:=(List.getElem?_eq_some_iff.1 hk).1
 obtain ⟨u0,u1,u2,u3,rfl⟩:∃ u0 u1 u2 u3,cs=[u0,u1,u2,u3]:=by
  match cs,hl with
  | [u0,u1,u2,u3],_=>exact ⟨u0,u1,u2,u3,rfl⟩
 refine H.st k hk (au b 0) (by simp) rfl fun w0 H0=>?_
 simp only [List.set_set,List.set_cons_zero,List.set_cons_succ] at H0
 refine H0.st k (List.getElem?_set_self bO) (au b 1) (by simp) rfl fun w1 H1=>?_
 simp only [List.set_set,List.set_cons_zero,List.set_cons_succ] at H1
 refine H1.st k (List.getElem?_set_self bO) (au b 2) (by simp) rfl fun w2 H2=>?_
 simp only [List.set_set,List.set_cons_zero,List.set_cons_succ] at H2
 refine H2.st k (List.getElem?_set_self bO) (au b 3) (by simp) rfl fun w3 H3=>?_
 simp only [List.set_set,List.set_cons_zero,List.set_cons_succ] at H3
 exact h _ H3
theorem Vr {c0:ah} {c1:ah} {c2:ah} {c3:ah} {K:ah→ah→ah→ah→Prop} (hK:K c0 c1 c2 c3):PT (.agg ⟨yY c0 c1 c2 c3⟩) K:=
 ⟨_,rfl,c0,rfl,c1,rfl,c2,rfl,c3,rfl,rfl,hK⟩
@[reducible] def D3 (c0:Int) (c1:Int) (c2:Int) (c3:Int) (c4:Int):List Value:=[.int .i64 c0,.int .i64 c1,.int .i64 c2,.int .i64 c3,.int .i64 c4]
theorem af2 {a:Addr} {w:World} {c0:Int} {c1:Int} {c2:Int} {c3:Int} {c4:Int} {K:Int→Int→Int→Int→Int→Prop} (h:∀ (i:Nat) (v:Value),(D3 c0 c1 c2 c3 c4)[i]? = some v→w.cell? (Addr.add a i)=some v) (hK:K c0 c1 c2 c3 c4):mZ a w K:=
 ⟨_,h 0 _ rfl,⟨_,h 1 _ rfl,⟨_,h 2 _ rfl,⟨_,h 3 _ rfl,⟨_,h 4 _ rfl,hK⟩⟩⟩⟩⟩
theorem _root_.Go.Ev.ak.mZ {w0 w:World} {S:List Nat} {L:List aD} (H:ak w0 S w L) (k:Nat) {b:Nat} {t:TypeId} {c0:Int} {c1:Int} {c2:Int} {c3:Int} {c4:Int} {K:Int→Int→Int→Int→Int→Prop} (hk:L[k]? = some (.av b (D3 c0 c1 c2 c3 c4) t)) (hK:K c0 c1 c2 c3 c4):mZ ⟨b,0,none⟩ w K:=
 af2 (fun i v hv=>H.cell k hk (au b i) hv) hK
theorem _root_.Go.Ev.ak.iY {w0 w:World} {S:List Nat} {L:List aD} (H:ak w0 S w L) (k:Nat) {b:Nat} {t:TypeId} {cs:List Value} {c0:Int} {c1:Int} {c2:Int} {c3:Int} {c4:Int} {K:World→Prop} (hk:L[k]? = some (.av b cs t)) (hl:cs.length=5) (h:∀ w',ak w0 S w' (L.set k (.av b (D3 c0 c1 c2 c3 c4) t))→K w'):iY ⟨b,0,none⟩ c0 c1 c2 c3 c4 w K:=by
 have bO:k<L.length:=(List.getElem?_eq_some_iff.1 hk).1
 obtain ⟨u0,u1,u2,u3,u4,rfl⟩:∃ u0 u1 u2 u3 u4,cs=[u0,u1,u2,u3,u4]:=by
  match cs,hl with
  | [u0,u1,u2,u3,u4],_=>exact ⟨u0,u1,u2,u3,u4,rfl⟩
 refine H.st k hk (au b 0) (by simp) rfl fun w0 H0=>?_
 simp only [List.set_set,List.set_cons_zero,List.set_cons_succ] at H0
 refine H0.st k (List.getElem?_set_self bO) (au b 1) (by simp) rfl fun w1 H1=>?_
 simp only [List.set_set,List.set_cons_zero,List.set_cons_succ] at H1
 refine H1.st k (List.getElem?_set_self bO) (au b 2) (by simp) rfl fun w2 H2=>?_
 simp only [List.set_set,List.set_cons_zero,List.set_cons_succ] at H2
 refine H2.st k (List.getElem?_set_self bO) (au b 3) (by simp) rfl fun w3 H3=>?_
 simp only [List.set_set,List.set_cons_zero,List.set_cons_succ] at H3
 refine H3.st k (List.getElem?_set_self bO) (au b 4) (by simp) rfl fun w4 H4=>?_
 simp only [List.set_set,List.set_cons_zero,List.set_cons_succ] at H4
 exact h _ H4
theorem af3 {c0:Int} {c1:Int} {c2:Int} {c3:Int} {c4:Int} {K:Int→Int→Int→Int→Int→Prop} (hK:K c0 c1 c2 c3 c4):uT (.agg ⟨D3 c0 c1 c2 c3 c4⟩) K:=
 ⟨_,rfl,c0,rfl,c1,rfl,c2,rfl,c3,rfl,c4,rfl,rfl,hK⟩
end Go.Proofs.YtgjoehgomjgckaaGreatDoor
end
section
set_option linter.unusedVariables false
set_option linter.unusedSimpArgs false
namespace Go.Proofs.YtgjoehgomjgckaaGreatDoor
open Go Go.Ev
set_option maxRecDepth 100000
set_option linter.unusedVariables false
def QL (dP:Int) (dD:Int) (dF:Int) (cS:Int) (fu:Int) (fy:Int) (gP:Int) (gQ:Int) (gR:Int) (gS:Int) (gI:Int) (gJ:ByteArray) (dL:ah) (dM:ah) (w:World) (R:Value→World→Prop):Prop:=
 nw k6 [.int .i64 dP,.int .i64 dD,.int .i64 dF,.int .i64 cS,.int .i64 fu,.int .i64 fy,.int .i64 gP,.int .i64 gQ,.int .i64 gR,.int .i64 gS,.int .i64 gI,.string gJ,.slice dL.a dL.n dL.c,.slice dM.a dM.n dM.c] w fun a b=>
 an .i64 (Addr.add a 0) b fun c=>
 ay Pr BF [.int .i64 c,.int .i64 1,.int .i64 6] b fun d e=>
 aW d fun f=>
 an .i64 (Addr.add a 1) e fun g=>
 aA f
 (ay Pr BF [.int .i64 g,.int .i64 1,.int .i64 1099511627776] e fun i j=>
 aW i fun k=>
 an .i64 (Addr.add a 2) j fun l=>
 aA k
 (ay Pr BF [.int .i64 l,.int .i64 1,.int .i64 13] j fun m n=>
 aW m fun o=>
 jH a n fun p q s t u v x y z A B C D E=>
 aA o
 (ay Pr MT [.agg ⟨[.int .i64 p,.int .i64 q,.int .i64 s,.int .i64 t,.int .i64 u,.int .i64 v,.int .i64 x,.int .i64 y,.int .i64 z,.int .i64 A,.int .i64 B,.string C,.slice D.a D.n D.c,.slice E.a E.n E.c]⟩] n fun F G=>
 aU F fun I=>
 jQ 1 I 3 fun J=>
 ay Pr Dp [.slice J.a J.n J.c,.func (.func DR) ⟨[]⟩ ⟨[]⟩] G fun L M=>
 aW L fun N=>
 gp (Addr.add a 11) M fun O=>
 ax (Addr.add a 12) M fun Q=>
 ax (Addr.add a 13) M fun S=>
 R (.bool ((((!N) && (decide (((ByteArray.size O:Nat):Int)≤300))) && (decide ((Q.n:Int)≤2000))) && (decide ((S.n:Int)≤100)))) M)
 (gp (Addr.add a 11) n fun T=>
 ax (Addr.add a 12) n fun U=>
 ax (Addr.add a 13) n fun V=>
 R (.bool false) n))
 (jH a j fun X Y Z aa ba ca da ea fa ga ia ja ka la=>
 gp (Addr.add a 11) j fun ma=>
 ax (Addr.add a 12) j fun na=>
 ax (Addr.add a 13) j fun oa=>
 R (.bool false) j))
 (an .i64 (Addr.add a 2) e fun pa=>
 jH a e fun qa sa ta ua va xa ya za Aa Ba Ca Da Ea Fa=>
 gp (Addr.add a 11) e fun Ga=>
 ax (Addr.add a 12) e fun Ia=>
 ax (Addr.add a 13) e fun Ja=>
 R (.bool false) e)
theorem agS {dP:Int} {dD:Int} {dF:Int} {cS:Int} {fu:Int} {fy:Int} {gP:Int} {gQ:Int} {gR:Int} {gS:Int} {gI:Int} {gJ:ByteArray} {dL:ah} {dM:ah} {w:World} {R:Value→World→Prop} (h:QL dP dD dF cS fu fy gP gQ gR gS gI gJ dL dM w R):Ok Pr QJ [.agg ⟨[.int .i64 dP,.int .i64 dD,.int .i64 dF,.int .i64 cS,.int .i64 fu,.int .i64 fy,.int .i64 gP,.int .i64 gQ,.int .i64 gR,.int .i64 gS,.int .i64 gI,.string gJ,.slice dL.a dL.n dL.c,.slice dM.a dM.n dM.c]⟩] w R:=
 aL (m:=⟨true,true⟩) (J:=[]) (L:=[]) aJ Tryz.func50 (by kernel_rfl) ((by kernel_rfl:aK Pr _ _ _ Tryz.f50 _ w R=QL dP dD dF cS fu fy gP gQ gR gS gI gJ dL dM w R).mpr h)
def N3 (aZ:Int) (w:World) (R:Value→World→Prop):Prop:=
 ay Pr OP [.int .i64 aZ] w fun a b=>
 bw.bC a fun c=>
 aC c fun d e=>
 aY .i64 d fun f=>
 aC e fun g i=>
 aY .i64 g fun j=>
 aC i fun k l=>
 aY .i64 k fun m=>
 (l=[]∧
 R (.tuple ⟨[.int .i64 f,.int .i64 j,.int .i64 m]⟩) b)
theorem aey {aZ:Int} {w:World} {R:Value→World→Prop} (h:N3 aZ w R):Ok Pr Hh [.int .i64 aZ] w R:=
 aL (m:=⟨true,true⟩) (J:=[]) (L:=[]) aJ Tryz.func70 (by kernel_rfl) ((by kernel_rfl:aK Pr _ _ _ Tryz.f70 _ w R=N3 aZ w R).mpr h)
def M9 (aZ:Int) (w:World) (R:Value→World→Prop):Prop:=
 ay Pr PI [.int .i64 aZ] w fun a b=>
 bw.bC a fun c=>
 aC c fun d e=>
 NU d fun f g i j k l m n o=>
 aC e fun p q=>
 aW p fun s=>
 (q=[]∧
 nw Bn (zc Pr Bn) b fun t u=>
 qG t f g i j k l m n o u fun v=>
 aA (!s)
 (R (.tuple ⟨[.int .i64 0,.int .i64 0,.int .i64 0]⟩) v)
 (pF t v fun x y z A B C D E F=>
 ay Pr NP [.agg ⟨[.int .i64 x,.int .i64 y,.int .i64 z,.int .i64 A,.int .i64 B,.int .i64 C,.int .i64 D,.int .i64 E,.int .i64 F]⟩] v fun G I=>
 bw.bC G fun J=>
 aC J fun L M=>
 aY .i64 L fun N=>
 aC M fun O Q=>
 aY .i64 O fun S=>
 (Q=[]∧
 an .i64 (Addr.add t 0) (World.drew I) fun T=>
 (aF (320 * T)∧
 (aF (32+(320 * T))∧
 an .i64 (Addr.add t 0) (World.drew I) fun U=>
 an .i64 (Addr.add t 1) (World.drew I) fun V=>
 (aF (U+V)∧
 (aF ((U+V) * S)∧
 an .i64 (Addr.add t 0) (World.drew I) fun X=>
 (aF (13 * X)∧
 (aF (((U+V) * S)+(13 * X))∧
 (aF (32 * (((U+V) * S)+(13 * X)))∧
 (aF (128+(32 * (((U+V) * S)+(13 * X))))∧
 an .i64 (Addr.add t 8) (World.drew I) fun Y=>
 an .i64 (Addr.add t 1) (World.drew I) fun Z=>
 (aF (32 * Z)∧
 (aF ((32 * Z) * N)∧
 (aF (Y+((32 * Z) * N))∧
 an .i64 (Addr.add t 5) (World.drew I) fun aa=>
 (aF ((Y+((32 * Z) * N))+aa)∧
 an .i64 (Addr.add t 0) (World.drew I) fun ba=>
 (aF (((Y+((32 * Z) * N))+aa)+ba)∧
 R (.tuple ⟨[.int .i64 (32+(320 * T)),.int .i64 (128+(32 * (((U+V) * S)+(13 * X)))),.int .i64 (((Y+((32 * Z) * N))+aa)+ba)]⟩) (World.drew I)))))))))))))))))
theorem adP {aZ:Int} {w:World} {R:Value→World→Prop} (h:M9 aZ w R):Ok Pr MR [.int .i64 aZ] w R:=
 aL (m:=⟨true,true⟩) (J:=[]) (L:=[]) aJ Tryz.func97 (by kernel_rfl) ((by kernel_rfl:aK Pr _ _ _ Tryz.f97 _ w R=M9 aZ w R).mpr h)
def O7 (n:Int) (w:World) (R:Value→World→Prop):Prop:=
 ay Pr BF [.int .i64 n,.int .i64 0,.int .i64 1099511627776] w fun a b=>
 aW a fun c=>
 R (.bool (!c)) b
theorem afa {n:Int} {w:World} {R:Value→World→Prop} (h:O7 n w R):Ok Pr DR [.int .i64 n] w R:=
 aL (m:=⟨true,true⟩) (J:=[]) (L:=[]) aJ Tryz.func102 (by kernel_rfl) ((by kernel_rfl:aK Pr _ _ _ Tryz.f102 _ w R=O7 n w R).mpr h)
def Rc (n:Int) (lo:Int) (hi:Int) (w:World) (R:Value→World→Prop):Prop:=
 R (.bool ((decide (lo≤n)) && (decide (n≤hi)))) w
theorem ahn {n:Int} {lo:Int} {hi:Int} {w:World} {R:Value→World→Prop} (h:Rc n lo hi w R):Ok Pr BF [.int .i64 n,.int .i64 lo,.int .i64 hi] w R:=
 aL (m:=⟨true,true⟩) (J:=[]) (L:=[]) aJ Tryz.func103 (by kernel_rfl) ((by kernel_rfl:aK Pr _ _ _ Tryz.f103 _ w R=Rc n lo hi w R).mpr h)
def Nd (dP:Int) (dD:Int) (dF:Int) (cS:Int) (fu:Int) (fy:Int) (gP:Int) (gQ:Int) (gR:Int) (gS:Int) (gI:Int) (gJ:ByteArray) (dL:ah) (dM:ah) (w:World) (R:Value→World→Prop):Prop:=
 nw k6 [.int .i64 dP,.int .i64 dD,.int .i64 dF,.int .i64 cS,.int .i64 fu,.int .i64 fy,.int .i64 gP,.int .i64 gQ,.int .i64 gR,.int .i64 gS,.int .i64 gI,.string gJ,.slice dL.a dL.n dL.c,.slice dM.a dM.n dM.c] w fun a b=>
 an .i64 (Addr.add a 0) b fun c=>
 an .i64 (Addr.add a 1) b fun d=>
 an .i64 (Addr.add a 2) b fun e=>
 an .i64 (Addr.add a 3) b fun f=>
 an .i64 (Addr.add a 4) b fun g=>
 an .i64 (Addr.add a 5) b fun i=>
 an .i64 (Addr.add a 6) b fun j=>
 an .i64 (Addr.add a 7) b fun k=>
 an .i64 (Addr.add a 8) b fun l=>
 an .i64 (Addr.add a 9) b fun m=>
 an .i64 (Addr.add a 10) b fun n=>
 nw bH [.int .i64 c,.int .i64 d,.int .i64 e,.int .i64 f,.int .i64 g,.int .i64 i,.int .i64 j,.int .i64 k,.int .i64 l,.int .i64 m,.int .i64 n] b fun o p=>
 R (.slice (some o) 11 11) p
theorem adQ {dP:Int} {dD:Int} {dF:Int} {cS:Int} {fu:Int} {fy:Int} {gP:Int} {gQ:Int} {gR:Int} {gS:Int} {gI:Int} {gJ:ByteArray} {dL:ah} {dM:ah} {w:World} {R:Value→World→Prop} (h:Nd dP dD dF cS fu fy gP gQ gR gS gI gJ dL dM w R):Ok Pr MT [.agg ⟨[.int .i64 dP,.int .i64 dD,.int .i64 dF,.int .i64 cS,.int .i64 fu,.int .i64 fy,.int .i64 gP,.int .i64 gQ,.int .i64 gR,.int .i64 gS,.int .i64 gI,.string gJ,.slice dL.a dL.n dL.c,.slice dM.a dM.n dM.c]⟩] w R:=
 aL (m:=⟨true,true⟩) (J:=[]) (L:=[]) aJ Tryz.func105 (by kernel_rfl) ((by kernel_rfl:aK Pr _ _ _ Tryz.f105 _ w R=Nd dP dD dF cS fu fy gP gQ gR gS gI gJ dL dM w R).mpr h)
def O8 (aZ:Int) (w:World) (R:Value→World→Prop):Prop:=
 ay Pr Q7 [.int .i64 aZ] w fun a b=>
 bw.bC a fun c=>
 aC c fun d e=>
 Wh d fun f g i j k l m n o=>
 aC e fun p q=>
 aW p fun s=>
 (q=[]∧
 nw Eh (zc Pr Eh) b fun t u=>
 mY t f g i j k l m n o u fun v=>
 aA (!s)
 (R (.tuple ⟨[.int .i64 0,.int .i64 0,.int .i64 0]⟩) v)
 (an .i64 (Addr.add t 2) (World.drew v) fun x=>
 an .i64 (Addr.add t 2) (World.drew v) fun y=>
 an .i64 (Addr.add t 6) (World.drew v) fun z=>
 (aF (z - 1)∧
 an .i64 (Addr.add t 6) (World.drew v) fun A=>
 ay Pr HK [.int .i64 x,.int .i64 y] (World.drew v) fun B C=>
 aY .i64 B fun D=>
 (kept (Addr.add t 6) 1 (World.drew v) C∧
 (kept (Addr.add t 6) 1 (World.drew v) C∧
 ay Pr HK [.int .i64 (z - 1),.int .i64 A] C fun E F=>
 aY .i64 E fun G=>
 an .i64 (Addr.add t 0) (World.drew F) fun I=>
 (aF (320 * I)∧
 (aF (32+(320 * I))∧
 an .i64 (Addr.add t 0) (World.drew F) fun J=>
 an .i64 (Addr.add t 1) (World.drew F) fun L=>
 (aF (J+L)∧
 (aF ((J+L) * D)∧
 an .i64 (Addr.add t 0) (World.drew F) fun M=>
 (aF (13 * M)∧
 (aF (((J+L) * D)+(13 * M))∧
 (aF (32 * (((J+L) * D)+(13 * M)))∧
 (aF (128+(32 * (((J+L) * D)+(13 * M))))∧
 an .i64 (Addr.add t 8) (World.drew F) fun N=>
 an .i64 (Addr.add t 1) (World.drew F) fun O=>
 (aF (32 * O)∧
 (aF ((32 * O) * G)∧
 (aF (N+((32 * O) * G))∧
 an .i64 (Addr.add t 5) (World.drew F) fun Q=>
 (aF ((N+((32 * O) * G))+Q)∧
 an .i64 (Addr.add t 0) (World.drew F) fun S=>
 (aF (((N+((32 * O) * G))+Q)+S)∧
 R (.tuple ⟨[.int .i64 (32+(320 * I)),.int .i64 (128+(32 * (((J+L) * D)+(13 * M)))),.int .i64 (((N+((32 * O) * G))+Q)+S)]⟩) (World.drew F)))))))))))))))))))
theorem afb {aZ:Int} {w:World} {R:Value→World→Prop} (h:O8 aZ w R):Ok Pr OP [.int .i64 aZ] w R:=
 aL (m:=⟨true,true⟩) (J:=[]) (L:=[]) aJ Tryz.func126 (by kernel_rfl) ((by kernel_rfl:aK Pr _ _ _ Tryz.f126 _ w R=O8 aZ w R).mpr h)
def PZ (aZ:Int) (w:World) (R:Value→World→Prop):Prop:=
 nw Bn (zc Pr Bn) w fun a b=>
 aA (decide (aZ=1))
 (qG a 4 4 2 39 78 80 131072 95232 32 b fun c=>
 pF a c fun d e f g i j k l m=>
 R (.tuple ⟨[.agg ⟨[.int .i64 d,.int .i64 e,.int .i64 f,.int .i64 g,.int .i64 i,.int .i64 j,.int .i64 k,.int .i64 l,.int .i64 m]⟩,.bool true]⟩) c)
 (aA (decide (aZ=2))
 (qG a 6 5 4 49 196 55 524288 261888 48 b fun n=>
 pF a n fun o p q s t u v x y=>
 R (.tuple ⟨[.agg ⟨[.int .i64 o,.int .i64 p,.int .i64 q,.int .i64 s,.int .i64 t,.int .i64 u,.int .i64 v,.int .i64 x,.int .i64 y]⟩,.bool true]⟩) n)
 (aA (decide (aZ=3))
 (qG a 8 7 2 60 120 75 524288 261888 64 b fun z=>
 pF a z fun A B C D E F G I J=>
 R (.tuple ⟨[.agg ⟨[.int .i64 A,.int .i64 B,.int .i64 C,.int .i64 D,.int .i64 E,.int .i64 F,.int .i64 G,.int .i64 I,.int .i64 J]⟩,.bool true]⟩) z)
 (qG a 0 0 0 0 0 0 0 0 0 b fun L=>
 pF a L fun M N O Q S T U V X=>
 R (.tuple ⟨[.agg ⟨[.int .i64 M,.int .i64 N,.int .i64 O,.int .i64 Q,.int .i64 S,.int .i64 T,.int .i64 U,.int .i64 V,.int .i64 X]⟩,.bool false]⟩) L)))
theorem af4 {aZ:Int} {w:World} {R:Value→World→Prop} (h:PZ aZ w R):Ok Pr PI [.int .i64 aZ] w R:=
 aL (m:=⟨true,true⟩) (J:=[]) (L:=[]) aJ Tryz.func145 (by kernel_rfl) ((by kernel_rfl:aK Pr _ _ _ Tryz.f145 _ w R=PZ aZ w R).mpr h)
def N4 (sC:Int) (sD:Int) (sF:Int) (sG:Int) (sH:Int) (FU:Int) (FV:Int) (FW:Int) (FX:Int) (w:World) (R:Value→World→Prop):Prop:=
 nw Bn [.int .i64 sC,.int .i64 sD,.int .i64 sF,.int .i64 sG,.int .i64 sH,.int .i64 FU,.int .i64 FV,.int .i64 FW,.int .i64 FX] w fun a b=>
 jz (fun (c:Int)=>[(4,some (.int .i64 c))])
 (fun c d=>jz (fun (e:Int)=>[(5,some (.int .i64 e))])
 (fun e f=>R (.tuple ⟨[.int .i64 c,.int .i64 e]⟩) f)
 (fun g=>
 an .i64 (Addr.add a 2) d fun i=>
 aA (decide (i=2))
 (g 3 d)
 (g 4 d)))
 (fun j=>
 an .i64 (Addr.add a 6) b fun k=>
 aA (decide (k=131072))
 (j 18 b)
 (j 20 b))
theorem aez {sC:Int} {sD:Int} {sF:Int} {sG:Int} {sH:Int} {FU:Int} {FV:Int} {FW:Int} {FX:Int} {w:World} {R:Value→World→Prop} (h:N4 sC sD sF sG sH FU FV FW FX w R):Ok Pr NP [.agg ⟨[.int .i64 sC,.int .i64 sD,.int .i64 sF,.int .i64 sG,.int .i64 sH,.int .i64 FU,.int .i64 FV,.int .i64 FW,.int .i64 FX]⟩] w R:=
 aL (m:=⟨true,true⟩) (J:=[(4,[(4,.int .i64)]),(6,[(5,.int .i64)])]) (L:=[]) aJ Tryz.func146 (by kernel_rfl) ((by kernel_rfl:aK Pr _ _ _ Tryz.f146 _ w R=N4 sC sD sF sG sH FU FV FW FX w R).mpr h)
def Re (aZ:Int) (w:World) (R:Value→World→Prop):Prop:=
 nw Eh (zc Pr Eh) w fun a b=>
 aA (decide (aZ=1))
 (mY a 4 4 2 39 78 80 131072 95232 32 b fun c=>
 rG a c fun d e f g i j k l m=>
 R (.tuple ⟨[.agg ⟨[.int .i64 d,.int .i64 e,.int .i64 f,.int .i64 g,.int .i64 i,.int .i64 j,.int .i64 k,.int .i64 l,.int .i64 m]⟩,.bool true]⟩) c)
 (aA (decide (aZ=2))
 (mY a 6 5 4 49 196 55 524288 261888 48 b fun n=>
 rG a n fun o p q s t u v x y=>
 R (.tuple ⟨[.agg ⟨[.int .i64 o,.int .i64 p,.int .i64 q,.int .i64 s,.int .i64 t,.int .i64 u,.int .i64 v,.int .i64 x,.int .i64 y]⟩,.bool true]⟩) n)
 (aA (decide (aZ=3))
 (mY a 8 7 2 60 120 75 524288 261888 64 b fun z=>
 rG a z fun A B C D E F G I J=>
 R (.tuple ⟨[.agg ⟨[.int .i64 A,.int .i64 B,.int .i64 C,.int .i64 D,.int .i64 E,.int .i64 F,.int .i64 G,.int .i64 I,.int .i64 J]⟩,.bool true]⟩) z)
 (mY a 0 0 0 0 0 0 0 0 0 b fun L=>
 rG a L fun M N O Q S T U V X=>
 R (.tuple ⟨[.agg ⟨[.int .i64 M,.int .i64 N,.int .i64 O,.int .i64 Q,.int .i64 S,.int .i64 T,.int .i64 U,.int .i64 V,.int .i64 X]⟩,.bool false]⟩) L)))
theorem aho {aZ:Int} {w:World} {R:Value→World→Prop} (h:Re aZ w R):Ok Pr Q7 [.int .i64 aZ] w R:=
 aL (m:=⟨true,true⟩) (J:=[]) (L:=[]) aJ Tryz.func171 (by kernel_rfl) ((by kernel_rfl:aK Pr _ _ _ Tryz.f171 _ w R=Re aZ w R).mpr h)
def P0 (a:Int) (b:Int) (w:World) (R:Value→World→Prop):Prop:=
 (aF (a+b)∧
 ay Pr LY [.int .u64 (IntKind.wrap .u64 (a+b))] w fun c d=>
 aY .i64 c fun e=>
 R (.int .i64 e) d)
theorem af5 {a:Int} {b:Int} {w:World} {R:Value→World→Prop} (h:P0 a b w R):Ok Pr HK [.int .i64 a,.int .i64 b] w R:=
 aL (m:=⟨true,true⟩) (J:=[]) (L:=[]) aJ Tryz.func172 (by kernel_rfl) ((by kernel_rfl:aK Pr _ _ _ Tryz.f172 _ w R=P0 a b w R).mpr h)
end Go.Proofs.YtgjoehgomjgckaaGreatDoor
end
