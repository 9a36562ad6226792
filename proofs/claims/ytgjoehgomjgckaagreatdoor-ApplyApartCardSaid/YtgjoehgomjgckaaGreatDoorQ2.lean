/- Texts of this claim, packed and shortened. -/
import Derived.KernelRfl
import Derived.Test.YtgjoehgomjgckaaGreatDoorRows
import Derived.Test.YtgjoehgomjgckaaGreatDoorCards
import Derived.Test.YtgjoehgomjgckaaGreatDoorTie
import Derived.LaidLaws
import Derived.LaidHandle
import Derived.JoinedCond
import Derived.ChangeSlices
import Derived.Deep.Matrix
import Derived.Deep.AppendSrc
import Derived.Lib.AppendZerosOnto
import Derived.Laws.IdiomStrings
import Derived.Laws.BytesString
import Derived.Test.YtgjoehgomjgckaaGreatDoorQ1
import Derived.Test.YtgjoehgomjgckaaGreatDoorAErrCode
section
set_option linter.unusedVariables false
set_option linter.unusedSimpArgs false
namespace Go.Proofs.YtgjoehgomjgckaaGreatDoor
open Go Go.Ev
set_option maxRecDepth 100000
set_option linter.unusedVariables false
theorem ah1:(Pr.funcs.all fun fn=>fn.name != "runtime.NumGoroutine")=true:=by kernel_rfl
theorem ah2:Pr.follows .mixedOrders=true:=by kernel_rfl
theorem aJ:Go.Ev.Good Pr where
 names:=fun f fn h e=>by
  have:=Array.all_eq_true_iff_forall_mem.1 ah1 fn (Array.mem_of_getElem? h)
  simp [e] at this
 mixed:=ah2
abbrev S_a:ByteArray:=⟨#[97]⟩
abbrev oM:ByteArray:=⟨#[114]⟩
abbrev akO:ByteArray:=⟨#[97,112,112,108,121]⟩
abbrev QX:ByteArray:=⟨#[110,111,110,99,101,115]⟩
abbrev aiK:ByteArray:=⟨#[116,101,110,97,110,116,115]⟩
abbrev alJ:ByteArray:=⟨#[107,101,121,115]⟩
abbrev ajB:ByteArray:=⟨#[103,114,97,110,116,115]⟩
abbrev anc:ByteArray:=⟨#[107,101,109]⟩
abbrev ane:ByteArray:=⟨#[112,107,101]⟩
abbrev sW:ByteArray:=⟨#[0,1,2,2,3,3,3,3,4,4,4,4,4,4,4,4,5,5,5,5,5,5,5,5,5,5,5,5,5,5,5,5,6,6,6,6,6,6,6,6,6,6,6,6,6,6,6,6,6,6,6,6,6,6,6,6,6,6,6,6,6,6,6,6,7,7,7,7,7,7,7,7,7,7,7,7,7,7,7,7,7,7,7,7,7,7,7,7,7,7,7,7,7,7,7,7,7,7,7,7,7,7,7,7,7,7,7,7,7,7,7,7,7,7,7,7,7,7,7,7,7,7,7,7,7,7,7,7,8,8,8,8,8,8,8,8,8,8,8,8,8,8,8,8,8,8,8,8,8,8,8,8,8,8,8,8,8,8,8,8,8,8,8,8,8,8,8,8,8,8,8,8,8,8,8,8,8,8,8,8,8,8,8,8,8,8,8,8,8,8,8,8,8,8,8,8,8,8,8,8,8,8,8,8,8,8,8,8,8,8,8,8,8,8,8,8,8,8,8,8,8,8,8,8,8,8,8,8,8,8,8,8,8,8,8,8,8,8,8,8,8,8,8,8,8,8,8,8,8,8,8,8,8,8,8,8]⟩
abbrev alK:ByteArray:=⟨#[100,114,97,119]⟩
def jz (a:Addr) (w:World) (K:Int→Int→Int→Int→Int→Int→Int→Int→Int→Int→Int→ByteArray→ah→ah→Prop):Prop:=
 an .i64 (Addr.add a 0) w fun c0=>
 an .i64 (Addr.add a 1) w fun c1=>
 an .i64 (Addr.add a 2) w fun c2=>
 an .i64 (Addr.add a 3) w fun c3=>
 an .i64 (Addr.add a 4) w fun c4=>
 an .i64 (Addr.add a 5) w fun c5=>
 an .i64 (Addr.add a 6) w fun c6=>
 an .i64 (Addr.add a 7) w fun c7=>
 an .i64 (Addr.add a 8) w fun c8=>
 an .i64 (Addr.add a 9) w fun c9=>
 an .i64 (Addr.add a 10) w fun jS=>
 fS (Addr.add a 11) w fun jT=>
 ax (Addr.add a 12) w fun gx=>
 ax (Addr.add a 13) w fun gy=>
 K c0 c1 c2 c3 c4 c5 c6 c7 c8 c9 jS jT gx gy
def HZ (a:Addr) (c0:Int) (c1:Int) (c2:Int) (c3:Int) (c4:Int) (c5:Int) (c6:Int) (c7:Int) (c8:Int) (c9:Int) (jS:Int) (jT:ByteArray) (gx:ah) (gy:ah) (w:World) (K:World→Prop):Prop:=
 st (Addr.add a 0) (.int .i64 c0) w fun w=>
 st (Addr.add a 1) (.int .i64 c1) w fun w=>
 st (Addr.add a 2) (.int .i64 c2) w fun w=>
 st (Addr.add a 3) (.int .i64 c3) w fun w=>
 st (Addr.add a 4) (.int .i64 c4) w fun w=>
 st (Addr.add a 5) (.int .i64 c5) w fun w=>
 st (Addr.add a 6) (.int .i64 c6) w fun w=>
 st (Addr.add a 7) (.int .i64 c7) w fun w=>
 st (Addr.add a 8) (.int .i64 c8) w fun w=>
 st (Addr.add a 9) (.int .i64 c9) w fun w=>
 st (Addr.add a 10) (.int .i64 jS) w fun w=>
 st (Addr.add a 11) (.string jT) w fun w=>
 st (Addr.add a 12) (.slice gx.a gx.n gx.c) w fun w=>
 st (Addr.add a 13) (.slice gy.a gy.n gy.c) w fun w=>
 K w
def NL (a:Addr) (w:World) (K:Int→Int→Int→Int→Int→Int→Int→Int→Int→Int→Int→ByteArray→ah→ah→ah→Bool→Prop):Prop:=
 an .i64 (Addr.add a 0) w fun c0=>
 an .i64 (Addr.add a 1) w fun c1=>
 an .i64 (Addr.add a 2) w fun c2=>
 an .i64 (Addr.add a 3) w fun c3=>
 an .i64 (Addr.add a 4) w fun c4=>
 an .i64 (Addr.add a 5) w fun c5=>
 an .i64 (Addr.add a 6) w fun c6=>
 an .i64 (Addr.add a 7) w fun c7=>
 an .i64 (Addr.add a 8) w fun c8=>
 an .i64 (Addr.add a 9) w fun c9=>
 an .i64 (Addr.add a 10) w fun jS=>
 fS (Addr.add a 11) w fun jT=>
 ax (Addr.add a 12) w fun gx=>
 ax (Addr.add a 13) w fun gy=>
 ax (Addr.add a 14) w fun vQ=>
 lZ (Addr.add a 15) w fun CE=>
 K c0 c1 c2 c3 c4 c5 c6 c7 c8 c9 jS jT gx gy vQ CE
def bT (a:Addr) (w:World) (K:Int→ah→ah→ah→ah→ah→Prop):Prop:=
 an .i64 (Addr.add a 0) w fun c0=>
 ax (Addr.add a 1) w fun c1=>
 ax (Addr.add a 2) w fun c2=>
 ax (Addr.add a 3) w fun c3=>
 ax (Addr.add a 4) w fun c4=>
 ax (Addr.add a 5) w fun c5=>
 K c0 c1 c2 c3 c4 c5
def bM (a:Addr) (c0:Int) (c1:ah) (c2:ah) (c3:ah) (c4:ah) (c5:ah) (w:World) (K:World→Prop):Prop:=
 st (Addr.add a 0) (.int .i64 c0) w fun w=>
 st (Addr.add a 1) (.slice c1.a c1.n c1.c) w fun w=>
 st (Addr.add a 2) (.slice c2.a c2.n c2.c) w fun w=>
 st (Addr.add a 3) (.slice c3.a c3.n c3.c) w fun w=>
 st (Addr.add a 4) (.slice c4.a c4.n c4.c) w fun w=>
 st (Addr.add a 5) (.slice c5.a c5.n c5.c) w fun w=>
 K w
def dK (v:Value) (K:Int→ah→ah→ah→ah→ah→Prop):Prop:=
 jY v fun r=>
 aD r fun v0 r=>
 bk .i64 v0 fun c0=>
 aD r fun v1 r=>
 aT v1 fun c1=>
 aD r fun v2 r=>
 aT v2 fun c2=>
 aD r fun v3 r=>
 aT v3 fun c3=>
 aD r fun v4 r=>
 aT v4 fun c4=>
 aD r fun v5 r=>
 aT v5 fun c5=>
 (r=[]∧K c0 c1 c2 c3 c4 c5)
def cF (a:Addr) (w:World) (K:Int→Int→ah→ah→Prop):Prop:=
 an .i64 (Addr.add a 0) w fun c0=>
 an .i64 (Addr.add a 1) w fun c1=>
 ax (Addr.add a 2) w fun c2=>
 ax (Addr.add a 3) w fun c3=>
 K c0 c1 c2 c3
def bH (a:Addr) (c0:Int) (c1:Int) (c2:ah) (c3:ah) (w:World) (K:World→Prop):Prop:=
 st (Addr.add a 0) (.int .i64 c0) w fun w=>
 st (Addr.add a 1) (.int .i64 c1) w fun w=>
 st (Addr.add a 2) (.slice c2.a c2.n c2.c) w fun w=>
 st (Addr.add a 3) (.slice c3.a c3.n c3.c) w fun w=>
 K w
def fG (v:Value) (K:Int→Int→ah→ah→Prop):Prop:=
 jY v fun r=>
 aD r fun v0 r=>
 bk .i64 v0 fun c0=>
 aD r fun v1 r=>
 bk .i64 v1 fun c1=>
 aD r fun v2 r=>
 aT v2 fun c2=>
 aD r fun v3 r=>
 aT v3 fun c3=>
 (r=[]∧K c0 c1 c2 c3)
def bz (a:Addr) (w:World) (K:Int→Int→Int→ah→Prop):Prop:=
 an .i64 (Addr.add a 0) w fun c0=>
 an .i64 (Addr.add a 1) w fun c1=>
 an .i64 (Addr.add a 2) w fun c2=>
 ax (Addr.add a 3) w fun c3=>
 K c0 c1 c2 c3
def cA (a:Addr) (c0:Int) (c1:Int) (c2:Int) (c3:ah) (w:World) (K:World→Prop):Prop:=
 st (Addr.add a 0) (.int .i64 c0) w fun w=>
 st (Addr.add a 1) (.int .i64 c1) w fun w=>
 st (Addr.add a 2) (.int .i64 c2) w fun w=>
 st (Addr.add a 3) (.slice c3.a c3.n c3.c) w fun w=>
 K w
def q9 (v:Value) (K:Int→Int→Int→ah→Prop):Prop:=
 jY v fun r=>
 aD r fun v0 r=>
 bk .i64 v0 fun c0=>
 aD r fun v1 r=>
 bk .i64 v1 fun c1=>
 aD r fun v2 r=>
 bk .i64 v2 fun c2=>
 aD r fun v3 r=>
 aT v3 fun c3=>
 (r=[]∧K c0 c1 c2 c3)
def jx (a:Addr) (w:World) (K:Int→Int→Int→ah→Prop):Prop:=
 an .i64 (Addr.add a 0) w fun c0=>
 an .i64 (Addr.add a 1) w fun c1=>
 an .i64 (Addr.add a 2) w fun c2=>
 ax (Addr.add a 3) w fun c3=>
 K c0 c1 c2 c3
def gu (a:Addr) (c0:Int) (c1:Int) (c2:Int) (c3:ah) (w:World) (K:World→Prop):Prop:=
 st (Addr.add a 0) (.int .i64 c0) w fun w=>
 st (Addr.add a 1) (.int .i64 c1) w fun w=>
 st (Addr.add a 2) (.int .i64 c2) w fun w=>
 st (Addr.add a 3) (.slice c3.a c3.n c3.c) w fun w=>
 K w
def uF (v:Value) (K:Int→Int→Int→ah→Prop):Prop:=
 jY v fun r=>
 aD r fun v0 r=>
 bk .i64 v0 fun c0=>
 aD r fun v1 r=>
 bk .i64 v1 fun c1=>
 aD r fun v2 r=>
 bk .i64 v2 fun c2=>
 aD r fun v3 r=>
 aT v3 fun c3=>
 (r=[]∧K c0 c1 c2 c3)
def Ds (a:Addr) (w:World) (K:Int→Int→ah→Int→Int→Prop):Prop:=
 an .i64 (Addr.add a 0) w fun c0=>
 an .i64 (Addr.add a 1) w fun c1=>
 ax (Addr.add a 2) w fun c2=>
 an .i64 (Addr.add a 3) w fun c3=>
 an .u64 (Addr.add a 4) w fun c4=>
 K c0 c1 c2 c3 c4
def nY (a:Addr) (c0:Int) (c1:Int) (c2:ah) (c3:Int) (c4:Int) (w:World) (K:World→Prop):Prop:=
 st (Addr.add a 0) (.int .i64 c0) w fun w=>
 st (Addr.add a 1) (.int .i64 c1) w fun w=>
 st (Addr.add a 2) (.slice c2.a c2.n c2.c) w fun w=>
 st (Addr.add a 3) (.int .i64 c3) w fun w=>
 st (Addr.add a 4) (.int .u64 c4) w fun w=>
 K w
def iI (a:Addr) (w:World) (K:Int→Int→Int→Int→Int→Bool→Prop):Prop:=
 an .i64 (Addr.add a 0) w fun c0=>
 an .i64 (Addr.add a 1) w fun c1=>
 an .i64 (Addr.add a 2) w fun c2=>
 an .i64 (Addr.add a 3) w fun c3=>
 an .i64 (Addr.add a 4) w fun c4=>
 lZ (Addr.add a 5) w fun c5=>
 K c0 c1 c2 c3 c4 c5
def oh (a:Addr) (c0:Int) (c1:Int) (c2:Int) (c3:Int) (c4:Int) (c5:Bool) (w:World) (K:World→Prop):Prop:=
 st (Addr.add a 0) (.int .i64 c0) w fun w=>
 st (Addr.add a 1) (.int .i64 c1) w fun w=>
 st (Addr.add a 2) (.int .i64 c2) w fun w=>
 st (Addr.add a 3) (.int .i64 c3) w fun w=>
 st (Addr.add a 4) (.int .i64 c4) w fun w=>
 st (Addr.add a 5) (.bool c5) w fun w=>
 K w
def NM (v:Value) (K:Int→Int→Int→Int→Int→Bool→Prop):Prop:=
 jY v fun r=>
 aD r fun v0 r=>
 bk .i64 v0 fun c0=>
 aD r fun v1 r=>
 bk .i64 v1 fun c1=>
 aD r fun v2 r=>
 bk .i64 v2 fun c2=>
 aD r fun v3 r=>
 bk .i64 v3 fun c3=>
 aD r fun v4 r=>
 bk .i64 v4 fun c4=>
 aD r fun v5 r=>
 aW v5 fun c5=>
 (r=[]∧K c0 c1 c2 c3 c4 c5)
def AS (a:Addr) (w:World) (K:Int→Int→ByteArray→Prop):Prop:=
 an .i64 (Addr.add a 0) w fun c0=>
 an .i64 (Addr.add a 1) w fun c1=>
 fS (Addr.add a 2) w fun c2=>
 K c0 c1 c2
def AU (a:Addr) (c0:Int) (c1:Int) (c2:ByteArray) (w:World) (K:World→Prop):Prop:=
 st (Addr.add a 0) (.int .i64 c0) w fun w=>
 st (Addr.add a 1) (.int .i64 c1) w fun w=>
 st (Addr.add a 2) (.string c2) w fun w=>
 K w
def oV (a:Addr) (w:World) (K:Int→Int→Int→Int→Int→Int→Int→Int→Int→Prop):Prop:=
 an .i64 (Addr.add a 0) w fun c0=>
 an .i64 (Addr.add a 1) w fun c1=>
 an .i64 (Addr.add a 2) w fun c2=>
 an .i64 (Addr.add a 3) w fun c3=>
 an .i64 (Addr.add a 4) w fun c4=>
 an .i64 (Addr.add a 5) w fun c5=>
 an .i64 (Addr.add a 6) w fun c6=>
 an .i64 (Addr.add a 7) w fun c7=>
 an .i64 (Addr.add a 8) w fun c8=>
 K c0 c1 c2 c3 c4 c5 c6 c7 c8
def qp (a:Addr) (c0:Int) (c1:Int) (c2:Int) (c3:Int) (c4:Int) (c5:Int) (c6:Int) (c7:Int) (c8:Int) (w:World) (K:World→Prop):Prop:=
 st (Addr.add a 0) (.int .i64 c0) w fun w=>
 st (Addr.add a 1) (.int .i64 c1) w fun w=>
 st (Addr.add a 2) (.int .i64 c2) w fun w=>
 st (Addr.add a 3) (.int .i64 c3) w fun w=>
 st (Addr.add a 4) (.int .i64 c4) w fun w=>
 st (Addr.add a 5) (.int .i64 c5) w fun w=>
 st (Addr.add a 6) (.int .i64 c6) w fun w=>
 st (Addr.add a 7) (.int .i64 c7) w fun w=>
 st (Addr.add a 8) (.int .i64 c8) w fun w=>
 K w
def NN (v:Value) (K:Int→Int→Int→Int→Int→Int→Int→Int→Int→Prop):Prop:=
 jY v fun r=>
 aD r fun v0 r=>
 bk .i64 v0 fun c0=>
 aD r fun v1 r=>
 bk .i64 v1 fun c1=>
 aD r fun v2 r=>
 bk .i64 v2 fun c2=>
 aD r fun v3 r=>
 bk .i64 v3 fun c3=>
 aD r fun v4 r=>
 bk .i64 v4 fun c4=>
 aD r fun v5 r=>
 bk .i64 v5 fun c5=>
 aD r fun v6 r=>
 bk .i64 v6 fun c6=>
 aD r fun v7 r=>
 bk .i64 v7 fun c7=>
 aD r fun v8 r=>
 bk .i64 v8 fun c8=>
 (r=[]∧K c0 c1 c2 c3 c4 c5 c6 c7 c8)
def rj (a:Addr) (w:World) (K:Int→Int→Int→Int→Int→Int→Int→Int→Int→Prop):Prop:=
 an .i64 (Addr.add a 0) w fun c0=>
 an .i64 (Addr.add a 1) w fun c1=>
 an .i64 (Addr.add a 2) w fun c2=>
 an .i64 (Addr.add a 3) w fun c3=>
 an .i64 (Addr.add a 4) w fun c4=>
 an .i64 (Addr.add a 5) w fun c5=>
 an .i64 (Addr.add a 6) w fun c6=>
 an .i64 (Addr.add a 7) w fun c7=>
 an .i64 (Addr.add a 8) w fun c8=>
 K c0 c1 c2 c3 c4 c5 c6 c7 c8
def mO (a:Addr) (c0:Int) (c1:Int) (c2:Int) (c3:Int) (c4:Int) (c5:Int) (c6:Int) (c7:Int) (c8:Int) (w:World) (K:World→Prop):Prop:=
 st (Addr.add a 0) (.int .i64 c0) w fun w=>
 st (Addr.add a 1) (.int .i64 c1) w fun w=>
 st (Addr.add a 2) (.int .i64 c2) w fun w=>
 st (Addr.add a 3) (.int .i64 c3) w fun w=>
 st (Addr.add a 4) (.int .i64 c4) w fun w=>
 st (Addr.add a 5) (.int .i64 c5) w fun w=>
 st (Addr.add a 6) (.int .i64 c6) w fun w=>
 st (Addr.add a 7) (.int .i64 c7) w fun w=>
 st (Addr.add a 8) (.int .i64 c8) w fun w=>
 K w
def We (v:Value) (K:Int→Int→Int→Int→Int→Int→Int→Int→Int→Prop):Prop:=
 jY v fun r=>
 aD r fun v0 r=>
 bk .i64 v0 fun c0=>
 aD r fun v1 r=>
 bk .i64 v1 fun c1=>
 aD r fun v2 r=>
 bk .i64 v2 fun c2=>
 aD r fun v3 r=>
 bk .i64 v3 fun c3=>
 aD r fun v4 r=>
 bk .i64 v4 fun c4=>
 aD r fun v5 r=>
 bk .i64 v5 fun c5=>
 aD r fun v6 r=>
 bk .i64 v6 fun c6=>
 aD r fun v7 r=>
 bk .i64 v7 fun c7=>
 aD r fun v8 r=>
 bk .i64 v8 fun c8=>
 (r=[]∧K c0 c1 c2 c3 c4 c5 c6 c7 c8)
def DO (a:Addr) (w:World) (K:ah→ah→ah→ah→Prop):Prop:=
 ax (Addr.add a 0) w fun c0=>
 ax (Addr.add a 1) w fun c1=>
 ax (Addr.add a 2) w fun c2=>
 ax (Addr.add a 3) w fun c3=>
 K c0 c1 c2 c3
def wN (a:Addr) (c0:ah) (c1:ah) (c2:ah) (c3:ah) (w:World) (K:World→Prop):Prop:=
 st (Addr.add a 0) (.slice c0.a c0.n c0.c) w fun w=>
 st (Addr.add a 1) (.slice c1.a c1.n c1.c) w fun w=>
 st (Addr.add a 2) (.slice c2.a c2.n c2.c) w fun w=>
 st (Addr.add a 3) (.slice c3.a c3.n c3.c) w fun w=>
 K w
def PK (v:Value) (K:ah→ah→ah→ah→Prop):Prop:=
 jY v fun r=>
 aD r fun v0 r=>
 aT v0 fun c0=>
 aD r fun v1 r=>
 aT v1 fun c1=>
 aD r fun v2 r=>
 aT v2 fun c2=>
 aD r fun v3 r=>
 aT v3 fun c3=>
 (r=[]∧K c0 c1 c2 c3)
def mP (a:Addr) (w:World) (K:Int→Int→Int→Int→Int→Prop):Prop:=
 an .i64 (Addr.add a 0) w fun c0=>
 an .i64 (Addr.add a 1) w fun c1=>
 an .i64 (Addr.add a 2) w fun c2=>
 an .i64 (Addr.add a 3) w fun c3=>
 an .i64 (Addr.add a 4) w fun c4=>
 K c0 c1 c2 c3 c4
def jh (a:Addr) (c0:Int) (c1:Int) (c2:Int) (c3:Int) (c4:Int) (w:World) (K:World→Prop):Prop:=
 st (Addr.add a 0) (.int .i64 c0) w fun w=>
 st (Addr.add a 1) (.int .i64 c1) w fun w=>
 st (Addr.add a 2) (.int .i64 c2) w fun w=>
 st (Addr.add a 3) (.int .i64 c3) w fun w=>
 st (Addr.add a 4) (.int .i64 c4) w fun w=>
 K w
def uJ (v:Value) (K:Int→Int→Int→Int→Int→Prop):Prop:=
 jY v fun r=>
 aD r fun v0 r=>
 bk .i64 v0 fun c0=>
 aD r fun v1 r=>
 bk .i64 v1 fun c1=>
 aD r fun v2 r=>
 bk .i64 v2 fun c2=>
 aD r fun v3 r=>
 bk .i64 v3 fun c3=>
 aD r fun v4 r=>
 bk .i64 v4 fun c4=>
 (r=[]∧K c0 c1 c2 c3 c4)
def Ih (e:Value) (w:World) (R:Value→World→Prop):Prop:=
 fB e fun a=>
 aA a
 (R (.int .i64 0) w)
 (nw jy (zc Pr jy) w fun b c=>
 jL []
 (fun d=>l5 b d fun f=>
 bA f fun g=>
 an .i64 (Addr.add g 0) d fun i=>
 R (.int .i64 i) d)
 (fun j=>
 az Pr HC [e,.iface UO (.pointer (some b))] (World.drew c) fun k l=>
 aW k fun m=>
 l5 b l fun n=>
 l5 b l fun o=>
 aA ((!m) || (Option.isNone (α:=Addr) n))
 (l5 b l fun p=>
 l5 b l fun q=>
 (kept b 1 l l∧
 R (.int .i64 (-1:Int)) l))
 (bA o fun s=>
 an .i64 (Addr.add s 0) l fun t=>
 l5 b l fun u=>
 aA (decide (t=0))
 (l5 b l fun v=>
 (kept b 1 l l∧
 R (.int .i64 (-1:Int)) l))
 (bA u fun x=>
 an .i64 (Addr.add x 0) l fun y=>
 az Pr A9 [e,.iface qq (.int .i64 y)] l fun z A=>
 aW z fun B=>
 l5 b A fun C=>
 aA (!B)
 ((kept b 1 A A∧
 R (.int .i64 (-1:Int)) A))
 (bA C fun D=>
 an .i64 (Addr.add D 0) A fun E=>
 az Pr DM [e] A fun F G=>
 bk .i64 F fun I=>
 (kept (Addr.add D 0) 1 A G∧
 (kept b 1 A G∧
 aA (!decide (I=E))
 (R (.int .i64 (-1:Int)) G)
 (j G))))))))
theorem Vo {e:Value} {w:World} {R:Value→World→Prop} (h:Ih e w R):Ok Pr DL [e] w R:=
 aL (m:=⟨true,true⟩) (J:=[(6,[])]) (L:=[]) aJ Tryz.func14 (by kernel_rfl) ((by kernel_rfl:aK Pr _ _ _ Tryz.f14 _ w R=Ih e w R).mpr h)
def LF (a:ah) (b:ah) (w:World) (R:Value→World→Prop):Prop:=
 aA (!decide ((a.n:Int)=(b.n:Int)))
 (R (.bool false) w)
 (cY (fun (c:Int)=>[(5,some (.int .i64 c))])
 (fun d c e=>aA (decide (c<(a.n:Int)))
 (aU a.a c a.n
 (an .u8 (Addr.add (base a.a) (Int.toNat c * 1)) (World.drew e) fun f=>
 aU b.a c b.n
 (an .u8 (Addr.add (base b.a) (Int.toNat c * 1)) (World.drew e) fun g=>
 aA (!decide (f=g))
 (R (.bool false) (World.drew e))
 ((aF (c+1)∧
 d (c+1) (World.drew e))))))
 (R (.bool true) e))
 0 w)
theorem acN {a:ah} {b:ah} {w:World} {R:Value→World→Prop} (h:LF a b w R):Ok Pr C8 [.slice a.a a.n a.c,.slice b.a b.n b.c] w R:=
 aL (m:=⟨true,true⟩) (J:=[]) (L:=[(4,[(5,.int .i64)])]) aJ Tryz.func18 (by kernel_rfl) ((by kernel_rfl:aK Pr _ _ _ Tryz.f18 _ w R=LF a b w R).mpr h)
def PL (e:Value) (w:World) (R:Value→World→Prop):Prop:=
 nw qq (zc Pr qq) w fun a b=>
 fB e fun c=>
 aA c
 (R (.int .i64 0) b)
 (az Pr HC [e,.iface Vn (.pointer (some a))] b fun d f=>
 aW d fun g=>
 aA g
 (an .i64 a f fun i=>
 R (.int .i64 i) f)
 (R (.int .i64 2) f))
theorem afM {e:Value} {w:World} {R:Value→World→Prop} (h:PL e w R):Ok Pr DM [e] w R:=
 aL (m:=⟨true,true⟩) (J:=[]) (L:=[]) aJ Tryz.func29 (by kernel_rfl) ((by kernel_rfl:aK Pr _ _ _ Tryz.f29 _ w R=PL e w R).mpr h)
def GN (s:ah) (w:World) (R:Value→World→Prop):Prop:=
 aA (Option.isNone (α:=Addr) s.a)
 (R (.slice none 0 0) w)
 (nw bh [] w fun a b=>
 cG Pr [bJ,bJ] bJ [.slice (some a) 0 0,.slice s.a s.n s.c] b fun c d=>
 R (.slice c.a c.n c.c) d)
theorem Ut {s:ah} {w:World} {R:Value→World→Prop} (h:GN s w R):Ok Pr sQ [.slice s.a s.n s.c] w R:=
 aL (m:=⟨true,true⟩) (J:=[]) (L:=[]) aJ Tryz.func75 (by kernel_rfl) ((by kernel_rfl:aK Pr _ _ _ Tryz.f75 _ w R=GN s w R).mpr h)
def KG (s:ah) (w:World) (R:Value→World→Prop):Prop:=
 aA (Option.isNone (α:=Addr) s.a)
 (R (.slice none 0 0) w)
 (nw dF [] w fun a b=>
 cG Pr [sU,sU] sU [.slice (some a) 0 0,.slice s.a s.n s.c] b fun c d=>
 R (.slice c.a c.n c.c) d)
theorem ab2 {s:ah} {w:World} {R:Value→World→Prop} (h:KG s w R):Ok Pr GI [.slice s.a s.n s.c] w R:=
 aL (m:=⟨true,true⟩) (J:=[]) (L:=[]) aJ Tryz.func76 (by kernel_rfl) ((by kernel_rfl:aK Pr _ _ _ Tryz.f76 _ w R=KG s w R).mpr h)
def KH (s:ah) (w:World) (R:Value→World→Prop):Prop:=
 aA (Option.isNone (α:=Addr) s.a)
 (R (.slice none 0 0) w)
 (nw dJ [] w fun a b=>
 cG Pr [sV,sV] sV [.slice (some a) 0 0,.slice s.a s.n s.c] b fun c d=>
 R (.slice c.a c.n c.c) d)
theorem ab3 {s:ah} {w:World} {R:Value→World→Prop} (h:KH s w R):Ok Pr KE [.slice s.a s.n s.c] w R:=
 aL (m:=⟨true,true⟩) (J:=[]) (L:=[]) aJ Tryz.func77 (by kernel_rfl) ((by kernel_rfl:aK Pr _ _ _ Tryz.f77 _ w R=KH s w R).mpr h)
def KK (s:ah) (w:World) (R:Value→World→Prop):Prop:=
 aA (Option.isNone (α:=Addr) s.a)
 (R (.slice none 0 0) w)
 (nw aV [] w fun a b=>
 cG Pr [sX,sX] sX [.slice (some a) 0 0,.slice s.a s.n s.c] b fun c d=>
 R (.slice c.a c.n c.c) d)
theorem ab5 {s:ah} {w:World} {R:Value→World→Prop} (h:KK s w R):Ok Pr KJ [.slice s.a s.n s.c] w R:=
 aL (m:=⟨true,true⟩) (J:=[]) (L:=[]) aJ Tryz.func78 (by kernel_rfl) ((by kernel_rfl:aK Pr _ _ _ Tryz.f78 _ w R=KK s w R).mpr h)
def KD (s:ah) (w:World) (R:Value→World→Prop):Prop:=
 aA (Option.isNone (α:=Addr) s.a)
 (R (.slice none 0 0) w)
 (nw cI [] w fun a b=>
 cG Pr [sS,sS] sS [.slice (some a) 0 0,.slice s.a s.n s.c] b fun c d=>
 R (.slice c.a c.n c.c) d)
theorem ab1 {s:ah} {w:World} {R:Value→World→Prop} (h:KD s w R):Ok Pr GF [.slice s.a s.n s.c] w R:=
 aL (m:=⟨true,true⟩) (J:=[]) (L:=[]) aJ Tryz.func80 (by kernel_rfl) ((by kernel_rfl:aK Pr _ _ _ Tryz.f80 _ w R=KD s w R).mpr h)
def GJ (s:ah) (f:Value) (w:World) (R:Value→World→Prop):Prop:=
 az Pr GK [.slice s.a s.n s.c,f] w fun a b=>
 bk .i64 a fun c=>
 R (.bool (decide (0≤c))) b
theorem Ur {s:ah} {f:Value} {w:World} {R:Value→World→Prop} (h:GJ s f w R):Ok Pr C2 [.slice s.a s.n s.c,f] w R:=
 aL (m:=⟨true,true⟩) (J:=[]) (L:=[]) aJ Tryz.func104 (by kernel_rfl) ((by kernel_rfl:aK Pr _ _ _ Tryz.f104 _ w R=GJ s f w R).mpr h)
def GL (s:ah) (f:Value) (w:World) (R:Value→World→Prop):Prop:=
 cY (fun (a:Int)=>[(8,some (.int .i64 a))])
 (fun b a c=>aA (decide (a<(s.n:Int)))
 (aU s.a a s.n
 (an .i64 (Addr.add (base s.a) (Int.toNat a * 1)) c fun d=>
 lN Pr f [.int .i64 d] c fun e g=>
 aW e fun i=>
 aA i
 (R (.int .i64 a) g)
 ((aF (a+1)∧
 b (a+1) g))))
 (R (.int .i64 (-1:Int)) c))
 0 w
theorem Us {s:ah} {f:Value} {w:World} {R:Value→World→Prop} (h:GL s f w R):Ok Pr GK [.slice s.a s.n s.c,f] w R:=
 aL (m:=⟨true,true⟩) (J:=[]) (L:=[(2,[(8,.int .i64)])]) aJ Tryz.func148 (by kernel_rfl) ((by kernel_rfl:aK Pr _ _ _ Tryz.f148 _ w R=GL s f w R).mpr h)
def KN (s:ah) (v:Int) (w:World) (R:Value→World→Prop):Prop:=
 az Pr KV [.slice s.a s.n s.c,.int .i64 v] w fun a b=>
 bk .i64 a fun c=>
 R (.bool (decide (0≤c))) b
theorem ab8 {s:ah} {v:Int} {w:World} {R:Value→World→Prop} (h:KN s v w R):Ok Pr Uu [.slice s.a s.n s.c,.int .i64 v] w R:=
 aL (m:=⟨true,true⟩) (J:=[]) (L:=[]) aJ Tryz.func149 (by kernel_rfl) ((by kernel_rfl:aK Pr _ _ _ Tryz.f149 _ w R=KN s v w R).mpr h)
def MT (a:ah) (b:ah) (w:World) (R:Value→World→Prop):Prop:=
 JB Pr a w fun c d=>
 JB Pr b d fun e f=>
 R (.bool (decide (c=e))) f
theorem adM {a:ah} {b:ah} {w:World} {R:Value→World→Prop} (h:MT a b w R):Ok Pr Dr [.slice a.a a.n a.c,.slice b.a b.n b.c] w R:=
 aL (m:=⟨true,true⟩) (J:=[]) (L:=[]) aJ Tryz.func153 (by kernel_rfl) ((by kernel_rfl:aK Pr _ _ _ Tryz.f153 _ w R=MT a b w R).mpr h)
def Ly (n:Int) (parts:ah) (w:World) (R:Value→World→Prop):Prop:=
 az Pr DG [.int .i64 136,.int .u8 31,.int .i64 n,.slice parts.a parts.n parts.c] w fun a b=>
 aT a fun c=>
 R (.slice c.a c.n c.c) b
theorem acG {n:Int} {parts:ah} {w:World} {R:Value→World→Prop} (h:Ly n parts w R):Ok Pr sR [.int .i64 n,.slice parts.a parts.n parts.c] w R:=
 aL (m:=⟨true,true⟩) (J:=[]) (L:=[]) aJ Tryz.func166 (by kernel_rfl) ((by kernel_rfl:aK Pr _ _ _ Tryz.f166 _ w R=Ly n parts w R).mpr h)
def Ky (s:ah) (f:Value) (w:World) (R:Value→World→Prop):Prop:=
 az Pr KB [.slice s.a s.n s.c,f] w fun a b=>
 bk .i64 a fun c=>
 R (.bool (decide (0≤c))) b
theorem abY {s:ah} {f:Value} {w:World} {R:Value→World→Prop} (h:Ky s f w R):Ok Pr Kx [.slice s.a s.n s.c,f] w R:=
 aL (m:=⟨true,true⟩) (J:=[]) (L:=[]) aJ Tryz.func169 (by kernel_rfl) ((by kernel_rfl:aK Pr _ _ _ Tryz.f169 _ w R=Ky s f w R).mpr h)
def KW (s:ah) (v:Int) (w:World) (R:Value→World→Prop):Prop:=
 cY (fun (a:Int)=>[(8,some (.int .i64 a))])
 (fun b a c=>aA (decide (a<(s.n:Int)))
 (aU s.a a s.n
 (an .i64 (Addr.add (base s.a) (Int.toNat a * 1)) c fun d=>
 aA (decide (v=d))
 (R (.int .i64 a) c)
 ((aF (a+1)∧
 b (a+1) c))))
 (R (.int .i64 (-1:Int)) c))
 0 w
theorem ack {s:ah} {v:Int} {w:World} {R:Value→World→Prop} (h:KW s v w R):Ok Pr KV [.slice s.a s.n s.c,.int .i64 v] w R:=
 aL (m:=⟨true,true⟩) (J:=[]) (L:=[(2,[(8,.int .i64)])]) aJ Tryz.func180 (by kernel_rfl) ((by kernel_rfl:aK Pr _ _ _ Tryz.f180 _ w R=KW s v w R).mpr h)
def LX (parts:ah) (w:World) (R:Value→World→Prop):Prop:=
 az Pr DG [.int .i64 72,.int .u8 6,.int .i64 64,.slice parts.a parts.n parts.c] w fun a b=>
 aT a fun c=>
 R (.slice c.a c.n c.c) b
theorem ada {parts:ah} {w:World} {R:Value→World→Prop} (h:LX parts w R):Ok Pr Dh [.slice parts.a parts.n parts.c] w R:=
 aL (m:=⟨true,true⟩) (J:=[]) (L:=[]) aJ Tryz.func188 (by kernel_rfl) ((by kernel_rfl:aK Pr _ _ _ Tryz.f188 _ w R=LX parts w R).mpr h)
def LY (parts:ah) (w:World) (R:Value→World→Prop):Prop:=
 az Pr DG [.int .i64 136,.int .u8 6,.int .i64 32,.slice parts.a parts.n parts.c] w fun a b=>
 aT a fun c=>
 R (.slice c.a c.n c.c) b
theorem adb {parts:ah} {w:World} {R:Value→World→Prop} (h:LY parts w R):Ok Pr Dj [.slice parts.a parts.n parts.c] w R:=
 aL (m:=⟨true,true⟩) (J:=[]) (L:=[]) aJ Tryz.func190 (by kernel_rfl) ((by kernel_rfl:aK Pr _ _ _ Tryz.f190 _ w R=LY parts w R).mpr h)
def OQ (ay:Int) (suffix:Int) (n:Int) (parts:ah) (w:World) (R:Value→World→Prop):Prop:=
 az Pr Hv [.int .i64 ay,.int .u8 suffix] w fun a b=>
 Cz a fun c=>
 az Pr C5 [.pointer c,.slice parts.a parts.n parts.c] b fun d e=>
 az Pr C6 [.pointer c,.int .i64 n] e fun f g=>
 aT f fun i=>
 R (.slice i.a i.n i.c) g
theorem ae1 {ay:Int} {suffix:Int} {n:Int} {parts:ah} {w:World} {R:Value→World→Prop} (h:OQ ay suffix n parts w R):Ok Pr DG [.int .i64 ay,.int .u8 suffix,.int .i64 n,.slice parts.a parts.n parts.c] w R:=
 aL (m:=⟨true,true⟩) (J:=[]) (L:=[]) aJ Tryz.func191 (by kernel_rfl) ((by kernel_rfl:aK Pr _ _ _ Tryz.f191 _ w R=OQ ay suffix n parts w R).mpr h)
def KC (s:ah) (f:Value) (w:World) (R:Value→World→Prop):Prop:=
 cY (fun (a:Int)=>[(8,some (.int .i64 a))])
 (fun b a c=>aA (decide (a<(s.n:Int)))
 (aU s.a a s.n
 (AS (Addr.add (base s.a) (Int.toNat a * 3)) c fun d e g=>
 lN Pr f [.agg ⟨[.int .i64 d,.int .i64 e,.string g]⟩] c fun i j=>
 aW i fun k=>
 aA k
 (R (.int .i64 a) j)
 ((aF (a+1)∧
 b (a+1) j))))
 (R (.int .i64 (-1:Int)) c))
 0 w
theorem ab0 {s:ah} {f:Value} {w:World} {R:Value→World→Prop} (h:KC s f w R):Ok Pr KB [.slice s.a s.n s.c,f] w R:=
 aL (m:=⟨true,true⟩) (J:=[]) (L:=[(2,[(8,.int .i64)])]) aJ Tryz.func192 (by kernel_rfl) ((by kernel_rfl:aK Pr _ _ _ Tryz.f192 _ w R=KC s f w R).mpr h)
def LZ (x:Int) (w:World) (R:Value→World→Prop):Prop:=
 az Pr UE [.int .u64 x] w fun a b=>
 bk .i64 a fun c=>
 R (.int .i64 c) b
theorem ade {x:Int} {w:World} {R:Value→World→Prop} (h:LZ x w R):Ok Pr LV [.int .u64 x] w R:=
 aL (m:=⟨true,true⟩) (J:=[]) (L:=[]) aJ Tryz.func193 (by kernel_rfl) ((by kernel_rfl:aK Pr _ _ _ Tryz.f193 _ w R=LZ x w R).mpr h)
def KO (oq:ah) (w:World) (R:Value→World→Prop):Prop:=
 iy (fun (a:Int) (b:Int)=>[(3,some (.int .i64 a)),(11,some (.int .i64 b))])
 (fun c a b d=>aA (decide (b<(oq.n:Int)))
 (aU oq.a b oq.n
 (ax (Addr.add (base oq.a) (Int.toNat b * 1)) d fun e=>
 (aF (a+(e.n:Int))∧
 aA (decide (a+(e.n:Int)<0))
 (False)
 ((aF (b+1)∧
 c (a+(e.n:Int)) (b+1) d)))))
 (az Pr KS [.slice none 0 0,.int .i64 a] d fun f g=>
 aT f fun i=>
 iy (fun (j:ah) (k:Int)=>[(6,some (.slice j.a j.n j.c)),(27,some (.int .i64 k))])
 (fun l j k m=>aA (decide (k<(oq.n:Int)))
 (aU oq.a k oq.n
 (ax (Addr.add (base oq.a) (Int.toNat k * 1)) m fun n=>
 cG Pr [bJ,bJ] bJ [.slice j.a j.n j.c,.slice n.a n.n n.c] m fun o p=>
 (aF (k+1)∧
 l o (k+1) p)))
 (R (.slice j.a j.n j.c) m))
 i 0 g))
 0 0 w
theorem ab9 {oq:ah} {w:World} {R:Value→World→Prop} (h:KO oq w R):Ok Pr KM [.slice oq.a oq.n oq.c] w R:=
 aL (m:=⟨true,true⟩) (J:=[]) (L:=[(3,[(3,.int .i64),(11,.int .i64)]),(11,[(6,.sl),(27,.int .i64)])]) aJ Tryz.func206 (by kernel_rfl) ((by kernel_rfl:aK Pr _ _ _ Tryz.f206 _ w R=KO oq w R).mpr h)
def NO (ay:Int) (suffix:Int) (w:World) (R:Value→World→Prop):Prop:=
 aA (((((decide (ay<8)) || (decide (192<ay))) || (!decide (Int.tmod ay 8=0))) || (decide (suffix<1))) || (decide (127<suffix)))
 (R (.pointer none) w)
 (nw LW [.int .u64 0,.int .u64 0,.int .u64 0,.int .u64 0,.int .u64 0,.int .u64 0,.int .u64 0,.int .u64 0,.int .u64 0,.int .u64 0,.int .u64 0,.int .u64 0,.int .u64 0,.int .u64 0,.int .u64 0,.int .u64 0,.int .u64 0,.int .u64 0,.int .u64 0,.int .u64 0,.int .u64 0,.int .u64 0,.int .u64 0,.int .u64 0,.int .u64 0,.int .i64 ay,.int .u8 suffix,.int .i64 0,.bool false] w fun a b=>
 R (.pointer (some a)) b)
theorem aep {ay:Int} {suffix:Int} {w:World} {R:Value→World→Prop} (h:NO ay suffix w R):Ok Pr Hv [.int .i64 ay,.int .u8 suffix] w R:=
 aL (m:=⟨true,true⟩) (J:=[]) (L:=[]) aJ Tryz.func221 (by kernel_rfl) ((by kernel_rfl:aK Pr _ _ _ Tryz.f221 _ w R=NO ay suffix w R).mpr h)
def KZ (s:Option Addr) (parts:ah) (w:World) (R:Value→World→Prop):Prop:=
 aA (Option.isNone (α:=Addr) s)
 (az Pr UY [.int .i64 1] w fun a b=>
 R a b)
 (bA s fun c=>
 lZ (Addr.add c 28) w fun d=>
 aA d
 (az Pr UY [.int .i64 5] w fun e f=>
 R e f)
 (cY (fun (g:Int)=>[(21,some (.int .i64 g))])
 (fun i g j=>aA (decide (g<(parts.n:Int)))
 (aU parts.a g parts.n
 (ax (Addr.add (base parts.a) (Int.toNat g * 1)) j fun k=>
 cY (fun (l:Int)=>[(27,some (.int .i64 l))])
 (fun m l n=>aA (decide (l<(k.n:Int)))
 (aU k.a l k.n
 (an .u8 (Addr.add (base k.a) (Int.toNat l * 1)) n fun o=>
 bA s fun p=>
 an .i64 (Addr.add p 27) n fun q=>
 az Pr C7 [.pointer s,.int .i64 q,.int .u8 o] n fun t u=>
 bA s fun v=>
 an .i64 (Addr.add v 27) u fun x=>
 (aF (x+1)∧
 bA s fun y=>
 st (Addr.add y 27) (.int .i64 (x+1)) u fun z=>
 az Pr GQ [.pointer s] z fun A B=>
 (aF (l+1)∧
 m (l+1) B))))
 ((aF (g+1)∧
 i (g+1) n)))
 0 j))
 (R (.nilIface) j))
 0 w))
theorem acn {s:Option Addr} {parts:ah} {w:World} {R:Value→World→Prop} (h:KZ s parts w R):Ok Pr C5 [.pointer s,.slice parts.a parts.n parts.c] w R:=
 aL (m:=⟨true,true⟩) (J:=[]) (L:=[(6,[(21,.int .i64)]),(9,[(27,.int .i64)])]) aJ Tryz.func222 (by kernel_rfl) ((by kernel_rfl:aK Pr _ _ _ Tryz.f222 _ w R=KZ s parts w R).mpr h)
def GR (s:Option Addr) (n:Int) (w:World) (R:Value→World→Prop):Prop:=
 aA (((Option.isNone (α:=Addr) s) || (decide (n<1))) || (decide (1048576<n)))
 (R (.slice none 0 0) w)
 (jL []
 (fun a=>j3 Pr bh 0 n a fun b c=>
 iy (fun (d:ah) (e:Int)=>[(5,some (.slice d.a d.n d.c)),(51,some (.int .i64 e))])
 (fun f d e g=>aA (decide (e<n))
 (az Pr GQ [.pointer s] g fun i j=>
 bA s fun k=>
 an .i64 (Addr.add k 27) (World.drew j) fun l=>
 ((0≤l∧l≤IntKind.max .i64)∧
 bA s fun m=>
 idx (l / 8) 25
 (an .u64 (Addr.add (Addr.add m 0) (Int.toNat (l / 8) * 1)) (World.drew j) fun o=>
 bA s fun p=>
 an .i64 (Addr.add p 27) (World.drew j) fun q=>
 (0≤q∧
 (aF (8 * (q % 8))∧
 gU (8 * (q % 8)) (nw bh [.int .u8 (IntKind.wrap .u8 (shr .u64 o (8 * (q % 8))))] (World.drew j) fun t u=>
 cG Pr [bJ,bJ] bJ [.slice d.a d.n d.c,.slice (some t) 1 1] u fun v x=>
 bA s fun y=>
 an .i64 (Addr.add y 27) x fun z=>
 (aF (z+1)∧
 bA s fun A=>
 st (Addr.add A 27) (.int .i64 (z+1)) x fun B=>
 (aF (e+1)∧
 f v (e+1) B))))))))
 (R (.slice d.a d.n d.c) g))
 b 0 c)
 (fun C=>
 bA s fun D=>
 lZ (Addr.add D 28) w fun E=>
 aA (!E)
 (bA s fun F=>
 an .i64 (Addr.add F 27) (World.drew w) fun G=>
 bA s fun I=>
 an .u8 (Addr.add I 26) (World.drew w) fun J=>
 az Pr C7 [.pointer s,.int .i64 G,.int .u8 J] (World.drew w) fun L M=>
 bA s fun N=>
 an .i64 (Addr.add N 25) M fun O=>
 (aF (O - 1)∧
 az Pr C7 [.pointer s,.int .i64 (O - 1),.int .u8 128] M fun Q S=>
 bA s fun T=>
 an .i64 (Addr.add T 25) S fun U=>
 bA s fun V=>
 st (Addr.add V 28) (.bool true) S fun X=>
 bA s fun Y=>
 st (Addr.add Y 27) (.int .i64 U) X fun Z=>
 C Z))
 (C w)))
theorem Uv {s:Option Addr} {n:Int} {w:World} {R:Value→World→Prop} (h:GR s n w R):Ok Pr C6 [.pointer s,.int .i64 n] w R:=
 aL (m:=⟨true,true⟩) (J:=[(7,[])]) (L:=[(9,[(5,.sl),(51,.int .i64)])]) aJ Tryz.func223 (by kernel_rfl) ((by kernel_rfl:aK Pr _ _ _ Tryz.f223 _ w R=GR s n w R).mpr h)
def Lz (x:Int) (w:World) (R:Value→World→Prop):Prop:=
 tC (fun (a:Int) (b:Int)=>[(0,some (.int .u64 a)),(2,some (.int .i64 b))])
 (fun a b c=>tC (fun (d:Int) (e:Int)=>[(0,some (.int .u64 d)),(2,some (.int .i64 e))])
 (fun d e f=>tC (fun (g:Int) (i:Int)=>[(0,some (.int .u64 g)),(2,some (.int .i64 i))])
 (fun g i j=>idx (IntKind.wrap .u8 (g)) (ByteArray.size sW)
 ((aF (tS sW (IntKind.wrap .u8 (g)))∧
 (aF (i+(tS sW (IntKind.wrap .u8 (g))))∧
 lt (A:=Int) (i+(tS sW (IntKind.wrap .u8 (g)))) fun k=>
 R (.int .i64 k) j))))
 (fun l=>
 aA (decide (256≤d))
 ((aF (e+8)∧
 l (shr .u64 d 8) (e+8) f))
 (l d e f)))
 (fun m=>
 aA (decide (65536≤a))
 ((aF (b+16)∧
 m (shr .u64 a 16) (b+16) c))
 (m a b c)))
 (fun n=>
 aA (decide (4294967296≤x))
 (n (shr .u64 x 32) 32 w)
 (n x 0 w))
theorem acH {x:Int} {w:World} {R:Value→World→Prop} (h:Lz x w R):Ok Pr UE [.int .u64 x] w R:=
 aL (m:=⟨true,true⟩) (J:=[(4,[(0,.int .u64),(2,.int .i64)]),(7,[(0,.int .u64),(2,.int .i64)]),(10,[(0,.int .u64),(2,.int .i64)])]) (L:=[]) aJ Tryz.func225 (by kernel_rfl) ((by kernel_rfl:aK Pr _ _ _ Tryz.f225 _ w R=Lz x w R).mpr h)
def KU (s:ah) (n:Int) (w:World) (R:Value→World→Prop):Prop:=
 jL []
 (fun a=>(aF (((s.c:Nat):Int) - (s.n:Int))∧
 (aF (n - (((s.c:Nat):Int) - (s.n:Int)))∧
 lt (A:=Int) (n - (((s.c:Nat):Int) - (s.n:Int))) fun b=>
 aA (decide (0<b))
 (tV s ((s.c:Nat):Int) fun c=>
 cG Pr [bJ,bD] bJ [.slice c.a c.n c.c,.int .i64 b] a fun d e=>
 tV d (s.n:Int) fun f=>
 R (.slice f.a f.n f.c) e)
 (R (.slice s.a s.n s.c) a))))
 (fun g=>
 aA (decide (n<0))
 (False)
 (g w))
theorem acg {s:ah} {n:Int} {w:World} {R:Value→World→Prop} (h:KU s n w R):Ok Pr KS [.slice s.a s.n s.c,.int .i64 n] w R:=
 aL (m:=⟨true,true⟩) (J:=[(3,[])]) (L:=[]) aJ Tryz.func246 (by kernel_rfl) ((by kernel_rfl:aK Pr _ _ _ Tryz.f246 _ w R=KU s n w R).mpr h)
def KQ (s:ah) (n:Int) (w:World) (R:Value→World→Prop):Prop:=
 nw bJ [.slice s.a s.n s.c] w fun a b=>
 nw bD [.int .i64 n] b fun c d=>
 an .i64 c d fun e=>
 aA (decide (e<1))
 (False)
 (R (.func (.func C3) ⟨[]⟩ ⟨[.pointer (some a),.pointer (some c)]⟩) d)
theorem acd {s:ah} {n:Int} {w:World} {R:Value→World→Prop} (h:KQ s n w R):Ok Pr KP [.slice s.a s.n s.c,.int .i64 n] w R:=
 aL (m:=⟨true,true⟩) (J:=[]) (L:=[]) aJ Tryz.func247 (by kernel_rfl) ((by kernel_rfl:aK Pr _ _ _ Tryz.f247 _ w R=KQ s n w R).mpr h)
def MU (d:Int) (b:ah) (w:World) (R:Value→World→Prop):Prop:=
 aA ((decide (d<1)) || (decide (24<d)))
 (R (.slice none 0 0) w)
 (Jp (fun (a:ah) (c:Int) (e:Int) (f:Int)=>[(5,some (.slice a.a a.n a.c)),(6,some (.int .i64 c)),(7,some (.int .i64 e)),(18,some (.int .i64 f))])
 (fun g a c e f i=>aA (decide (f<(b.n:Int)))
 (aU b.a f b.n
 (an .u8 (Addr.add (base b.a) (Int.toNat f * 1)) i fun j=>
 (aF (j)∧
 gU e (lt (A:=Int) (rU .i64 c (shl .i64 j e)) fun k=>
 (aF (e+8)∧
 BV (fun (l:ah) (m:Int) (n:Int)=>[(5,some (.slice l.a l.n l.c)),(6,some (.int .i64 m)),(7,some (.int .i64 n))])
 (fun o l m n p=>aA (decide (d≤n))
 (az Pr PI [.int .i64 d,.int .i64 m] p fun q s=>
 bk .i64 q fun t=>
 nw bD [.int .i64 t] s fun u v=>
 cG Pr [fk,fk] fk [.slice l.a l.n l.c,.slice (some u) 1 1] v fun x y=>
 gU d ((aF (n - d)∧
 o x (shr .i64 m d) (n - d) y)))
 ((aF (f+1)∧
 g l m n (f+1) p)))
 a k (e+8) i)))))
 (R (.slice a.a a.n a.c) i))
 ⟨none,0,0⟩ 0 0 0 w)
theorem adN {d:Int} {b:ah} {w:World} {R:Value→World→Prop} (h:MU d b w R):Ok Pr AR [.int .i64 d,.slice b.a b.n b.c] w R:=
 aL (m:=⟨true,true⟩) (J:=[]) (L:=[(6,[(5,.sl),(6,.int .i64),(7,.int .i64),(18,.int .i64)]),(10,[(5,.sl),(6,.int .i64),(7,.int .i64)])]) aJ Tryz.func248 (by kernel_rfl) ((by kernel_rfl:aK Pr _ _ _ Tryz.f248 _ w R=MU d b w R).mpr h)
def KY (s:ah) (w:World) (R:Value→World→Prop):Prop:=
 aA (Option.isNone (α:=Addr) s.a)
 (R (.slice none 0 0) w)
 (nw bD [] w fun a b=>
 cG Pr [fk,fk] fk [.slice (some a) 0 0,.slice s.a s.n s.c] b fun c d=>
 R (.slice c.a c.n c.c) d)
theorem acm {s:ah} {w:World} {R:Value→World→Prop} (h:KY s w R):Ok Pr GO [.slice s.a s.n s.c] w R:=
 aL (m:=⟨true,true⟩) (J:=[]) (L:=[]) aJ Tryz.func253 (by kernel_rfl) ((by kernel_rfl:aK Pr _ _ _ Tryz.f253 _ w R=KY s w R).mpr h)
def OR (d:Int) (xs:ah) (w:World) (R:Value→World→Prop):Prop:=
 aA ((decide (d<1)) || (decide (24<d)))
 (R (.slice none 0 0) w)
 (Jp (fun (a:ah) (b:Int) (c:Int) (e:Int)=>[(5,some (.slice a.a a.n a.c)),(6,some (.int .i64 b)),(7,some (.int .i64 c)),(18,some (.int .i64 e))])
 (fun f a b c e g=>aA (decide (e<(xs.n:Int)))
 (aU xs.a e xs.n
 (an .i64 (Addr.add (base xs.a) (Int.toNat e * 1)) g fun i=>
 jL []
 (fun j=>gU c (lt (A:=Int) (rU .i64 b (shl .i64 i c)) fun k=>
 (aF (c+d)∧
 BV (fun (l:ah) (m:Int) (n:Int)=>[(5,some (.slice l.a l.n l.c)),(6,some (.int .i64 m)),(7,some (.int .i64 n))])
 (fun o l m n p=>aA (decide (8≤n))
 (nw bh [.int .u8 (IntKind.wrap .u8 (m))] p fun q s=>
 cG Pr [bJ,bJ] bJ [.slice l.a l.n l.c,.slice (some q) 1 1] s fun t u=>
 (aF (n - 8)∧
 o t (shr .i64 m 8) (n - 8) u))
 ((aF (e+1)∧
 f l m n (e+1) p)))
 a k (c+d) j)))
 (fun v=>
 aA (decide (i<0))
 (R (.slice none 0 0) g)
 (gU d (aA (!decide (shr .i64 i d=0))
 (R (.slice none 0 0) g)
 (v g))))))
 (aA (decide (0<c))
 (nw bh [.int .u8 (IntKind.wrap .u8 (b))] g fun x y=>
 cG Pr [bJ,bJ] bJ [.slice a.a a.n a.c,.slice (some x) 1 1] y fun z B=>
 R (.slice z.a z.n z.c) B)
 (R (.slice a.a a.n a.c) g)))
 ⟨none,0,0⟩ 0 0 0 w)
theorem ae2 {d:Int} {xs:ah} {w:World} {R:Value→World→Prop} (h:OR d xs w R):Ok Pr HI [.int .i64 d,.slice xs.a xs.n xs.c] w R:=
 aL (m:=⟨true,true⟩) (J:=[(10,[])]) (L:=[(6,[(5,.sl),(6,.int .i64),(7,.int .i64),(18,.int .i64)]),(12,[(5,.sl),(6,.int .i64),(7,.int .i64)])]) aJ Tryz.func258 (by kernel_rfl) ((by kernel_rfl:aK Pr _ _ _ Tryz.f258 _ w R=OR d xs w R).mpr h)
def OS (eta:Int) (aq:ah) (n:Int) (w:World) (R:Value→World→Prop):Prop:=
 aA ((!decide (eta=2)) && (!decide (eta=3)))
 (az Pr yD [.int .i64 2] w fun a b=>
 R (.tuple ⟨[.slice none 0 0,a]⟩) b)
 (aA (!decide ((aq.n:Int)=32))
 (az Pr yD [.int .i64 3] w fun c d=>
 R (.tuple ⟨[.slice none 0 0,c]⟩) d)
 ((aF (64 * eta)∧
 nw bh [.int .u8 n] w fun e f=>
 nw bJ [.slice aq.a aq.n aq.c,.slice (some e) 1 1] f fun g i=>
 az Pr sR [.int .i64 (64 * eta),.slice (some g) 2 2] i fun j k=>
 aT j fun l=>
 az Pr ON [.int .i64 eta,.slice l.a l.n l.c] k fun m o=>
 bB.bC m fun p=>
 aD p fun q s=>
 aT q fun t=>
 aD s fun u v=>
 (v=[]∧
 R (.tuple ⟨[.slice t.a t.n t.c,u]⟩) o))))
theorem ae3 {eta:Int} {aq:ah} {n:Int} {w:World} {R:Value→World→Prop} (h:OS eta aq n w R):Ok Pr OL [.int .i64 eta,.slice aq.a aq.n aq.c,.int .u8 n] w R:=
 aL (m:=⟨true,true⟩) (J:=[]) (L:=[]) aJ Tryz.func259 (by kernel_rfl) ((by kernel_rfl:aK Pr _ _ _ Tryz.f259 _ w R=OS eta aq n w R).mpr h)
def OT (aq:ah) (i:Int) (j:Int) (w:World) (R:Value→World→Prop):Prop:=
 aA (!decide ((aq.n:Int)=32))
 (az Pr yD [.int .i64 3] w fun a b=>
 R (.tuple ⟨[.slice none 0 0,a]⟩) b)
 (az Pr Hv [.int .i64 168,.int .u8 31] w fun c d=>
 Cz c fun e=>
 nw bh [.int .u8 i,.int .u8 j] d fun f g=>
 nw bJ [.slice aq.a aq.n aq.c,.slice (some f) 2 2] g fun k l=>
 az Pr C5 [.pointer e,.slice (some k) 2 2] l fun m n=>
 j3 Pr bD 0 256 n fun o p=>
 iy (fun (q:ah) (s:Int)=>[(9,some (.slice q.a q.n q.c)),(10,some (.int .i64 s))])
 (fun t q s u=>aA ((decide (s<4096)) && (decide ((q.n:Int)<256)))
 (az Pr C6 [.pointer e,.int .i64 3] u fun v x=>
 aT v fun y=>
 az Pr AR [.int .i64 12,.slice y.a y.n y.c] x fun z A=>
 aT z fun B=>
 iy (fun (C:ah) (D:Int)=>[(9,some (.slice C.a C.n C.c)),(39,some (.int .i64 D))])
 (fun E C D F=>aA (decide (D<(B.n:Int)))
 (aU B.a D B.n
 (an .i64 (Addr.add (base B.a) (Int.toNat D * 1)) F fun G=>
 aA ((decide (G<3329)) && (decide ((C.n:Int)<256)))
 (nw bD [.int .i64 G] F fun I J=>
 cG Pr [fk,fk] fk [.slice C.a C.n C.c,.slice (some I) 1 1] J fun L M=>
 (aF (D+1)∧
 E L (D+1) M))
 ((aF (D+1)∧
 E C (D+1) F))))
 ((aF (s+3)∧
 t C (s+3) F)))
 q 0 A)
 ((aF (256 - (q.n:Int))∧
 cG Pr [fk,bD] fk [.slice q.a q.n q.c,.int .i64 (256 - (q.n:Int))] u fun N O=>
 R (.tuple ⟨[.slice N.a N.n N.c,.nilIface]⟩) O)))
 o 3 p)
theorem ae4 {aq:ah} {i:Int} {j:Int} {w:World} {R:Value→World→Prop} (h:OT aq i j w R):Ok Pr OM [.slice aq.a aq.n aq.c,.int .u8 i,.int .u8 j] w R:=
 aL (m:=⟨true,true⟩) (J:=[]) (L:=[(7,[(9,.sl),(10,.int .i64)]),(10,[(9,.sl),(39,.int .i64)])]) aJ Tryz.func260 (by kernel_rfl) ((by kernel_rfl:aK Pr _ _ _ Tryz.f260 _ w R=OT aq i j w R).mpr h)
def K0 (s:Option Addr) (i:Int) (b:Int) (w:World) (R:Value→World→Prop):Prop:=
 ((0≤i∧i≤IntKind.max .i64)∧
 bA s fun a=>
 idx (i / 8) 25
 (an .u64 (Addr.add (Addr.add a 0) (Int.toNat (i / 8) * 1)) (World.drew w) fun c=>
 (0≤i∧
 (aF (8 * (i % 8))∧
 gU (8 * (i % 8)) (bA s fun d=>
 idx (i / 8) 25
 (st (Addr.add (Addr.add d 0) (Int.toNat (i / 8) * 1)) (.int .u64 (oB .u64 c (shl .u64 (IntKind.wrap .u64 (b)) (8 * (i % 8))))) (World.drew w) fun e=>
 R (.tuple ⟨[]⟩) e))))))
theorem acp {s:Option Addr} {i:Int} {b:Int} {w:World} {R:Value→World→Prop} (h:K0 s i b w R):Ok Pr C7 [.pointer s,.int .i64 i,.int .u8 b] w R:=
 aL (m:=⟨true,true⟩) (J:=[]) (L:=[]) aJ Tryz.func263 (by kernel_rfl) ((by kernel_rfl:aK Pr _ _ _ Tryz.f263 _ w R=K0 s i b w R).mpr h)
def K1 (s:Option Addr) (w:World) (R:Value→World→Prop):Prop:=
 bA s fun a=>
 an .i64 (Addr.add a 27) (World.drew w) fun b=>
 bA s fun c=>
 an .i64 (Addr.add c 25) (World.drew w) fun d=>
 aA (decide (b=d))
 (bA s fun e=>
 iD 25 (Addr.add e 0) (World.drew w) fun f=>
 az Pr LD [.agg ⟨f⟩] (World.drew w) fun g i=>
 jY g fun j=>
 bA s fun k=>
 kR 25 (Addr.add k 0) j i fun l=>
 bA s fun m=>
 st (Addr.add m 27) (.int .i64 0) l fun n=>
 R (.tuple ⟨[]⟩) n)
 (R (.tuple ⟨[]⟩) (World.drew w))
theorem acq {s:Option Addr} {w:World} {R:Value→World→Prop} (h:K1 s w R):Ok Pr GQ [.pointer s] w R:=
 aL (m:=⟨true,true⟩) (J:=[]) (L:=[]) aJ Tryz.func264 (by kernel_rfl) ((by kernel_rfl:aK Pr _ _ _ Tryz.f264 _ w R=K1 s w R).mpr h)
def PM (d:Int) (x:Int) (w:World) (R:Value→World→Prop):Prop:=
 aA ((decide (d<0)) || (decide (62<d)))
 (R (.int .i64 0) w)
 (gU d ((aF ((shl .i64 1 d) - 1)∧
 R (.int .i64 (iA .i64 x ((shl .i64 1 d) - 1))) w)))
theorem afN {d:Int} {x:Int} {w:World} {R:Value→World→Prop} (h:PM d x w R):Ok Pr PI [.int .i64 d,.int .i64 x] w R:=
 aL (m:=⟨true,true⟩) (J:=[]) (L:=[]) aJ Tryz.func282 (by kernel_rfl) ((by kernel_rfl:aK Pr _ _ _ Tryz.f282 _ w R=PM d x w R).mpr h)
def NP (code:Int) (w:World) (R:Value→World→Prop):Prop:=
 nw oX [.int .i64 code,.string alK] w fun a b=>
 R (.iface jy (.pointer (some a))) b
theorem aeq {code:Int} {w:World} {R:Value→World→Prop} (h:NP code w R):Ok Pr yD [.int .i64 code] w R:=
 aL (m:=⟨true,true⟩) (J:=[]) (L:=[]) aJ Tryz.func286 (by kernel_rfl) ((by kernel_rfl:aK Pr _ _ _ Tryz.f286 _ w R=NP code w R).mpr h)
def OU (eta:Int) (b:ah) (w:World) (R:Value→World→Prop):Prop:=
 aA ((!decide (eta=2)) && (!decide (eta=3)))
 (az Pr yD [.int .i64 2] w fun a c=>
 R (.tuple ⟨[.slice none 0 0,a]⟩) c)
 ((aF (64 * eta)∧
 aA (!decide ((b.n:Int)=64 * eta))
 (az Pr yD [.int .i64 3] w fun d e=>
 R (.tuple ⟨[.slice none 0 0,d]⟩) e)
 (j3 Pr bD 256 256 w fun f g=>
 az Pr AR [.int .i64 1,.slice b.a b.n b.c] g fun i j=>
 aT i fun k=>
 cY (fun (l:Int)=>[(29,some (.int .i64 l))])
 (fun m l n=>aA (decide (l<(k.n:Int)))
 (aU k.a l k.n
 (an .i64 (Addr.add (base k.a) (Int.toNat l * 1)) n fun o=>
 (aF (2 * eta)∧
 pos (2 * eta) (((0≤l∧l≤IntKind.max .i64)∧
 jl (fun (p:Int)=>[(8,some (.int .i64 p))])
 (fun p q=>aU f.a (l / (2 * eta)) f.n
 (an .i64 (Addr.add (base f.a) (Int.toNat (l / (2 * eta)) * 1)) q fun s=>
 (aF (s+p)∧
 (0≤s+p∧
 aU f.a (l / (2 * eta)) f.n
 (st (Addr.add (base f.a) (Int.toNat (l / (2 * eta)) * 1)) (.int .i64 ((s+p) % 3329)) q fun t=>
 (aF (l+1)∧
 m (l+1) t))))))
 (fun u=>
 (aF (2 * eta)∧
 pos (2 * eta) ((0≤l∧
 aA (decide (eta≤l % (2 * eta)))
 ((aF (3329 - o)∧
 u (3329 - o) n))
 (u o n))))))))))
 (R (.tuple ⟨[.slice f.a f.n f.c,.nilIface]⟩) n))
 0 j)))
theorem ae5 {eta:Int} {b:ah} {w:World} {R:Value→World→Prop} (h:OU eta b w R):Ok Pr ON [.int .i64 eta,.slice b.a b.n b.c] w R:=
 aL (m:=⟨true,true⟩) (J:=[(12,[(8,.int .i64)])]) (L:=[(7,[(29,.int .i64)])]) aJ Tryz.func287 (by kernel_rfl) ((by kernel_rfl:aK Pr _ _ _ Tryz.f287 _ w R=OU eta b w R).mpr h)
def LG (a:List Value) (w:World) (R:Value→World→Prop):Prop:=
 nw dQ a w fun b c=>
 nw dQ (zc Pr dQ) c fun d e=>
 cY (fun (f:Int)=>[(4,some (.int .i64 f))])
 (fun g f i=>aA (decide (f<24))
 (iD 25 b i fun j=>
 az Pr Mr [.agg ⟨j⟩,.int .i64 f] i fun k l=>
 jY k fun m=>
 kR 25 b m l fun n=>
 (aF (f+1)∧
 g (f+1) n))
 (iD 25 b i fun o=>
 kR 25 d o i fun p=>
 iD 25 d p fun q=>
 R (.agg ⟨q⟩) p))
 0 e
theorem acO {a:List Value} {w:World} {R:Value→World→Prop} (h:LG a w R):Ok Pr LD [.agg ⟨a⟩] w R:=
 aL (m:=⟨true,true⟩) (J:=[]) (L:=[(2,[(4,.int .i64)])]) aJ Tryz.func288 (by kernel_rfl) ((by kernel_rfl:aK Pr _ _ _ Tryz.f288 _ w R=LG a w R).mpr h)
def KR (x:Int) (kv:Int) (w:World) (R:Value→World→Prop):Prop:=
 lt (A:=Int) (iA .u64 (IntKind.wrap .u64 (kv)) 63) fun a=>
 gU a (gU (IntKind.wrap .u64 (64 - a)) (R (.int .u64 (rU .u64 (shl .u64 x a) (shr .u64 x (IntKind.wrap .u64 (64 - a))))) w))
theorem ace {x:Int} {kv:Int} {w:World} {R:Value→World→Prop} (h:KR x kv w R):Ok Pr GM [.int .u64 x,.int .i64 kv] w R:=
 aL (m:=⟨true,true⟩) (J:=[]) (L:=[]) aJ Tryz.func294 (by kernel_rfl) ((by kernel_rfl:aK Pr _ _ _ Tryz.f294 _ w R=KR x kv w R).mpr h)
def Mt (a:List Value) (round:Int) (w:World) (R:Value→World→Prop):Prop:=
 nw dQ a w fun b c=>
 nw dQ (zc Pr dQ) c fun d e=>
 iD 25 b e fun f=>
 az Pr Ms [.agg ⟨f⟩] e fun g i=>
 jY g fun j=>
 az Pr NK [.agg ⟨j⟩] i fun k l=>
 jY k fun m=>
 az Pr OO [.agg ⟨m⟩] l fun n o=>
 jY n fun p=>
 az Pr NJ [.agg ⟨p⟩] o fun q s=>
 jY q fun t=>
 az Pr MR [.agg ⟨t⟩,.int .i64 round] s fun u v=>
 jY u fun x=>
 kR 25 d x v fun y=>
 iD 25 d y fun z=>
 R (.agg ⟨z⟩) y
theorem adv {a:List Value} {round:Int} {w:World} {R:Value→World→Prop} (h:Mt a round w R):Ok Pr Mr [.agg ⟨a⟩,.int .i64 round] w R:=
 aL (m:=⟨true,true⟩) (J:=[]) (L:=[]) aJ Tryz.func295 (by kernel_rfl) ((by kernel_rfl:aK Pr _ _ _ Tryz.f295 _ w R=Mt a round w R).mpr h)
def MV (a:List Value) (round:Int) (w:World) (R:Value→World→Prop):Prop:=
 nw dQ a w fun b c=>
 nw dQ (zc Pr dQ) c fun d e=>
 aA ((decide (round<0)) || (decide (23<round)))
 (iD 25 b e fun f=>
 kR 25 d f e fun g=>
 iD 25 d g fun i=>
 R (.agg ⟨i⟩) g)
 (nw OP (zc Pr OP) e fun j k=>
 kR 24 j ([.int .u64 1,.int .u64 32898,.int .u64 9223372036854808714,.int .u64 9223372039002292224,.int .u64 32907,.int .u64 2147483649,.int .u64 9223372039002292353,.int .u64 9223372036854808585,.int .u64 138,.int .u64 136,.int .u64 2147516425,.int .u64 2147483658,.int .u64 2147516555,.int .u64 9223372036854775947,.int .u64 9223372036854808713,.int .u64 9223372036854808579,.int .u64 9223372036854808578,.int .u64 9223372036854775936,.int .u64 32778,.int .u64 9223372039002259466,.int .u64 9223372039002292353,.int .u64 9223372036854808704,.int .u64 2147483649,.int .u64 9223372039002292232]) k fun l=>
 idx 0 25
 (an .u64 (Addr.add b (Int.toNat 0 * 1)) (World.drew l) fun m=>
 idx round 24
 (an .u64 (Addr.add j (Int.toNat round * 1)) (World.drew l) fun n=>
 idx 0 25
 (st (Addr.add b (Int.toNat 0 * 1)) (.int .u64 (oB .u64 m n)) (World.drew l) fun o=>
 iD 25 b o fun p=>
 kR 25 d p o fun q=>
 iD 25 d q fun s=>
 R (.agg ⟨s⟩) q))))
theorem adO {a:List Value} {round:Int} {w:World} {R:Value→World→Prop} (h:MV a round w R):Ok Pr MR [.agg ⟨a⟩,.int .i64 round] w R:=
 aL (m:=⟨true,true⟩) (J:=[]) (L:=[]) aJ Tryz.func296 (by kernel_rfl) ((by kernel_rfl:aK Pr _ _ _ Tryz.f296 _ w R=MV a round w R).mpr h)
def NQ (a:List Value) (w:World) (R:Value→World→Prop):Prop:=
 nw dQ a w fun b c=>
 nw dQ (zc Pr dQ) c fun d e=>
 iD 25 b e fun f=>
 nw dQ (zc Pr dQ) e fun g i=>
 kR 25 g f i fun j=>
 cY (fun (k:Int)=>[(7,some (.int .i64 k))])
 (fun l k m=>aA (decide (k<5))
 (cY (fun (n:Int)=>[(10,some (.int .i64 n))])
 (fun o n p=>aA (decide (n<5))
 ((aF (n+1)∧
 (aF (n+2)∧
 az Pr wF [.int .i64 n,.int .i64 k] (World.drew p) fun q s=>
 bk .i64 q fun t=>
 idx t 25
 (an .u64 (Addr.add g (Int.toNat t * 1)) s fun u=>
 az Pr wF [.int .i64 (n+1),.int .i64 k] s fun v x=>
 bk .i64 v fun y=>
 (kept (Addr.add g (Int.toNat t * 1)) 1 s x∧
 idx y 25
 (an .u64 (Addr.add b (Int.toNat y * 1)) x fun z=>
 az Pr wF [.int .i64 (n+2),.int .i64 k] x fun A B=>
 bk .i64 A fun C=>
 (kept (Addr.add b (Int.toNat y * 1)) 1 x B∧
 (kept (Addr.add g (Int.toNat t * 1)) 1 x B∧
 idx C 25
 (an .u64 (Addr.add b (Int.toNat C * 1)) B fun D=>
 idx t 25
 (st (Addr.add g (Int.toNat t * 1)) (.int .u64 (oB .u64 u (iA .u64 (JA .u64 z) D))) B fun E=>
 (aF (n+1)∧
 o (n+1) E)))))))))))
 ((aF (k+1)∧
 l (k+1) p)))
 0 m)
 (iD 25 g m fun F=>
 kR 25 d F m fun G=>
 iD 25 d G fun I=>
 R (.agg ⟨I⟩) G))
 0 j
theorem aer {a:List Value} {w:World} {R:Value→World→Prop} (h:NQ a w R):Ok Pr NJ [.agg ⟨a⟩] w R:=
 aL (m:=⟨true,true⟩) (J:=[]) (L:=[(3,[(7,.int .i64)]),(6,[(10,.int .i64)])]) aJ Tryz.func297 (by kernel_rfl) ((by kernel_rfl:aK Pr _ _ _ Tryz.f297 _ w R=NQ a w R).mpr h)
def OV (a:List Value) (w:World) (R:Value→World→Prop):Prop:=
 nw dQ a w fun b c=>
 nw dQ (zc Pr dQ) c fun d e=>
 nw dQ (zc Pr dQ) e fun f g=>
 cY (fun (i:Int)=>[(6,some (.int .i64 i))])
 (fun j i k=>aA (decide (i<5))
 (cY (fun (l:Int)=>[(9,some (.int .i64 l))])
 (fun m l n=>aA (decide (l<5))
 (az Pr wF [.int .i64 l,.int .i64 i] n fun o p=>
 bk .i64 o fun q=>
 (aF (3 * i)∧
 (aF (l+(3 * i))∧
 az Pr wF [.int .i64 (l+(3 * i)),.int .i64 l] p fun s t=>
 bk .i64 s fun u=>
 idx u 25
 (an .u64 (Addr.add b (Int.toNat u * 1)) t fun v=>
 idx q 25
 (st (Addr.add f (Int.toNat q * 1)) (.int .u64 v) t fun x=>
 (aF (l+1)∧
 m (l+1) x))))))
 ((aF (i+1)∧
 j (i+1) n)))
 0 k)
 (iD 25 f k fun y=>
 kR 25 d y k fun z=>
 iD 25 d z fun A=>
 R (.agg ⟨A⟩) z))
 0 g
theorem ae6 {a:List Value} {w:World} {R:Value→World→Prop} (h:OV a w R):Ok Pr OO [.agg ⟨a⟩] w R:=
 aL (m:=⟨true,true⟩) (J:=[]) (L:=[(3,[(6,.int .i64)]),(6,[(9,.int .i64)])]) aJ Tryz.func298 (by kernel_rfl) ((by kernel_rfl:aK Pr _ _ _ Tryz.f298 _ w R=OV a w R).mpr h)
def NR (a:List Value) (w:World) (R:Value→World→Prop):Prop:=
 nw dQ a w fun b c=>
 nw dQ (zc Pr dQ) c fun d e=>
 BV (fun (f:Int) (g:Int) (i:Int)=>[(3,some (.int .i64 f)),(4,some (.int .i64 g)),(5,some (.int .i64 i))])
 (fun j f g i k=>aA (decide (i≤24))
 (az Pr wF [.int .i64 f,.int .i64 g] k fun l m=>
 bk .i64 l fun n=>
 idx n 25
 (an .u64 (Addr.add b (Int.toNat n * 1)) m fun o=>
 (aF (i+1)∧
 (aF (i * (i+1))∧
 ((0≤i * (i+1)∧i * (i+1)≤IntKind.max .i64)∧
 (0≤(i * (i+1)) / 2∧
 az Pr GM [.int .u64 o,.int .i64 (((i * (i+1)) / 2) % 64)] m fun p q=>
 bk .u64 p fun s=>
 idx n 25
 (st (Addr.add b (Int.toNat n * 1)) (.int .u64 s) q fun t=>
 (aF (2 * f)∧
 (aF (3 * g)∧
 (aF ((2 * f)+(3 * g))∧
 (0≤(2 * f)+(3 * g)∧
 lt (A:=Int) (((2 * f)+(3 * g)) % 5) fun u=>
 (aF (i+1)∧
 j g u (i+1) t))))))))))))
 (iD 25 b k fun v=>
 kR 25 d v k fun x=>
 iD 25 d x fun y=>
 R (.agg ⟨y⟩) x))
 1 0 1 e
theorem aes {a:List Value} {w:World} {R:Value→World→Prop} (h:NR a w R):Ok Pr NK [.agg ⟨a⟩] w R:=
 aL (m:=⟨true,true⟩) (J:=[]) (L:=[(3,[(3,.int .i64),(4,.int .i64),(5,.int .i64)])]) aJ Tryz.func299 (by kernel_rfl) ((by kernel_rfl:aK Pr _ _ _ Tryz.f299 _ w R=NR a w R).mpr h)
def Mu (a:List Value) (w:World) (R:Value→World→Prop):Prop:=
 nw dQ a w fun b c=>
 nw dQ (zc Pr dQ) c fun d e=>
 nw DN (zc Pr DN) e fun f g=>
 iD 25 b g fun i=>
 cY (fun (j:Int)=>[(9,some (.int .i64 j))])
 (fun k j l=>aA (decide (j<25))
 (atI .u64 i j 25 fun m=>
 (0≤j∧
 idx (j % 5) 5
 (an .u64 (Addr.add f (Int.toNat (j % 5) * 1)) l fun n=>
 idx (j % 5) 5
 (st (Addr.add f (Int.toNat (j % 5) * 1)) (.int .u64 (oB .u64 n m)) l fun o=>
 (aF (j+1)∧
 k (j+1) o)))))
 (cY (fun (p:Int)=>[(21,some (.int .i64 p))])
 (fun q p s=>aA (decide (p<25))
 ((0≤p∧
 idx p 25
 (an .u64 (Addr.add b (Int.toNat p * 1)) (World.drew s) fun t=>
 (aF ((p % 5)+4)∧
 (0≤(p % 5)+4∧
 idx (((p % 5)+4) % 5) 5
 (an .u64 (Addr.add f (Int.toNat (((p % 5)+4) % 5) * 1)) (World.drew s) fun u=>
 (aF ((p % 5)+1)∧
 (0≤(p % 5)+1∧
 idx (((p % 5)+1) % 5) 5
 (an .u64 (Addr.add f (Int.toNat (((p % 5)+1) % 5) * 1)) (World.drew s) fun v=>
 az Pr GM [.int .u64 v,.int .i64 1] (World.drew s) fun x y=>
 bk .u64 x fun z=>
 (kept (Addr.add f (Int.toNat (((p % 5)+4) % 5) * 1)) 1 (World.drew s) y∧
 (kept (Addr.add b (Int.toNat p * 1)) 1 (World.drew s) y∧
 idx p 25
 (st (Addr.add b (Int.toNat p * 1)) (.int .u64 (oB .u64 t (oB .u64 u z))) y fun A=>
 (aF (p+1)∧
 q (p+1) A)))))))))))))
 (iD 25 b s fun B=>
 kR 25 d B s fun C=>
 iD 25 d C fun D=>
 R (.agg ⟨D⟩) C))
 0 l))
 0 g
theorem adw {a:List Value} {w:World} {R:Value→World→Prop} (h:Mu a w R):Ok Pr Ms [.agg ⟨a⟩] w R:=
 aL (m:=⟨true,true⟩) (J:=[]) (L:=[(3,[(9,.int .i64)]),(8,[(21,.int .i64)])]) aJ Tryz.func300 (by kernel_rfl) ((by kernel_rfl:aK Pr _ _ _ Tryz.f300 _ w R=Mu a w R).mpr h)
def OW (x:Int) (y:Int) (w:World) (R:Value→World→Prop):Prop:=
 (0≤x∧
 (0≤y∧
 (aF (5 * (y % 5))∧
 (aF ((x % 5)+(5 * (y % 5)))∧
 R (.int .i64 ((x % 5)+(5 * (y % 5)))) w))))
theorem ae7 {x:Int} {y:Int} {w:World} {R:Value→World→Prop} (h:OW x y w R):Ok Pr wF [.int .i64 x,.int .i64 y] w R:=
 aL (m:=⟨true,true⟩) (J:=[]) (L:=[]) aJ Tryz.func301 (by kernel_rfl) ((by kernel_rfl:aK Pr _ _ _ Tryz.f301 _ w R=OW x y w R).mpr h)
end Go.Proofs.YtgjoehgomjgckaaGreatDoor
end
section
set_option linter.unusedVariables false
set_option linter.unusedSimpArgs false
namespace Go.Ev
open Go Go.RowKit
variable {P:Program}
structure aE where
 fp:List Nat
 ok:World→Prop
 kC:∀ w w':World,(∀ b∈fp,w'.heap[b]? = w.heap[b]?)→ok w→ok w'
 lt:∀ w,ok w→∀ b∈fp,b<w.heap.size
def aE.av (b:Nat) (cs:List Value) (t:TypeId):aE where
 fp:=[b]
 ok w:=bX w b cs t
 kC w w' h k:=(h b (by simp)).trans k
 lt w h c hc:=by simp only [List.mem_singleton] at hc; subst hc; exact bX.lt h
def aE.row (e:TypeId) (sz:Nat) (s:ah) (vs:List Value):aE where
 fp:=s.row
 ok w:=Own w 0 e sz s vs
 kC w w' h k:=by
  obtain ⟨a,n,c⟩:=s
  obtain ⟨hl,h1 | ⟨g,cap,cur,h1,h2,h3,h4⟩⟩:=k
  ·exact ⟨hl,.inl h1⟩
  ·refine ⟨hl,.inr ⟨g,cap,cur,h1,h2,?_,h4⟩⟩
   simp only [ah.v,Value.slice.injEq] at h1
   rw [h g (by simp [ah.row,h1.1])]
   exact h3
 lt w h b hb:=(Own.Er h b hb).2
structure ak (w0:World) (S:List Nat) (w:World) (L:List aE):Prop where
 mod:Mod S w0 w
 ok:∀ (k:Nat) (r:aE),L[k]? = some r→r.ok w
 own:∀ (k:Nat) (r:aE),L[k]? = some r→∀ b∈r.fp,b∈S∨w0.heap.size≤b
 apart:∀ (j k:Nat) (r s:aE),j≠k→L[j]? = some r→L[k]? = some s→∀ b∈r.fp,b∉s.fp
section
variable {w0 w w':World} {S:List Nat} {L:List aE} {r r':aE} {k:Nat}
theorem ak.start (w:World):ak w [] w []:=⟨Mod.refl _ _,fun k r h=>by simp at h,fun k r h=>by simp at h,fun j k r s _ h=>by simp at h⟩
theorem ak.Et {r:aE} {w:World} (h:r.ok w):ak w r.fp w [r]:=by
 have e:∀ {k:Nat} {s:aE},[r][k]? = some s→k=0∧s=r:=fun {k s} h=>by
  cases k with
  | zero=>simp at h; exact ⟨rfl,h.symm⟩
  | succ k=>simp at h
 refine ⟨Mod.refl _ _,fun k s hs=>?_,fun k s hs b hb=>?_,fun j k s t lp hs ht=>?_⟩
 ·rw [(e hs).2]; exact h
 ·rw [(e hs).2] at hb; exact .inl hb
 ·exact absurd ((e hs).1.trans (e ht).1.symm) lp
theorem ak.get (H:ak w0 S w L) (k:Nat) {r:aE} (hk:L[k]? = some r):r.ok w:=H.ok k r hk
theorem ak.frame (H:ak w0 S w L) (m:Mod [] w w'):ak w0 S w' L:=
 ⟨H.mod.then m,fun k r hk=>r.kC w w' (fun b hb=>m.block b (r.lt w (H.ok k r hk) b hb) (by simp)) (H.ok k r hk),H.own,H.apart⟩
theorem ak.push (H:ak w0 S w L) (m:Mod [] w w') (hr:r.ok w') (hf:∀ b∈r.fp,w.heap.size≤b):ak w0 S w' (L ++ [r]):=by
 have H':=H.frame m
 have e:∀ {k:Nat} {s:aE},(L ++ [r])[k]? = some s→(L[k]? = some s∧k<L.length)∨(s=r∧k=L.length):=fun {k s} h=>by
  rcases Nat.lt_or_ge k L.length with hk | hk
  ·rw [List.getElem?_append_left hk] at h; exact .inl ⟨h,hk⟩
  ·rw [List.getElem?_append_right hk] at h
   rcases Nat.eq_zero_or_pos (k - L.length) with e | e
   ·rw [e] at h; simp at h; exact .inr ⟨h.symm,by omega⟩
   ·rw [List.getElem?_eq_none (by simp; omega)] at h; cases h
 refine ⟨H'.mod,fun k s hs=>?_,fun k s hs b hb=>?_,fun j k s t lp hs ht b hb iP=>?_⟩
 ·rcases e hs with ⟨h,_⟩ | ⟨rfl,_⟩
  ·exact H'.ok k s h
  ·exact hr
 ·rcases e hs with ⟨h,_⟩ | ⟨rfl,_⟩
  ·exact H.own k s h b hb
  ·exact .inr (Nat.le_trans H.mod.size (hf b hb))
 ·rcases e hs with ⟨h,hj⟩ | ⟨rfl,hj⟩
  ·rcases e ht with ⟨h',_⟩ | ⟨rfl,_⟩
   ·exact H.apart j k s t lp h h' b hb iP
   ·have:=s.lt w (H.ok j s h) b hb
    have:=hf b iP
    omega
  ·rcases e ht with ⟨h',_⟩ | ⟨rfl,hk⟩
   ·have:=t.lt w (H.ok k t h') b iP
    have:=hf b hb
    omega
   ·omega
theorem ak.iQ {T:List Nat} (H:ak w0 S w L) (k:Nat) {r r':aE} (hk:L[k]? = some r) (m:Mod T w w') (hT:∀ b∈T,b∈r.fp∨w.heap.size≤b) (hr:r'.ok w') (hf:∀ b∈r'.fp,b∈r.fp∨w.heap.size≤b) :
  ak w0 S w' (L.set k r'):=by
 have bO:k<L.length:=(List.getElem?_eq_some_iff.1 hk).1
 have e:∀ {j:Nat} {s:aE},(L.set k r')[j]? = some s→(L[j]? = some s∧j≠k)∨(s=r'∧j=k):=fun {j s} h=>by
  rw [List.getElem?_set] at h
  split at h
  ·rename_i e
   subst e
   exact .inr ⟨(Option.some.inj h).symm,rfl⟩
  ·rename_i hn; exact .inl ⟨h,fun e=>hn e.symm⟩
 refine ⟨H.mod.trans' m fun b hb=>?_,fun j s hs=>?_,fun j s hs b hb=>?_,fun i j s t Ax hs ht b hb iP=>?_⟩
 ·rcases hT b hb with h | h
  ·exact H.own k r hk b h
  ·exact .inr (Nat.le_trans H.mod.size h)
 ·rcases e hs with ⟨h,hj⟩ | ⟨rfl,_⟩
  ·refine s.kC w w' (fun b hb=>m.block b (s.lt w (H.ok j s h) b hb) fun hbT=>?_) (H.ok j s h)
   rcases hT b hbT with h1 | h1
   ·exact H.apart j k s r hj h hk b hb h1
   ·have:=s.lt w (H.ok j s h) b hb; omega
  ·exact hr
 ·rcases e hs with ⟨h,_⟩ | ⟨rfl,_⟩
  ·exact H.own j s h b hb
  ·rcases hf b hb with h1 | h1
   ·exact H.own k r hk b h1
   ·exact .inr (Nat.le_trans H.mod.size h1)
 ·have old:∀ {j:Nat} {s:aE} {b:Nat},L[j]? = some s→j≠k→b∈s.fp→b∉r'.fp:=fun {j s b} h hj hb iP=>by
   rcases hf b iP with h1 | h1
   ·exact H.apart j k s r hj h hk b hb h1
   ·have:=s.lt w (H.ok j s h) b hb; omega
  rcases e hs with ⟨h,hi⟩ | ⟨rfl,hi⟩
  ·rcases e ht with ⟨h',_⟩ | ⟨rfl,_⟩
   ·exact H.apart i j s t Ax h h' b hb iP
   ·exact old h hi hb iP
  ·rcases e ht with ⟨h',hj⟩ | ⟨rfl,hj⟩
   ·exact old h' hj iP hb
   ·omega
theorem ak.take (H:ak w0 S w L) (n:Nat):ak w0 S w (L.take n):=by
 have e:∀ {k:Nat} {s:aE},(L.take n)[k]? = some s→L[k]? = some s:=fun {k s} h=>by
  rw [List.getElem?_take] at h
  split at h
  ·exact h
  ·cases h
 exact ⟨H.mod,fun k s hs=>H.ok k s (e hs),fun k s hs=>H.own k s (e hs),fun j k s t lp hs ht=>H.apart j k s t lp (e hs) (e ht)⟩
theorem ak.drew (H:ak w0 S w L):ak w0 S w.drew L:=H.frame (Mod.drew _ _)
end
section
variable {w0 w:World} {S:List Nat} {L:List aE}
theorem ak.nw (H:ak w0 S w L) {t:TypeId} {cs:List Value} {K:Addr→World→Prop} (h:∀ b w',ak w0 S w' (L ++ [.av b cs t])→w0.heap.size≤b→K ⟨b,0,none⟩ w'):nw t cs w K:=
 qv fun b w' hb h1 h2 _=>h b w' (H.push h2 h1 (by simp [aE.av,hb])) (hb ▸ H.mod.size)
theorem ak.av (H:ak w0 S w L) (k:Nat) {b:Nat} {cs:List Value} {t:TypeId} (hk:L[k]? = some (.av b cs t)):bX w b cs t:=H.ok k _ hk
theorem ak.st (H:ak w0 S w L) (k:Nat) {b i:Nat} {a:Addr} {v:Value} {cs:List Value} {t:TypeId} {K:World→Prop} (hk:L[k]? = some (.av b cs t)) (ha:a=⟨b,i,none⟩) (hi:i<cs.length) (h1:ek v=true)
  (h:∀ w',ak w0 S w' (L.set k (.av b (cs.set i v) t))→K w'):st a v w K:=by
 subst ha
 exact RI (H.av k hk) hi h1 fun w' h2 h3 _=>h w' (H.iQ k hk h3 (fun c hc=>.inl hc) h2 (fun c hc=>.inl hc))
theorem ak.kR (H:ak w0 S w L) (k:Nat) {b n:Nat} {l cs:List Value} {t:TypeId} {K:World→Prop} (hk:L[k]? = some (.av b cs t)) (hl:l.length=n) (hn:n=cs.length) (h1:∀ v∈l,ek v=true)
  (h:∀ w',ak w0 S w' (L.set k (.av b l t))→K w'):kR n ⟨b,0,none⟩ l w K:=
 X9 (H.av k hk) hl (Nat.le_of_eq hn) h1 fun w' h2 h3 _=>by
  rw [hn,List.drop_length,List.append_nil] at h2
  exact h w' (H.iQ k hk h3 (fun c hc=>.inl hc) h2 (fun c hc=>.inl hc))
theorem ak.iD (H:ak w0 S w L) (k:Nat) {b n:Nat} {cs:List Value} {t:TypeId} {K:List Value→Prop} (hk:L[k]? = some (.av b cs t)) (hn:n=cs.length) (h:K cs):iD n ⟨b,0,none⟩ w K:=
 Yh (H.av k hk) (Nat.le_of_eq hn) (by rw [hn,List.take_length]; exact h)
theorem ak.cell (H:ak w0 S w L) (k:Nat) {b i:Nat} {a:Addr} {v:Value} {cs:List Value} {t:TypeId} (hk:L[k]? = some (.av b cs t)) (ha:a=⟨b,i,none⟩) (hv:cs[i]? = some v):w.cell? a=some v:=by
 subst ha; exact ((H.av k hk).cell i).trans hv
theorem ak.an (H:ak w0 S w L) (k:Nat) {b i:Nat} {a:Addr} {q:IntKind} {n:Int} {cs:List Value} {t:TypeId} {K:Int→Prop} (hk:L[k]? = some (.av b cs t)) (ha:a=⟨b,i,none⟩) (hv:cs[i]? = some (.int q n)) (h:K n):an q a w K:=
 ⟨n,H.cell k hk ha hv,h⟩
theorem ak.lZ (H:ak w0 S w L) (k:Nat) {b i:Nat} {a:Addr} {n:Bool} {cs:List Value} {t:TypeId} {K:Bool→Prop} (hk:L[k]? = some (.av b cs t)) (ha:a=⟨b,i,none⟩) (hv:cs[i]? = some (.bool n)) (h:K n):lZ a w K:=
 ⟨n,H.cell k hk ha hv,h⟩
theorem ak.l5 (H:ak w0 S w L) (k:Nat) {b i:Nat} {a:Addr} {n:Option Addr} {cs:List Value} {t:TypeId} {K:Option Addr→Prop} (hk:L[k]? = some (.av b cs t)) (ha:a=⟨b,i,none⟩) (hv:cs[i]? = some (.pointer n)) (h:K n):l5 a w K:=
 ⟨n,H.cell k hk ha hv,h⟩
theorem ak.ax (H:ak w0 S w L) (k:Nat) {b i:Nat} {a:Addr} {n:ah} {cs:List Value} {t:TypeId} {K:ah→Prop} (hk:L[k]? = some (.av b cs t)) (ha:a=⟨b,i,none⟩) (hv:cs[i]? = some (.slice n.a n.n n.c)) (h:K n):ax a w K:=
 ⟨n,H.cell k hk ha hv,h⟩
theorem ak.kept (H:ak w0 S w L) {w':World} (m:Mod [] w w') (k:Nat) {b i:Nat} {a:Addr} {cs:List Value} {t:TypeId} (hk:L[k]? = some (.av b cs t)) (ha:a=⟨b,i,none⟩) (n:Nat):kept a n w w':=by
 subst ha
 exact D6 m (H.av k hk).lt (by simp)
end
theorem ad (b i:Nat):Addr.add ⟨b,0,none⟩ (i * 1)=⟨b,i,none⟩:=by rw [tw,Nat.zero_add,Nat.mul_one]
theorem au (b i:Nat):Addr.add ⟨b,0,none⟩ i=⟨b,i,none⟩:=by rw [tw,Nat.zero_add]
section
variable {w0 w:World} {S:List Nat} {L:List aE}
theorem Own.lo {w:World} {lo:Nat} {e:TypeId} {sz:Nat} {s:ah} {vs:List Value} (h:Own w lo e sz s vs):Own w 0 e sz s vs:=by
 obtain ⟨hl,h1 | ⟨g,cap,cur,h1,h2,h3⟩⟩:=h
 ·exact ⟨hl,.inl h1⟩
 ·exact ⟨hl,.inr ⟨g,cap,cur,h1,Nat.zero_le _,h3⟩⟩
theorem ak.qE (H:ak w0 S w L) (k:Nat) {e:TypeId} {sz:Nat} {s:ah} {vs:List Value} (hk:L[k]? = some (.row e sz s vs)):Own w 0 e sz s vs:=H.ok k _ hk
theorem ak.jk (H:ak w0 S w L) (e:TypeId) (sz:Nat):ak w0 S w (L ++ [.row e sz ⟨none,0,0⟩ []]):=
 H.push (Mod.refl _ _) (Own.nil w 0 e sz) (by simp [aE.row,ah.row])
theorem ak.app (H:ak w0 S w L) (k:Nat) {t ty e:TypeId} {sz bytes:Nat} {s x:ah} {vs us:List Value} {K:ah→World→Prop} (cz:fh P t e sz bytes) (hk:L[k]? = some (.row e sz s vs)) (hx:Sl w x sz us)
  (h1:∀ u∈us,ek u=true) (hb:(s.n+x.n) * bytes≤140737488355328) (hm:s.n+x.n≤9223372036854775807)
  (h:∀ s' w',ak w0 S w' (L.set k (.row e sz s' (vs ++ us)))→s'.n=s.n+x.n→K s' w'):cG P [t,t] ty [.slice s.a s.n s.c,.slice x.a x.n x.c] w K:=
 akM cz (H.qE k hk) hx h1 hb hm (Nat.zero_le _) fun s' w' h2 h3 h4 h5=>h s' w' (H.iQ k hk h3 (fun b hb=>.inl hb) h2 h5) h4
end
theorem y6 {A1:Type} {mk:A1→Fr} {body:(A1→World→Prop)→A1→World→Prop} {y1:A1} {v:World} (I:A1→World→Prop) (μ:A1→World→Nat) (hi:I y1 v)
  (hb:∀ (again:A1→World→Prop) x1 w,I x1 w→(∀ gW w',I gW w'→μ gW w'<μ x1 w→again gW w')→body again x1 w):cY mk body y1 v:=by
 intro X hX
 suffices ∀ n x1 w,μ x1 w<n→I x1 w→X (mk x1) w from this _ y1 v (Nat.lt_succ_self _) hi
 intro n
 induction n with
 | zero=>intro x1 w h; omega
 | succ n ih=>intro x1 w hn hI; exact hX x1 w (hb _ x1 w hI fun gW w' h1 h2=>ih gW w' (by omega) h1)
theorem wU {A1 A2:Type} {mk:A1→A2→Fr} {body:(A1→A2→World→Prop)→A1→A2→World→Prop} {y1:A1} {y2:A2} {v:World} (I:A1→A2→World→Prop) (μ:A1→A2→World→Nat) (hi:I y1 y2 v)
  (hb:∀ (again:A1→A2→World→Prop) x1 x2 w,I x1 x2 w→(∀ gW jU w',I gW jU w'→μ gW jU w'<μ x1 x2 w→again gW jU w')→body again x1 x2 w):iy mk body y1 y2 v:=by
 intro X hX
 suffices ∀ n x1 x2 w,μ x1 x2 w<n→I x1 x2 w→X (mk x1 x2) w from this _ y1 y2 v (Nat.lt_succ_self _) hi
 intro n
 induction n with
 | zero=>intro x1 x2 w h; omega
 | succ n ih=>intro x1 x2 w hn hI; exact hX x1 x2 w (hb _ x1 x2 w hI fun gW jU w' h1 h2=>ih gW jU w' (by omega) h1)
theorem IE {A1 A2 A3:Type} {mk:A1→A2→A3→Fr} {body:(A1→A2→A3→World→Prop)→A1→A2→A3→World→Prop} {y1:A1} {y2:A2} {y3:A3} {v:World} (I:A1→A2→A3→World→Prop) (μ:A1→A2→A3→World→Nat)
  (hi:I y1 y2 y3 v)
  (hb:∀ (again:A1→A2→A3→World→Prop) x1 x2 x3 w,I x1 x2 x3 w→(∀ gW jU mB w',I gW jU mB w'→μ gW jU mB w'<μ x1 x2 x3 w→again gW jU mB w')→body again x1 x2 x3 w):BV mk body y1 y2 y3 v:=by
 intro X hX
 suffices ∀ n x1 x2 x3 w,μ x1 x2 x3 w<n→I x1 x2 x3 w→X (mk x1 x2 x3) w from this _ y1 y2 y3 v (Nat.lt_succ_self _) hi
 intro n
 induction n with
 | zero=>intro x1 x2 x3 w h; omega
 | succ n ih=>intro x1 x2 x3 w hn hI; exact hX x1 x2 x3 w (hb _ x1 x2 x3 w hI fun gW jU mB w' h1 h2=>ih gW jU mB w' (by omega) h1)
theorem cZ {mk:Int→Fr} {body:(Int→World→Prop)→Int→World→Prop} {v:World} {y:Int} (lo hi:Nat) (I:Nat→World→Prop) (hy:y=(lo:Int)) (hle:lo≤hi) (h0:I lo v)
  (step:∀ (again:Int→World→Prop) (i:Nat) w,lo≤i→i<hi→I i w→(∀ w',I (i+1) w'→again ((i:Int)+1) w')→body again (i:Int) w)
  (done:∀ (again:Int→World→Prop) w,I hi w→body again (hi:Int) w):cY mk body y v:=by
 subst hy
 refine y6 (fun x w=>∃ i:Nat,x=(i:Int)∧lo≤i∧i≤hi∧I i w) (fun x _=>hi - x.toNat) ⟨lo,rfl,Nat.le_refl _,hle,h0⟩ ?_
 rintro again x w ⟨i,rfl,h1,h2,h3⟩ aM
 rcases Nat.lt_or_ge i hi with h | h
 ·exact step again i w h1 h h3 fun w' h4=>aM _ w' ⟨i+1,by simp,by omega,by omega,h4⟩ (by omega)
 ·have:i=hi:=by omega
  subst this
  exact done again w h3
theorem k5 {A:Type} {mk:A→Int→Fr} {body:(A→Int→World→Prop)→A→Int→World→Prop} {v:World} {x:A} {y:Int} (lo hi:Nat) (I:Nat→A→World→Prop) (hy:y=(lo:Int)) (hle:lo≤hi) (h0:I lo x v)
  (step:∀ (again:A→Int→World→Prop) (i:Nat) a w,lo≤i→i<hi→I i a w→(∀ a' w',I (i+1) a' w'→again a' ((i:Int)+1) w')→body again a (i:Int) w)
  (done:∀ (again:A→Int→World→Prop) a w,I hi a w→body again a (hi:Int) w):iy mk body x y v:=by
 subst hy
 refine wU (fun a x w=>∃ i:Nat,x=(i:Int)∧lo≤i∧i≤hi∧I i a w) (fun _ x _=>hi - x.toNat) ⟨lo,rfl,Nat.le_refl _,hle,h0⟩ ?_
 rintro again a x w ⟨i,rfl,h1,h2,h3⟩ aM
 rcases Nat.lt_or_ge i hi with h | h
 ·exact step again i a w h1 h h3 fun a' w' h4=>aM a' _ w' ⟨i+1,by simp,by omega,by omega,h4⟩ (by omega)
 ·have:i=hi:=by omega
  subst this
  exact done again a w h3
theorem ajC {A B:Type} {mk:A→B→Int→Fr} {body:(A→B→Int→World→Prop)→A→B→Int→World→Prop} {v:World} {x:A} {z:B} {y:Int} (lo hi:Nat) (I:Nat→A→B→World→Prop) (hy:y=(lo:Int)) (hle:lo≤hi) (h0:I lo x z v)
  (step:∀ (again:A→B→Int→World→Prop) (i:Nat) a b w,lo≤i→i<hi→I i a b w→(∀ a' b' w',I (i+1) a' b' w'→again a' b' ((i:Int)+1) w')→body again a b (i:Int) w)
  (done:∀ (again:A→B→Int→World→Prop) a b w,I hi a b w→body again a b (hi:Int) w):BV mk body x z y v:=by
 subst hy
 refine IE (fun a b x w=>∃ i:Nat,x=(i:Int)∧lo≤i∧i≤hi∧I i a b w) (fun _ _ x _=>hi - x.toNat) ⟨lo,rfl,Nat.le_refl _,hle,h0⟩ ?_
 rintro again a b x w ⟨i,rfl,h1,h2,h3⟩ aM
 rcases Nat.lt_or_ge i hi with h | h
 ·exact step again i a b w h1 h h3 fun a' b' w' h4=>aM a' b' _ w' ⟨i+1,by simp,by omega,by omega,h4⟩ (by omega)
 ·have:i=hi:=by omega
  subst this
  exact done again a b w h3
theorem jV {mk:Fr} {rest:World→Prop} {first:(World→Prop)→Prop} (h:∀ go:World→Prop,(∀ w,rest w→go w)→first go):jL mk rest first:=
 fun K hK=>h _ fun w hw=>hK w hw
theorem jA {A1:Type} {mk:A1→Fr} {rest:A1→World→Prop} {first:(A1→World→Prop)→Prop} (h:∀ go:A1→World→Prop,(∀ x w,rest x w→go x w)→first go):jl mk rest first:=
 fun K hK=>h _ fun x w hw=>hK x w hw
theorem uO {A1 A2:Type} {mk:A1→A2→Fr} {rest:A1→A2→World→Prop} {first:(A1→A2→World→Prop)→Prop} (h:∀ go:A1→A2→World→Prop,(∀ x y w,rest x y w→go x y w)→first go):tC mk rest first:=
 fun K hK=>h _ fun x y w hw=>hK x y w hw
def up {A:Type} (f:A→Nat→A) (s:A) (n:Nat):A:=(List.range n).foldl f s
theorem akP {A:Type} (f:A→Nat→A) (s:A):up f s 0=s:=rfl
theorem l9 {A:Type} (f:A→Nat→A) (s:A) (n:Nat):up f s (n+1)=f (up f s n) n:=by simp [up,List.range_succ]
theorem fm {k:IntKind} {n:Int} {K:Int→Prop} (h:K n):bk k (.int k n) K:=⟨n,rfl,h⟩
theorem bu {b:Bool} {K:Bool→Prop} (h:K b):aW (.bool b) K:=⟨b,rfl,h⟩
theorem ZZ {p:Option Addr} {K:Option Addr→Prop} (h:K p):Cz (.pointer p) K:=⟨p,rfl,h⟩
theorem bW {s:ah} {K:ah→Prop} (h:K s):aT (.slice s.a s.n s.c) K:=⟨s,rfl,h⟩
end Go.Ev
end
section
set_option linter.unusedVariables false
set_option linter.unusedSimpArgs false
namespace Go.Ev
open Go Go.RowKit
abbrev B8:=BitVec 8
abbrev aI:=BitVec 64
def u8 (b:B8):Value:=.int .u8 (b.toNat:Int)
def u64 (x:aI):Value:=.int .u64 (x.toNat:Int)
def bn (l:List B8):List Value:=l.map u8
def cP (l:List aI):List Value:=l.map u64
theorem Xn (l:List B8):∀ v∈bn l,ek v=true:=by
 intro v hv
 obtain ⟨b,-,rfl⟩:=List.mem_map.1 hv
 rfl
theorem WG (l:List aI):∀ v∈cP l,ek v=true:=by
 intro v hv
 obtain ⟨b,-,rfl⟩:=List.mem_map.1 hv
 rfl
@[simp] theorem yN (l:List B8):(bn l).length=l.length:=by simp [bn]
@[simp] theorem yG (l:List aI):(cP l).length=l.length:=by simp [cP]
theorem Xo (l:List aI) (i:Nat) (x:aI):(cP l).set i (u64 x)=cP (l.set i x):=by simp [cP,List.map_set]
theorem QY (l:List aI) (i:Nat) (h:i<l.length):(cP l)[i]? = some (.int .u64 ((l.getD i 0).toNat:Int)):=by
 simp [cP,u64,h]
theorem akQ (l:List B8) (i:Nat) (h:i<l.length):(bn l)[i]? = some (.int .u8 ((l.getD i 0).toNat:Int)):=by
 simp [bn,u8,h]
theorem PN (a b:List B8):bn (a ++ b)=bn a ++ bn b:=by simp [bn]
theorem wrap_u64 (n:Int):IntKind.wrap .u64 n=n % 18446744073709551616:=by simp [IntKind.wrap,IntKind.signed,IntKind.bits]
theorem wrap_u8 (n:Int):IntKind.wrap .u8 n=n % 256:=by simp [IntKind.wrap,IntKind.signed,IntKind.bits]
theorem OX (x:aI):IntKind.wrap .u64 (x.toNat:Int)=x.toNat:=by
 rw [wrap_u64]; have:=x.isLt; omega
theorem ah3 (x:B8):IntKind.wrap .u8 (x.toNat:Int)=x.toNat:=by
 rw [wrap_u8]; have:=x.isLt; omega
theorem wH {n:Nat} (x:BitVec n):BitVec.ofInt n (x.toNat:Int)=x:=by simp
theorem zC (x y:aI):oB .u64 (x.toNat:Int) (y.toNat:Int)=((x ^^^ y).toNat:Int):=by
 unfold oB
 rw [show IntKind.bits .u64=64 from rfl,wH,wH,OX]
theorem Sm (x y:aI):iA .u64 (x.toNat:Int) (y.toNat:Int)=((x &&& y).toNat:Int):=by
 unfold iA
 rw [show IntKind.bits .u64=64 from rfl,wH,wH,OX]
theorem SN (x y:aI):rU .u64 (x.toNat:Int) (y.toNat:Int)=((x ||| y).toNat:Int):=by
 unfold rU
 rw [show IntKind.bits .u64=64 from rfl,wH,wH,OX]
theorem anf (x:aI):JA .u64 (x.toNat:Int)=((~~~ x).toNat:Int):=by
 unfold JA
 rw [show (if IntKind.signed .u64=true then (-1:Int) else IntKind.max .u64)=(((BitVec.allOnes 64).toNat:Nat):Int) from rfl,zC,BitVec.allOnes_xor]
theorem anZ (x y:B8):oB .u8 (x.toNat:Int) (y.toNat:Int)=((x ^^^ y).toNat:Int):=by
 unfold oB
 rw [show IntKind.bits .u8=8 from rfl,wH,wH,ah3]
theorem Jr (x:aI) (k:Nat):shl .u64 (x.toNat:Int) (k:Int)=((x <<< k).toNat:Int):=by
 unfold shl
 rw [wrap_u64,show IntKind.bits .u64=64 from rfl,Int.toNat_natCast,BitVec.toNat_shiftLeft,Nat.shiftLeft_eq]
 have e:(((x.toNat * 2 ^ k % 2 ^ 64:Nat)):Int)=((x.toNat * 2 ^ (min k 64) % 2 ^ 64:Nat):Int):=by
  rcases Nat.le_total k 64 with h | h
  ·rw [Nat.min_eq_left h]
  ·rw [Nat.min_eq_right h]
   obtain ⟨j,rfl⟩:=Nat.exists_eq_add_of_le h
   rw [Nat.pow_add,Nat.mul_left_comm,Nat.mul_mod_right,Nat.mul_mod_left]
 rw [e,Int.natCast_emod,Int.natCast_mul,Int.natCast_pow]
 have gX:((2 ^ 64:Nat):Int)=18446744073709551616:=by decide
 rw [gX]
 rfl
theorem zD (x:aI) (k:Nat):shr .u64 (x.toNat:Int) (k:Int)=((x >>> k).toNat:Int):=by
 unfold shr
 rw [show IntKind.bits .u64=64 from rfl,Int.toNat_natCast,BitVec.toNat_ushiftRight,Nat.shiftRight_eq_div_pow,Int.fdiv_eq_ediv_of_nonneg _ (by exact Int.le_of_lt (Int.pow_pos (by decide)))]
 have e:x.toNat / 2 ^ k=x.toNat / 2 ^ (min k 64):=by
  rcases Nat.le_total k 64 with h | h
  ·rw [Nat.min_eq_left h]
  ·rw [Nat.min_eq_right h,Nat.div_eq_of_lt x.isLt,Nat.div_eq_of_lt (Nat.lt_of_lt_of_le x.isLt (Nat.pow_le_pow_right (by decide) h))]
 rw [e,Int.natCast_ediv,Int.natCast_pow]
 rfl
theorem an0 (b:B8):IntKind.wrap .u64 (b.toNat:Int)=((b.setWidth 64).toNat:Int):=by
 rw [wrap_u64]; have:=b.isLt; rw [BitVec.toNat_setWidth]; omega
theorem aau (x:aI):IntKind.wrap .u8 (x.toNat:Int)=((x.setWidth 8).toNat:Int):=by
 rw [wrap_u8]; simp
theorem toNat_eq {n:Nat} {x y:BitVec n}:((x.toNat:Int)=(y.toNat:Int))↔x=y:=by
 constructor
 ·intro h; exact BitVec.eq_of_toNat_eq (by omega)
 ·intro h; rw [h]
def rotl (x:aI) (k:Nat):aI:=(x <<< (k % 64)) ||| (x >>> (64 - k % 64))
def Bytes (w:World) (s:ah) (l:List B8):Prop:=Sl w s 1 (bn l)
theorem Bytes.len {w:World} {s:ah} {l:List B8} (h:Bytes w s l):l.length=s.n:=by simpa using Sl.len h
theorem Bytes.ld {w:World} {s:ah} {l:List B8} (h:Bytes w s l) {i:Nat} (hi:i<l.length) {K:Int→Prop} (hk:K ((l.getD i 0).toNat:Int)) :
  aU s.a (i:Int) s.n (an .u8 (Addr.add (base s.a) (Int.toNat (i:Int) * 1)) w K):=by
 have hl:=h.len
 refine ⟨⟨h.pre (by omega),by omega,by omega⟩,_,?_,hk⟩
 rw [Int.toNat_natCast,Nat.mul_one]
 exact h.cell i _ (akQ l i hi)
section
variable {w0 w:World} {S:List Nat} {L:List aE}
theorem ak.rJ (H:ak w0 S w L) (k:Nat) {b i:Nat} {a:Addr} {cs:List aI} {t:TypeId} {K:Int→Prop} (hk:L[k]? = some (.av b (cP cs) t)) (ha:a=⟨b,i,none⟩) (hi:i<cs.length) (h:K ((cs.getD i 0).toNat:Int)):Ev.an .u64 a w K:=
 H.an k hk ha (QY cs i hi) h
theorem ak.Cl (H:ak w0 S w L) (k:Nat) {b i:Nat} {a:Addr} {n:Int} {cs:List aI} {t:TypeId} {K:World→Prop} (x:aI) (hk:L[k]? = some (.av b (cP cs) t)) (ha:a=⟨b,i,none⟩) (hi:i<cs.length) (hn:n=(x.toNat:Int))
  (h:∀ w',ak w0 S w' (L.set k (.av b (cP (cs.set i x)) t))→K w'):Ev.st a (.int .u64 n) w K:=by
 subst hn
 refine H.st k hk ha (by simpa using hi) rfl fun w' H'=>h w' ?_
 rw [← Xo]; exact H'
theorem ak.lQ (H:ak w0 S w L) (k:Nat) {b n:Nat} {cs:List aI} {t:TypeId} {K:List Value→Prop} (hk:L[k]? = some (.av b (cP cs) t)) (hn:cs.length=n) (h:K (cP cs)):Ev.iD n ⟨b,0,none⟩ w K:=
 H.iD k hk (by simp [hn]) h
theorem ak.tD (H:ak w0 S w L) (k:Nat) {b n:Nat} {l cs:List aI} {t:TypeId} {K:World→Prop} (hk:L[k]? = some (.av b (cP cs) t)) (hl:l.length=n) (hn:cs.length=n)
  (h:∀ w',ak w0 S w' (L.set k (.av b (cP l) t))→K w'):Ev.kR n ⟨b,0,none⟩ (cP l) w K:=
 H.kR k hk (by simp [hl]) (by simp [hn]) (WG l) h
end
theorem yO {l:List aI} {K:List Value→Prop} (h:K (cP l)):jY (.agg ⟨cP l⟩) K:=⟨_,rfl,h⟩
end Go.Ev
end
section
set_option linter.unusedVariables false
set_option linter.unusedSimpArgs false
namespace Go.Proofs.YtgjoehgomjgckaaGreatDoor
open Go Go.Ev
abbrev g (a:List aI) (i:Nat):aI:=a.getD i 0
def fU:List aI:=List.replicate 25 0
def z24:List aI:=List.replicate 24 0
def z5:List aI:=List.replicate 5 0
theorem zK:zc Pr dQ=cP fU:=by kernel_rfl
theorem an1:zc Pr OP=cP z24:=by kernel_rfl
theorem zc5:zc Pr DN=cP z5:=by kernel_rfl
theorem UP (x:aI) (k:Nat) (w:World):Ok Pr GM [.int .u64 (x.toNat:Int),.int .i64 (k:Int)] w fun v w'=>v=.int .u64 ((rotl x k).toNat:Int)∧w'=w:=by
 refine ace ?_
 unfold KR
 have e1:iA .u64 (IntKind.wrap .u64 (k:Int)) (63:Int)=((k % 64:Nat):Int):=by
  rw [wrap_u64,show ((k:Int) % 18446744073709551616)=((BitVec.ofNat 64 k).toNat:Int) by rw [BitVec.toNat_ofNat]; omega,show (63:Int)=((63#64).toNat:Int) from rfl,Sm,BitVec.toNat_and,
   show (63#64).toNat=2 ^ 6 - 1 from rfl,Nat.and_two_pow_sub_one_eq_mod,BitVec.toNat_ofNat]
  omega
 have e2:IntKind.wrap .u64 ((64:Int) - ((k % 64:Nat):Int))=((64 - k % 64:Nat):Int):=by
  rw [wrap_u64]; omega
 rw [e1,Go.Ev.lt,e2]
 refine ⟨?_,rfl⟩
 rw [Jr,zD,SN]
 rfl
theorem A0 (x y:Nat) (hx:x<1000) (hy:y<1000) (w:World):Ok Pr wF [.int .i64 (x:Int),.int .i64 (y:Int)] w fun v w'=>v=.int .i64 ((x % 5+5 * (y % 5):Nat):Int)∧w'=w:=by
 refine ae7 ?_
 unfold OW aF
 refine ⟨by omega,by omega,⟨by omega,by omega⟩,⟨by omega,by omega⟩,?_,rfl⟩
 rfl
def Yj (a c:List aI) (i:Nat):List aI:=c.set (i % 5) (g c (i % 5) ^^^ g a i)
def rK (a:List aI) (n:Nat):List aI:=up (Yj a) z5 n
def WH (c b:List aI) (i:Nat):List aI:=b.set i (g b i ^^^ (g c ((i % 5+4) % 5) ^^^ rotl (g c ((i % 5+1) % 5)) 1))
def qy (a:List aI) (n:Nat):List aI:=up (WH (rK a 25)) a n
theorem yU {A:Type} (f:List A→Nat→List A) (hf:∀ l i,(f l i).length=l.length) (s:List A) (n:Nat):(up f s n).length=s.length:=by
 induction n with
 | zero=>rfl
 | succ n ih=>rw [l9,hf,ih]
theorem OY (a:List aI) (n:Nat):(rK a n).length=5:=yU _ (fun _ _=>List.length_set) _ _
theorem Dz (a:List aI) (n:Nat):(qy a n).length=a.length:=yU _ (fun _ _=>List.length_set) _ _
theorem aiL (a:List aI) (n:Nat):rK a (n+1)=Yj a (rK a n) n:=l9 _ _ _
theorem ah4 (a:List aI) (n:Nat):qy a (n+1)=WH (rK a 25) (qy a n) n:=l9 _ _ _
theorem aet (a:List aI) (ha:a.length=25) (w:World):Ok Pr Ms [.agg ⟨cP a⟩] w fun v w'=>v=.agg ⟨cP (qy a 25)⟩∧Mod [] w w':=by
 refine adw ?_
 unfold Mu
 rw [zK,zc5]
 refine (ak.start w).nw fun b0 w1 H _=>H.nw fun b1 w2 H _=>H.nw fun b2 w3 H _=>H.lQ 0 rfl ha ?_
 refine cZ 0 25 (fun i w'=>ak w [] w' [.av b0 (cP a) dQ,.av b1 (cP fU) dQ,.av b2 (cP (rK a i)) DN]) rfl (by omega) H ?_ ?_
 ·intro again i w4 _ hi H aM
  refine ite_true (by simp; omega) ⟨⟨by omega,by omega⟩,_,QY a i (by omega),by omega,⟨by omega,by omega⟩,?_⟩
  refine H.rJ 2 (i:=i % 5) rfl (ad b2 (i % 5)) (by rw [OY]; omega) ⟨⟨by omega,by omega⟩,?_⟩
  refine H.Cl 2 (i:=i % 5) (g (rK a i) (i % 5) ^^^ g a i) rfl (ad b2 (i % 5)) (by rw [OY]; omega) (zC _ _) fun w5 H=>⟨⟨by omega,by omega⟩,?_⟩
  exact aM w5 (by rw [aiL]; exact H)
 ·intro again w4 H
  refine ite_false (by simp) ?_
  refine cZ 0 25 (fun i w'=>ak w [] w' [.av b0 (cP (qy a i)) dQ,.av b1 (cP fU) dQ,.av b2 (cP (rK a 25)) DN]) rfl (by omega) H ?_ ?_
  ·intro again i w5 _ hi H aM
   have h5:∀ j,j % 5<(rK a 25).length:=fun j=>by rw [OY]; omega
   have ht:i<(qy a i).length:=by rw [Dz]; omega
   refine ite_true (by simp; omega) ⟨by omega,⟨by omega,by omega⟩,?_⟩
   refine H.drew.rJ 0 (i:=i) rfl (ad b0 i) ht ⟨⟨by omega,by omega⟩,by omega,⟨by omega,by omega⟩,?_⟩
   refine H.drew.rJ 2 (i:=(i % 5+4) % 5) rfl (ad b2 _) (h5 _) ⟨⟨by omega,by omega⟩,by omega,⟨by omega,by omega⟩,?_⟩
   refine H.drew.rJ 2 (i:=(i % 5+1) % 5) rfl (ad b2 _) (h5 _) ?_
   refine aB (UP _ 1 _) ?_
   rintro _ _ ⟨rfl,rfl⟩
   refine fm ⟨H.drew.kept (Mod.refl _ _) 2 rfl (ad b2 ((i % 5+4) % 5)) 1,H.drew.kept (Mod.refl _ _) 0 rfl (ad b0 i) 1,⟨by omega,by omega⟩,?_⟩
   refine H.drew.Cl 0 (i:=i) (g (qy a i) i ^^^ (g (rK a 25) ((i % 5+4) % 5) ^^^ rotl (g (rK a 25) ((i % 5+1) % 5)) 1)) rfl (ad b0 i) ht (by rw [zC,zC]) fun w6 H=>⟨⟨by omega,by omega⟩,?_⟩
   exact aM w6 (by rw [ah4]; exact H)
  ·intro again w5 H
   refine ite_false (by simp) ?_
   refine H.lQ 0 rfl (by rw [Dz,ha]) (H.tD 1 rfl (by rw [Dz,ha]) rfl fun w6 H=>H.lQ 1 rfl (by rw [Dz,ha]) ⟨rfl,H.mod⟩)
def pl (x y:Nat):Nat:=x % 5+5 * (y % 5)
theorem B0 (x y:Nat):pl x y<25:=by unfold pl; omega
def D7 (s:List aI×Nat×Nat) (t:Nat):List aI×Nat×Nat:=(s.1.set (pl s.2.1 s.2.2) (rotl (g s.1 (pl s.2.1 s.2.2)) ((t+1) * (t+2) / 2 % 64)),s.2.2,(2 * s.2.1+3 * s.2.2) % 5)
def tN (a:List aI) (n:Nat):List aI×Nat×Nat:=up D7 (a,1,0) n
theorem WI (a:List aI) (n:Nat):tN a (n+1)=D7 (tN a n) n:=l9 _ _ _
theorem Yk (a:List aI) (n:Nat):(tN a n).1.length=a.length∧(tN a n).2.1<5∧(tN a n).2.2<5:=by
 induction n with
 | zero=>exact ⟨rfl,(by show 1<5; omega),(by show 0<5; omega)⟩
 | succ n ih=>
  rw [WI]
  obtain ⟨h1,h2,h3⟩:=ih
  exact ⟨by simp only [D7,List.length_set,h1],h3,by simp only [D7]; omega⟩
def cN (a:List aI):List aI:=(tN a 24).1
theorem Wf (a:List aI):(cN a).length=a.length:=(Yk a 24).1
theorem afO (a:List aI) (ha:a.length=25) (w:World):Ok Pr NK [.agg ⟨cP a⟩] w fun v w'=>v=.agg ⟨cP (cN a)⟩∧Mod [] w w':=by
 refine aes ?_
 unfold NR
 rw [zK]
 refine (ak.start w).nw fun b0 w1 H _=>H.nw fun b1 w2 H _=>?_
 refine ajC 1 25 (fun t x y w'=>x=((tN a (t - 1)).2.1:Int)∧y=((tN a (t - 1)).2.2:Int)∧ak w [] w' [.av b0 (cP (tN a (t - 1)).1) dQ,.av b1 (cP fU) dQ]) rfl (by omega) ⟨rfl,rfl,H⟩ ?_ ?_
 ·rintro again t _ _ w3 h1 hi ⟨rfl,rfl,H⟩ aM
  obtain ⟨t,rfl⟩:∃ k,t=k+1:=⟨t - 1,by omega⟩
  rw [Nat.add_sub_cancel] at H ⊢
  obtain ⟨h2,h3,h4⟩:=Yk a t
  rcases hs:tN a t with ⟨b,x,y⟩
  rw [hs] at H h2 h3 h4
  dsimp only at H h2 h3 h4 ⊢
  have hp:=B0 x y
  refine ite_true (by simp; omega) ?_
  refine aB (A0 x y (by omega) (by omega) _) ?_
  rintro _ _ ⟨rfl,rfl⟩
  refine fm ⟨⟨by omega,by unfold pl at hp; omega⟩,?_⟩
  refine H.rJ 0 (i:=pl x y) rfl (ad b0 (pl x y)) (by omega) ?_
  have hm:((t:Int)+1) * ((t:Int)+1+1)=(((t+1) * (t+2):Nat):Int):=by push_cast; rfl
  have tW:(t+1) * (t+2)≤25 * 26:=Nat.mul_le_mul (by omega) (by omega)
  have e2:(((t+1:Nat):Int)) * (((t+1:Nat):Int)+1)=(((t+1) * (t+2):Nat):Int):=by push_cast; rfl
  rw [e2]
  refine ⟨⟨by omega,by omega⟩,⟨by omega,by omega⟩,⟨by omega,by simp only [IntKind.max,IntKind.signed,IntKind.bits]; omega⟩,by omega,?_⟩
  refine aB (UP _ ((t+1) * (t+2) / 2 % 64) _) ?_
  rintro _ _ ⟨rfl,rfl⟩
  refine fm ⟨⟨by omega,by unfold pl at hp; omega⟩,?_⟩
  refine H.Cl 0 (i:=pl x y) (rotl (g b (pl x y)) ((t+1) * (t+2) / 2 % 64)) rfl (ad b0 (pl x y)) (by omega) rfl fun w6 H=>?_
  refine ⟨⟨by omega,by omega⟩,⟨by omega,by omega⟩,⟨by omega,by omega⟩,by omega,⟨by omega,by omega⟩,?_⟩
  exact aM _ _ w6 (by rw [Nat.add_sub_cancel,WI,hs]; exact ⟨rfl,by simp only [D7]; push_cast; rfl,H⟩)
 ·rintro again _ _ w3 ⟨rfl,rfl,H⟩
  have hl:=Wf a
  refine ite_false (by simp) ?_
  exact H.lQ 0 rfl (hl.trans ha) (H.tD 1 rfl (hl.trans ha) rfl fun w6 H=>H.lQ 1 rfl (hl.trans ha) ⟨rfl,H.mod⟩)
def Y9 (a b:List aI) (x y:Nat):List aI:=b.set (pl x y) (g a (pl (x+3 * y) x))
def B3 (a:List aI) (y:Nat) (b:List aI) (n:Nat):List aI:=up (fun b x=>Y9 a b x y) b n
def pi (a:List aI) (n:Nat):List aI:=up (fun b y=>B3 a y b 5) fU n
theorem Vy (a:List aI) (y:Nat) (b:List aI) (n:Nat):(B3 a y b n).length=b.length:=yU _ (fun _ _=>List.length_set) _ _
theorem Bt (a:List aI) (n:Nat):(pi a n).length=25:=yU _ (fun _ _=>Vy _ _ _ _) _ _
theorem agO (a:List aI) (ha:a.length=25) (w:World):Ok Pr OO [.agg ⟨cP a⟩] w fun v w'=>v=.agg ⟨cP (pi a 5)⟩∧Mod [] w w':=by
 refine ae6 ?_
 unfold OV
 rw [zK]
 refine (ak.start w).nw fun b0 w1 H _=>H.nw fun b1 w2 H _=>H.nw fun b2 w3 H _=>?_
 refine cZ 0 5 (fun y w'=>ak w [] w' [.av b0 (cP a) dQ,.av b1 (cP fU) dQ,.av b2 (cP (pi a y)) dQ]) rfl (by omega) H ?_ ?_
 ·intro again y w4 _ hy H aM
  refine ite_true (by simp; omega) ?_
  refine cZ 0 5 (fun x w'=>ak w [] w' [.av b0 (cP a) dQ,.av b1 (cP fU) dQ,.av b2 (cP (B3 a y (pi a y) x)) dQ]) rfl (by omega) H ?_ ?_
  ·intro again x w5 _ hx H aM
   have hp:=B0 x y
   have hq:=B0 (x+3 * y) x
   refine ite_true (by simp; omega) ?_
   refine aB (A0 x y (by omega) (by omega) _) ?_
   rintro _ _ ⟨rfl,rfl⟩
   refine fm ⟨⟨by omega,by omega⟩,⟨by omega,by omega⟩,?_⟩
   refine aB (A0 (x+3 * y) x (by omega) (by omega) _) ?_
   rintro _ _ ⟨rfl,rfl⟩
   refine fm ⟨⟨by omega,by unfold pl at hq; omega⟩,?_⟩
   refine H.rJ 0 (i:=pl (x+3 * y) x) rfl (ad b0 _) (by omega) ⟨⟨by omega,by unfold pl at hp; omega⟩,?_⟩
   refine H.Cl 2 (i:=pl x y) (g a (pl (x+3 * y) x)) rfl (ad b2 _) (by rw [Vy,Bt]; omega) rfl fun w6 H=>⟨⟨by omega,by omega⟩,?_⟩
   exact aM w6 (by rw [show B3 a y (pi a y) (x+1)=Y9 a (B3 a y (pi a y) x) x y from l9 _ _ _]; exact H)
  ·intro again w5 H
   refine ite_false (by simp) ⟨⟨by omega,by omega⟩,?_⟩
   exact aM w5 (by rw [show pi a (y+1)=B3 a y (pi a y) 5 from l9 _ _ _]; exact H)
 ·intro again w4 H
  refine ite_false (by simp) ?_
  exact H.lQ 2 rfl (Bt _ _) (H.tD 1 rfl (Bt _ _) rfl fun w6 H=>H.lQ 1 rfl (Bt _ _) ⟨rfl,H.mod⟩)
def Yl (a b:List aI) (x y:Nat):List aI:=b.set (pl x y) (g b (pl x y) ^^^ (~~~ g a (pl (x+1) y) &&& g a (pl (x+2) y)))
def xu (a:List aI) (y:Nat) (b:List aI) (n:Nat):List aI:=up (fun b x=>Yl a b x y) b n
def pX (a:List aI) (n:Nat):List aI:=up (fun b y=>xu a y b 5) a n
theorem Vp (a:List aI) (y:Nat) (b:List aI) (n:Nat):(xu a y b n).length=b.length:=yU _ (fun _ _=>List.length_set) _ _
theorem PO (a:List aI) (n:Nat):(pX a n).length=a.length:=yU _ (fun _ _=>Vp _ _ _ _) _ _
theorem afP (a:List aI) (ha:a.length=25) (w:World):Ok Pr NJ [.agg ⟨cP a⟩] w fun v w'=>v=.agg ⟨cP (pX a 5)⟩∧Mod [] w w':=by
 refine aer ?_
 unfold NQ
 rw [zK]
 have hc:∀ n,(pX a n).length=25:=fun n=>(PO a n).trans ha
 refine (ak.start w).nw fun b0 w1 H _=>H.nw fun b1 w2 H _=>H.lQ 0 rfl ha (H.nw fun b2 w3 H _=>H.tD 2 rfl ha rfl fun w4 H=>?_)
 refine cZ 0 5 (fun y w'=>ak w [] w' [.av b0 (cP a) dQ,.av b1 (cP fU) dQ,.av b2 (cP (pX a y)) dQ]) rfl (by omega) H ?_ ?_
 ·intro again y w4 _ hy H aM
  refine ite_true (by simp; omega) ?_
  refine cZ 0 5 (fun x w'=>ak w [] w' [.av b0 (cP a) dQ,.av b1 (cP fU) dQ,.av b2 (cP (xu a y (pX a y) x)) dQ]) rfl (by omega) H ?_ ?_
  ·intro again x w5 _ hx H aM
   have hp:=B0 x y
   have hq:=B0 (x+1) y
   have hr:=B0 (x+2) y
   have hl:(xu a y (pX a y) x).length=25:=by rw [Vp,hc]
   refine ite_true (by simp; omega) ⟨⟨by omega,by omega⟩,⟨by omega,by omega⟩,?_⟩
   refine aB (A0 x y (by omega) (by omega) _) ?_
   rintro _ _ ⟨rfl,rfl⟩
   have H:=H.drew
   refine fm ⟨⟨by omega,by unfold pl at hp; omega⟩,H.rJ 2 (i:=pl x y) rfl (ad b2 _) (by omega) ?_⟩
   refine aB (A0 (x+1) y (by omega) (by omega) _) ?_
   rintro _ _ ⟨rfl,rfl⟩
   refine fm ⟨H.kept (Mod.refl _ _) 2 rfl (ad b2 (pl x y)) 1,⟨by omega,by unfold pl at hq; omega⟩,H.rJ 0 (i:=pl (x+1) y) rfl (ad b0 _) (by omega) ?_⟩
   refine aB (A0 (x+2) y (by omega) (by omega) _) ?_
   rintro _ _ ⟨rfl,rfl⟩
   refine fm ⟨H.kept (Mod.refl _ _) 0 rfl (ad b0 (pl (x+1) y)) 1,H.kept (Mod.refl _ _) 2 rfl (ad b2 (pl x y)) 1,⟨by omega,by unfold pl at hr; omega⟩,H.rJ 0 (i:=pl (x+2) y) rfl (ad b0 _) (by omega) ⟨⟨by omega,by unfold pl at hp; omega⟩,?_⟩⟩
   refine H.Cl 2 (i:=pl x y) (g (xu a y (pX a y) x) (pl x y) ^^^ (~~~ g a (pl (x+1) y) &&& g a (pl (x+2) y))) rfl (ad b2 _) (by omega) (by rw [anf,Sm,zC]) fun w6 H=>⟨⟨by omega,by omega⟩,?_⟩
   exact aM w6 (by rw [show xu a y (pX a y) (x+1)=Yl a (xu a y (pX a y) x) x y from l9 _ _ _]; exact H)
  ·intro again w5 H
   refine ite_false (by simp) ⟨⟨by omega,by omega⟩,?_⟩
   exact aM w5 (by rw [show pX a (y+1)=xu a y (pX a y) 5 from l9 _ _ _]; exact H)
 ·intro again w4 H
  refine ite_false (by simp) ?_
  exact H.lQ 2 rfl (hc _) (H.tD 1 rfl (hc _) rfl fun w6 H=>H.lQ 1 rfl (hc _) ⟨rfl,H.mod⟩)
end Go.Proofs.YtgjoehgomjgckaaGreatDoor
end
section
set_option linter.unusedVariables false
set_option linter.unusedSimpArgs false
namespace Go.Proofs.YtgjoehgomjgckaaGreatDoor
open Go Go.Ev
def words:List aI:=[0x0000000000000001,0x0000000000008082,0x800000000000808A,0x8000000080008000,0x000000000000808B,0x0000000080000001,
 0x8000000080008081,0x8000000000008009,0x000000000000008A,0x0000000000000088,0x0000000080008009,0x000000008000000A,
 0x000000008000808B,0x800000000000008B,0x8000000000008089,0x8000000000008003,0x8000000000008002,0x8000000000000080,
 0x000000000000800A,0x800000008000000A,0x8000000080008081,0x8000000000008080,0x0000000080000001,0x8000000080008008]
def iota (a:List aI) (r:Nat):List aI:=a.set 0 (g a 0 ^^^ g words r)
def round (a:List aI) (r:Nat):List aI:=iota (pX (pi (cN (qy a 25)) 5) 5) r
def perms (a:List aI) (n:Nat):List aI:=up round a n
@[irreducible] def perm (a:List aI):List aI:=perms a 24
theorem Ym (a:List aI):perms a 24=perm a:=by unfold perm; rfl
theorem NS (a:List aI) (r:Nat) (_h:a.length=25):(round a r).length=25:=by
 unfold round iota
 rw [List.length_set,PO,Bt]
theorem Wg (a:List aI) (n:Nat):perms a (n+1)=round (perms a n) n:=l9 _ _ _
theorem Vz (a:List aI) (ha:a.length=25) (n:Nat):(perms a n).length=25:=by
 induction n with
 | zero=>exact ha
 | succ n ih=>rw [Wg,NS _ _ ih]
theorem yH (a:List aI) (ha:a.length=25):(perm a).length=25:=Ym a ▸ Vz a ha 24
theorem ae8 (a:List aI) (ha:a.length=25) (r:Nat) (hr:r<24) (w:World):Ok Pr MR [.agg ⟨cP a⟩,.int .i64 (r:Int)] w fun v w'=>v=.agg ⟨cP (iota a r)⟩∧Mod [] w w':=by
 refine adO ?_
 unfold MV
 rw [zK,an1]
 refine (ak.start w).nw fun b0 w1 H _=>H.nw fun b1 w2 H _=>ite_false (by simp; omega) (H.nw fun b2 w3 H _=>?_)
 refine H.tD 2 (l:=words) rfl rfl rfl fun w4 H=>?_
 refine ⟨⟨by omega,by omega⟩,H.drew.rJ 0 (i:=0) rfl (ad b0 _) (by omega) ⟨⟨by omega,by omega⟩,H.drew.rJ 2 (i:=r) rfl (ad b2 _) (by show r<24; omega) ⟨⟨by omega,by omega⟩,?_⟩⟩⟩
 refine H.drew.Cl 0 (i:=0) (g a 0 ^^^ g words r) rfl (ad b0 _) (by omega) (zC _ _) fun w5 H=>?_
 have hl:(iota a r).length=25:=by simp [iota,ha]
 exact H.lQ 0 rfl hl (H.tD 1 rfl hl rfl fun w6 H=>H.lQ 1 rfl hl ⟨rfl,H.mod⟩)
theorem aeu (a:List aI) (ha:a.length=25) (r:Nat) (hr:r<24) (w:World):Ok Pr Mr [.agg ⟨cP a⟩,.int .i64 (r:Int)] w fun v w'=>v=.agg ⟨cP (round a r)⟩∧Mod [] w w':=by
 refine adv ?_
 unfold Mt
 rw [zK]
 have h1:(qy a 25).length=25:=(Dz _ _).trans ha
 have h2:(cN (qy a 25)).length=25:=(Wf _).trans h1
 have h3:(pi (cN (qy a 25)) 5).length=25:=Bt _ _
 have h4:(pX (pi (cN (qy a 25)) 5) 5).length=25:=(PO _ _).trans h3
 have h5:=NS a r ha
 refine (ak.start w).nw fun b0 w1 H _=>H.nw fun b1 w2 H _=>H.lQ 0 rfl ha ?_
 refine aB (aet a ha _) ?_
 rintro _ w3 ⟨rfl,m⟩
 have H:=H.frame m
 refine yO (aB (afO _ h1 _) ?_)
 rintro _ w4 ⟨rfl,m⟩
 have H:=H.frame m
 refine yO (aB (agO _ h2 _) ?_)
 rintro _ w5 ⟨rfl,m⟩
 have H:=H.frame m
 refine yO (aB (afP _ h3 _) ?_)
 rintro _ w6 ⟨rfl,m⟩
 have H:=H.frame m
 refine yO (aB (ae8 _ h4 r hr _) ?_)
 rintro _ w7 ⟨rfl,m⟩
 have H:=H.frame m
 exact yO (H.tD 1 (l:=round a r) rfl h5 rfl fun w6 H=>H.lQ 1 rfl h5 ⟨rfl,H.mod⟩)
theorem adx (a:List aI) (ha:a.length=25) (w:World):Ok Pr LD [.agg ⟨cP a⟩] w fun v w'=>v=.agg ⟨cP (perm a)⟩∧Mod [] w w':=by
 refine acO ?_
 unfold LG
 rw [zK]
 have hl:=Vz a ha
 refine (ak.start w).nw fun b0 w1 H _=>H.nw fun b1 w2 H _=>?_
 refine cZ 0 24 (fun i w'=>ak w [] w' [.av b0 (cP (perms a i)) dQ,.av b1 (cP fU) dQ]) rfl (by omega) H ?_ ?_
 ·intro again i w3 _ hi H aM
  refine ite_true (by simp; omega) (H.lQ 0 rfl (hl i) (aB (aeu _ (hl i) i hi _) ?_))
  rintro _ w4 ⟨rfl,m⟩
  have H:=H.frame m
  refine yO (H.tD 0 rfl (NS _ _ (hl i)) (hl i) fun w5 H=>⟨⟨by omega,by omega⟩,?_⟩)
  exact aM w5 (by rw [Wg]; exact H)
 ·intro again w3 H
  have hp:=hl 24
  rw [Ym] at H hp
  refine ite_false (by simp) ?_
  refine H.lQ 0 rfl hp ?_
  refine H.tD 1 rfl hp rfl fun w6 H=>?_
  refine H.lQ 1 rfl hp ?_
  refine ⟨rfl,H.mod⟩
end Go.Proofs.YtgjoehgomjgckaaGreatDoor
end
section
set_option linter.unusedVariables false
set_option linter.unusedSimpArgs false
namespace Go.Proofs.YtgjoehgomjgckaaGreatDoor
open Go Go.Ev
set_option maxRecDepth 100000
def alL (r:aI) (_i:Nat):aI:=if (r <<< 1) &&& 256=0 then r <<< 1 else (r <<< 1) ^^^ 256 ^^^ 1 ^^^ 16 ^^^ 32 ^^^ 64
def rcs (n:Nat):aI:=up alL 1 n
def rc (t:Nat):aI:=rcs (t % 255) &&& 1
end Go.Proofs.YtgjoehgomjgckaaGreatDoor
end
section
set_option linter.unusedVariables false
set_option linter.unusedSimpArgs false
namespace Go.Ev
open Go Go.RowKit
variable {P:Program}
theorem nc {a:Addr} {K:Addr→Prop} (h:K a):bA (some a) K:=h
theorem WJ {t:TypeId} {v:Value} {K:Bool→Prop} (h:K false):fB (.iface t v) K:=h
theorem kL {y:Int} {A:Prop} (h:0≤y) (hA:A):gU y A:=by
 unfold gU; split
 ·exact hA
 ·exact ⟨h,hA⟩
theorem Zh {y:Int} {A:Prop} (h:0<y) (hA:A):pos y A:=by
 unfold pos; split
 ·exact hA
 ·exact ⟨h,hA⟩
def aE.no:aE where
 fp:=[]
 ok _:=True
 kC _ _ _ _:=trivial
 lt _ _ b hb:=by cases hb
section
variable {w0 w:World} {S:List Nat} {L:List aE}
theorem ak.alM (H:ak w0 S w L) (k:Nat) {r:aE} (hk:L[k]? = some r):ak w0 S w (L.set k .no):=
 H.iQ (T:=[]) k hk (Mod.refl _ _) (fun b hb=>by cases hb) trivial fun b hb=>by cases hb
theorem ak.fresh (H:ak w0 S w L) (k:Nat) {e:TypeId} {sz:Nat} {s:ah} {vs:List Value} (hk:L[k]? = some (.row e sz s vs)) (hS:∀ b∈s.row,b∉S):Own w w0.heap.size e sz s vs:=by
 obtain ⟨hl,h1 | ⟨g,cap,cur,h1,h2,h3⟩⟩:=H.qE k hk
 ·exact ⟨hl,.inl h1⟩
 ·refine ⟨hl,.inr ⟨g,cap,cur,h1,?_,h3⟩⟩
  have hg:g∈s.row:=by
   obtain ⟨a,n,c⟩:=s
   simp only [ah.v,Value.slice.injEq] at h1
   obtain ⟨rfl,-⟩:=h1
   simp [ah.row]
  exact (H.own k _ hk g hg).resolve_left (hS g hg)
theorem ak.fN (H:ak w0 [] w L) (k:Nat) {e:TypeId} {sz:Nat} {s:ah} {vs:List Value} (hk:L[k]? = some (.row e sz s vs)):Own w w0.heap.size e sz s vs:=H.fresh k hk (fun b _=>by simp)
theorem ak.cB {w':World} (H:ak w0 S w L) (m:Mod [] w w') {e:TypeId} {sz:Nat} {s:ah} {vs:List Value} (h:Own w' w.heap.size e sz s vs):ak w0 S w' (L ++ [.row e sz s vs]):=
 H.push m h.lo fun b hb=>(Own.Er h b hb).1
theorem ak.Zj {w':World} (H:ak w0 S w L) (m:Mod [] w w') {b:Nat} {cs:List Value} {t:TypeId} (h:bX w' b cs t) (hb:w.heap.size≤b):ak w0 S w' (L ++ [.av b cs t]):=
 H.push m h (by simp [aE.av,hb])
theorem ak.fI (H:ak w0 S w L) (k:Nat) {e:TypeId} {sz:Nat} {s:ah} {vs:List Value} (hk:L[k]? = some (.row e sz s vs)):Sl w s sz vs:=(H.qE k hk).sl
theorem bX.sl {b:Nat} {cs:List Value} {t:TypeId} (h:bX w b cs t) (sz n c:Nat) (hn:n * sz≤cs.length) (hc:n≤c):Sl w ⟨some ⟨b,0,none⟩,n,c⟩ sz (cs.take (n * sz)):=by
 refine ⟨by simp only [List.length_take]; omega,hc,fun _=>rfl,fun i v hv=>?_⟩
 show w.cell? (Addr.add ⟨b,0,none⟩ i)=some v
 rw [au,h.cell]
 rw [List.getElem?_take] at hv
 split at hv
 ·exact hv
 ·cases hv
theorem bX.own {b:Nat} {cs:List Value} {t:TypeId} (h:bX w b cs t) (sz n c:Nat) (hl:cs.length=c * sz) (hc:n≤c) (hm:c≤maxLen):Own w 0 t sz ⟨some ⟨b,0,none⟩,n,c⟩ (cs.take (n * sz)):=by
 have:=Nat.mul_le_mul_right sz hc
 exact ⟨by simp only [List.length_take]; omega,.inr ⟨b,c,⟨cs⟩,rfl,Nat.zero_le _,h,hc,hm,hl,rfl⟩⟩
theorem ak.rB (H:ak w0 S w L) (k:Nat) {b:Nat} {cs:List Value} {t:TypeId} (sz n c:Nat) (hk:L[k]? = some (.av b cs t)) (hl:cs.length=c * sz) (hc:n≤c) (hm:c≤maxLen) :
  ak w0 S w (L.set k (.row t sz ⟨some ⟨b,0,none⟩,n,c⟩ (cs.take (n * sz)))):=
 H.iQ (T:=[]) k hk (Mod.refl _ _) (fun b hb=>by cases hb) ((H.av k hk).own sz n c hl hc hm) fun b hb=>.inl hb
theorem ak.Cm (H:ak w0 S w L) (k:Nat) {t ty e t1:TypeId} {sz bytes:Nat} {s:ah} {vs us:List Value} {K:ah→World→Prop} (cz:fh P t e sz bytes) (hk:L[k]? = some (.row e sz s vs)) (hl:us.length=sz)
  (h1:∀ u∈us,ek u=true) (hb:(s.n+1) * bytes≤140737488355328) (hm:s.n+1≤9223372036854775807)
  (h:∀ s' w',ak w0 S w' (L.set k (.row e sz s' (vs ++ us)))→s'.n=s.n+1→K s' w'):Ev.nw t1 us w fun p w5=>cG P [t,t] ty [.slice s.a s.n s.c,.slice (some p) 1 1] w5 K:=by
 refine H.nw fun b w5 H5 _=>?_
 have bO:k<L.length:=(List.getElem?_eq_some_iff.1 hk).1
 have hk5:(L ++ [aE.av b us t1])[k]? = some (.row e sz s vs):=by rw [List.getElem?_append_left bO]; exact hk
 have hb5:=H5.av (cs:=us) (b:=b) (t:=t1) L.length (by simp)
 have dP:=hb5.sl sz 1 1 (by omega) (Nat.le_refl _)
 rw [Nat.one_mul,← hl,List.take_length] at dP
 subst hl
 refine H5.app (x:=⟨some ⟨b,0,none⟩,1,1⟩) k cz hk5 dP h1 hb hm fun s' w' H' hn=>h s' w' ?_ hn
 have:=H'.take L.length
 rw [List.set_append_left _ _ bO,List.take_append_of_le_length (by simp),List.take_of_length_le (by simp)] at this
 exact this
theorem ak.qz (H:ak w0 S w L) (k:Nat) {e:TypeId} {sz:Nat} {s:ah} {vs:List Value} {i:Nat} {a:Addr} {v:Value} {K:World→Prop} (hk:L[k]? = some (.row e sz s vs)) (ha:a=Addr.add (base s.a) i) (hi:i<vs.length) (h1:ek v=true)
  (h:∀ w',ak w0 S w' (L.set k (.row e sz s (vs.set i v)))→K w'):Ev.st a v w K:=by
 subst ha
 have ho:=H.qE k hk
 obtain ⟨sa,sn,sc⟩:=s
 obtain ⟨hl,hv | ⟨g,cap,cur,hv,h2,hg,CD,vM,jo,BZ⟩⟩:=ho
 ·rw [hv.2] at hl; omega
 ·simp only [ah.v,Value.slice.injEq] at hv
  obtain ⟨rfl,-,rfl⟩:=hv
  have an2:bX w g cur.toList e:=hg
  have hic:i<cur.toList.length:=by
   have:vs.length≤cur.toList.length:=by rw [← BZ,List.length_take]; exact Nat.min_le_right _ _
   omega
  show Ev.st (Addr.add ⟨g,0,none⟩ i) v w K
  rw [au]
  refine RI an2 hic h1 fun w' h3 h4 _=>h w' (H.iQ k hk h4 (fun b hb=>.inl (by simpa [aE.row,ah.row] using hb)) ?_ fun b hb=>.inl hb)
  refine ⟨by simpa using hl,.inr ⟨g,sc,⟨cur.toList.set i v⟩,rfl,h2,h3,CD,vM,by simpa using jo,?_⟩⟩
  show (cur.toList.set i v).take (sn * sz)=vs.set i v
  rw [← BZ,List.take_set]
theorem ak.an3 (H:ak w0 S w L) (k:Nat) {b n:Nat} {a:Addr} {cs:List Value} {t:TypeId} {K:List Value→Prop} (hk:L[k]? = some (.av b cs t)) (ha:a=⟨b,0,none⟩) (hn:n≤cs.length) (h:K (cs.take n)):Ev.iD n a w K:=by
 subst ha; exact Yh (H.av k hk) hn h
theorem ak.an4 (H:ak w0 S w L) (k:Nat) {b n:Nat} {a:Addr} {l cs:List Value} {t:TypeId} {K:World→Prop} (hk:L[k]? = some (.av b cs t)) (ha:a=⟨b,0,none⟩) (hl:l.length=n) (hn:n≤cs.length) (h1:∀ v∈l,ek v=true)
  (h:∀ w',ak w0 S w' (L.set k (.av b (l ++ cs.drop n) t))→K w'):Ev.kR n a l w K:=by
 subst ha
 exact X9 (H.av k hk) hl hn h1 fun w' h2 h3 _=>h w' (H.iQ k hk h3 (fun c hc=>.inl hc) h2 (fun c hc=>.inl hc))
theorem ak.Tr (H:ak w0 S w L) {t e:TypeId} {sz bytes:Nat} {l c:Nat} {x y:Int} {K:ah→World→Prop} (cz:fh P t e sz bytes) (hx:x=(l:Int)) (hy:y=(c:Int)) (hlc:l≤c) (hc:c≤9223372036854775807) (hb:bytes * c≤281474976710656)
  (h:∀ b w',ak w0 S w' (L ++ [.row e sz ⟨some ⟨b,0,none⟩,l,c⟩ ((jW c (zc P e)).take (l * sz))])→w0.heap.size≤b→K ⟨some ⟨b,0,none⟩,l,c⟩ w'):j3 P e x y w K:=by
 subst hx hy
 obtain ⟨i,z,hi,hz,jQ,oK,jR⟩:=cz.info
 have RJ:bytesOf P e=bytes:=by unfold bytesOf; rw [hi]; exact oK
 have pY:zc P e=z.cells.toList:=by unfold zc; rw [hi]; simp only [hz]
 have pZ:(zc P e).length=sz:=by rw [pY]; simpa using jR
 have iU:(jW c (zc P e)).length=c * sz:=by
  unfold jW
  rw [List.length_flatten,List.map_replicate,List.sum_replicate_nat,pZ]
 refine ⟨⟨by omega,by omega,by omega,?_⟩,?_⟩
 ·rw [RJ]
  have h1:((bytes:Int) * (c:Int))=((bytes * c:Nat):Int):=by rw [Int.natCast_mul]
  have h2:(2 ^ 48:Int)=281474976710656:=by decide
  rw [h1,h2]
  omega
 ·simp only [Int.toNat_natCast]
  have hm:Mod [] w (w.alloc (.cells ⟨jW c (zc P e)⟩ e)):=Mod.alloc _ _ _
  refine h w.heap.size _ (H.push hm ?_ (by simp [aE.row,ah.row])) H.mod.size
  exact (bX.new w (jW c (zc P e)) e).own sz l c iU hlc (by simp only [maxLen]; omega)
end
theorem Bytes.mod {w w':World} {s:ah} {l:List B8} (h:Bytes w s l) {S:List Nat} (m:Mod S w w') (ho:off S s):Bytes w' s l:=Sl.mod h m ho
theorem Bytes.aG {w w':World} {s:ah} {l:List B8} (h:Bytes w s l) (m:Mod [] w w'):Bytes w' s l:=Sl.aG h m
structure e8 (w:World) (S:List Nat) (s:ah) (ls:List (List B8)):Prop where
 ex:∃ ss:List ah,Sl w s 1 (ss.map ah.v)∧off S s∧ss.length=ls.length∧∀ (i:Nat) (x:ah) (l:List B8),ss[i]? = some x→ls[i]? = some l→Bytes w x l∧off S x
theorem e8.mod {w w':World} {S:List Nat} {s:ah} {ls:List (List B8)} (h:e8 w S s ls) (m:Mod S w w'):e8 w' S s ls:=by
 obtain ⟨ss,h1,h2,h3,h4⟩:=h.ex
 exact ⟨ss,h1.mod m h2,h2,h3,fun i x l hx hl=>⟨(h4 i x l hx hl).1.mod m (h4 i x l hx hl).2,(h4 i x l hx hl).2⟩⟩
theorem e8.new {w:World} {S T:List Nat} {s:ah} {ls:List (List B8)} (h:e8 w S s ls) (hT:∀ b∈T,b∈S∨w.heap.size≤b):e8 w T s ls:=by
 obtain ⟨ss,h1,h2,h3,h4⟩:=h.ex
 have key:∀ {x:ah} {vs:List Value},Sl w x 1 vs→off S x→off T x:=fun {x vs} k1 k2 h0 a ha hb=>by
  rcases hT _ hb with h | h
  ·exact k2 h0 a ha h
  ·have:=k1.block (by omega) h0 ha; omega
 exact ⟨ss,h1,key h1 h2,h3,fun i x l hx hl=>⟨(h4 i x l hx hl).1,key (h4 i x l hx hl).1 (h4 i x l hx hl).2⟩⟩
theorem e8.len {w:World} {S:List Nat} {s:ah} {ls:List (List B8)} (h:e8 w S s ls):s.n=ls.length:=by
 obtain ⟨ss,h1,h2,h3,h4⟩:=h.ex
 have:=h1.len
 simp only [List.length_map] at this
 omega
theorem e8.ld {w:World} {S:List Nat} {s:ah} {ls:List (List B8)} (h:e8 w S s ls) {i:Nat} (hi:i<ls.length) {K:ah→Prop} (hk:∀ x,Bytes w x (ls.getD i [])→off S x→K x) :
  aU s.a (i:Int) s.n (ax (Addr.add (base s.a) (Int.toNat (i:Int) * 1)) w K):=by
 have hn:=h.len
 obtain ⟨ss,h1,h2,h3,h4⟩:=h.ex
 refine ⟨⟨h1.pre (by omega),by omega,by omega⟩,ss[i]'(by omega),?_,?_⟩
 ·rw [Int.toNat_natCast,Nat.mul_one]
  exact h1.cell i _ (by simp [show i<ss.length by omega,ah.v])
 ·have:=h4 i (ss[i]'(by omega)) (ls.getD i []) (by simp [show i<ss.length by omega]) (by simp [hi])
  exact hk _ this.1 this.2
theorem e8.JT {w:World} {S:List Nat} {b:Nat} {x:ah} {l:List B8} {t:TypeId} (h:bX w b [x.v] t) (hb:b∉S) (hx:Bytes w x l) (ho:off S x):e8 w S ⟨some ⟨b,0,none⟩,1,1⟩ [l]:=
 ⟨[x],by simpa using h.sl 1 1 1 (by simp) (by omega),fun _ a ha=>by simp only [Option.some.injEq] at ha; subst ha; exact hb,rfl,fun i y m hy hm=>by
  cases i with
  | zero=>
   simp only [List.getElem?_cons_zero,Option.some.injEq] at hy hm
   subst hy hm; exact ⟨hx,ho⟩
  | succ i=>simp at hy⟩
theorem Bytes.nil (w:World):Bytes w ⟨none,0,0⟩ []:=Sl.nil w 1
theorem Own.bytes {w:World} {lo:Nat} {e:TypeId} {s:ah} {l:List B8} (h:Own w lo e 1 s (bn l)):Bytes w s l:=h.sl
def Jh (x s:ah):Prop:=x.n≤s.n∧∀ a,x.a=some a→∃ a0,s.a=some a0∧a.block=a0.block
theorem Sl.part {w:World} {s:ah} {sz:Nat} {vs:List Value} (h:Sl w s sz vs) (jQ:0<sz) (l k:Nat) (hlk:l≤k) (hk:k≤s.n):Sl w ⟨sub s.a l s.c sz,k - l,s.c - l⟩ sz ((vs.drop (l * sz)).take ((k - l) * sz)):=by
 have hl:=h.len
 have hc:=h.cap
 have e1:k * sz≤s.n * sz:=Nat.mul_le_mul_right _ hk
 have e2:(k - l) * sz=k * sz - l * sz:=Nat.sub_mul _ _ _
 have e3:l * sz≤k * sz:=Nat.mul_le_mul_right _ hlk
 refine ⟨by simp only [List.length_take,List.length_drop]; omega,by show k - l≤s.c - l; omega,fun h0=>?_,fun i v hv=>?_⟩
 ·have h0:0<k - l:=h0
  have:=h.pre (by omega)
  unfold sub; split
  ·exact this
  ·simpa using this
 ·rw [List.getElem?_take] at hv
  split at hv
  ·rename_i hi
   rw [List.getElem?_drop] at hv
   have h1:=h.cell _ v hv
   have bO:l<k:=by
    rcases Nat.lt_or_ge l k with h | h
    ·exact h
    ·rw [show k - l=0 by omega,Nat.zero_mul] at hi; omega
   obtain ⟨a,ha⟩:=Option.isSome_iff_exists.1 (h.pre (by omega))
   have gV:¬ s.c=l:=by omega
   have hb:base s.a=a:=by rw [ha]; rfl
   unfold sub
   rw [if_neg gV,ha]
   show w.cell? ((a.add (l * sz)).add i)=some v
   rw [add_add,← hb]
   exact h1
  ·cases hv
theorem Jh.part (s:ah) (l m sz n c:Nat) (hn:n≤s.n):Jh ⟨sub s.a l m sz,n,c⟩ s:=by
 refine ⟨hn,fun a ha=>?_⟩
 unfold sub at ha
 simp only at ha
 split at ha
 ·exact ⟨a,ha,rfl⟩
 ·cases hs:s.a with
  | none=>rw [hs] at ha; cases ha
  | some a0=>
   rw [hs] at ha
   simp only [Option.map_some,Option.some.injEq] at ha
   subst ha
   exact ⟨a0,rfl,jK _ _⟩
theorem Sl.l {w:World} {s:ah} {sz:Nat} {vs:List Value} {K:ah→Prop} (h:Sl w s sz vs) (jQ:0<sz) (l:Nat) {x:Int} (hx:x=(l:Int)) (hl:l≤s.n)
  (hK:∀ z:ah,z.n=s.n - l→Sl w z sz (vs.drop (l * sz))→Jh z s→K z):jP sz s x K:=by
 subst hx
 refine ⟨⟨by omega,by omega⟩,?_⟩
 simp only [Int.toNat_natCast]
 have:=h.part jQ l s.n hl (Nat.le_refl _)
 rw [List.take_of_length_le (by rw [List.length_drop,h.len,Nat.sub_mul]; exact Nat.le_refl _)] at this
 exact hK _ rfl this (Jh.part _ _ _ _ _ _ (by omega))
theorem IF (l:List B8) (n:Nat):(bn l).take n=bn (l.take n):=by simp [bn,List.map_take]
theorem Xp (l:List B8) (n:Nat):(bn l).drop n=bn (l.drop n):=by simp [bn,List.map_drop]
theorem akR (l:List B8) (i:Nat) (b:B8):(bn l).set i (.int .u8 (b.toNat:Int))=bn (l.set i b):=by simp [bn,u8,List.map_set]
theorem ak.bytes {w0 w:World} {S:List Nat} {L:List aE} (H:ak w0 S w L) (k:Nat) {e:TypeId} {s:ah} {bs:List B8} (hk:L[k]? = some (.row e 1 s (bn bs))):Bytes w s bs:=H.fI k hk
theorem Bytes.some {w:World} {s:ah} {bs:List B8} (h:Bytes w s bs) (h0:0<s.n):s.a.isSome=true:=h.pre h0
theorem ak.vp {P:Program} {w0 w:World} {S:List Nat} {L:List aE} (H:ak w0 S w L) (k:Nat) {t ty e:TypeId} {s x:ah} {vs us:List B8} {K:ah→World→Prop} (cz:fh P t e 1 1) (hk:L[k]? = some (.row e 1 s (bn vs))) (hx:Bytes w x us)
  (hm:s.n+x.n≤100000000000000) (h:∀ s' w',ak w0 S w' (L.set k (.row e 1 s' (bn (vs ++ us))))→s'.n=s.n+x.n→K s' w'):cG P [t,t] ty [.slice s.a s.n s.c,.slice x.a x.n x.c] w K:=
 H.app k cz hk hx (Xn us) (by omega) (by omega) fun s' w' H' hn=>h s' w' (by rw [PN]; exact H') hn
theorem ak.Rr {P:Program} {w0 w:World} {S:List Nat} {L:List aE} (H:ak w0 S w L) (k:Nat) {t ty e t1:TypeId} {s:ah} {vs:List B8} {n:Int} {K:ah→World→Prop} (x:B8) (cz:fh P t e 1 1) (hk:L[k]? = some (.row e 1 s (bn vs))) (hn:n=(x.toNat:Int))
  (hm:s.n≤100000000000000) (h:∀ s' w',ak w0 S w' (L.set k (.row e 1 s' (bn (vs ++ [x]))))→s'.n=s.n+1→K s' w'):Ev.nw t1 [.int .u8 n] w fun p w5=>cG P [t,t] ty [.slice s.a s.n s.c,.slice (some p) 1 1] w5 K:=by
 subst hn
 exact H.Cm k cz hk rfl (by simp [ek]) (by omega) (by omega) fun s' w' H' hn=>h s' w' (by rw [PN]; exact H') hn
theorem ak.mkB {P:Program} {w0 w:World} {S:List Nat} {L:List aE} (H:ak w0 S w L) {t e:TypeId} {sz bytes:Nat} {l c:Nat} {x y:Int} {K:ah→World→Prop} (cz:fh P t e sz bytes) (hx:x=(l:Int)) (hy:y=(c:Int)) (hlc:l≤c) (hc:c≤9223372036854775807) (hb:bytes * c≤281474976710656)
  (h:∀ b w',ak w0 S w' (L ++ [.av b (jW c (zc P e)) e])→w0.heap.size≤b→(jW c (zc P e)).length=c * sz→K ⟨some ⟨b,0,none⟩,l,c⟩ w'):j3 P e x y w K:=by
 subst hx hy
 obtain ⟨i,z,hi,hz,jQ,oK,jR⟩:=cz.info
 have RJ:bytesOf P e=bytes:=by unfold bytesOf; rw [hi]; exact oK
 have pY:zc P e=z.cells.toList:=by unfold zc; rw [hi]; simp only [hz]
 have pZ:(zc P e).length=sz:=by rw [pY]; simpa using jR
 have iU:(jW c (zc P e)).length=c * sz:=by
  unfold jW
  rw [List.length_flatten,List.map_replicate,List.sum_replicate_nat,pZ]
 refine ⟨⟨by omega,by omega,by omega,?_⟩,?_⟩
 ·rw [RJ]
  have h1:((bytes:Int) * (c:Int))=((bytes * c:Nat):Int):=by rw [Int.natCast_mul]
  have h2:(2 ^ 48:Int)=281474976710656:=by decide
  rw [h1,h2]
  omega
 ·simp only [Int.toNat_natCast]
  exact h w.heap.size _ (H.push (Mod.alloc _ _ _) (bX.new w (jW c (zc P e)) e) (by simp [aE.av])) H.mod.size iU
theorem ak.an5 {P:Program} {w0 w:World} {S:List Nat} {L:List aE} (H:ak w0 S w L) (k:Nat) {t ty e:TypeId} {sz bytes b n c:Nat} {x:ah} {cs us:List Value} {K:ah→World→Prop} (cz:fh P t e sz bytes) (hk:L[k]? = some (.av b cs e))
  (jo:cs.length=c * sz) (oA:n+x.n≤c) (hx:Sl w x sz us) (h1:∀ u∈us,ek u=true)
  (h:∀ w',ak w0 S w' (L.set k (.av b (cs.take (n * sz) ++ us ++ cs.drop (n * sz+us.length)) e))→K ⟨some ⟨b,0,none⟩,n+x.n,c⟩ w'):cG P [t,t] ty [.slice (some ⟨b,0,none⟩) n c,.slice x.a x.n x.c] w K:=by
 obtain ⟨i,z,hi,hz,jQ,oK,jR⟩:=cz.info
 have CC:∀ u∈us,u.oneCell'=true:=fun u hu=>by
  have:=h1 u hu
  cases u <;> first | rfl | cases this
 have jE:=hx.len
 have hmul:n * sz+x.n * sz≤c * sz:=by rw [← Nat.add_mul]; exact Nat.mul_le_mul_right _ oA
 have hb:=H.av k hk
 obtain ⟨xa,xn,xc⟩:=x
 cases xa with
 | none=>
  have h0:xn=0:=by
   rcases Nat.eq_zero_or_pos xn with e | e
   ·exact e
   ·cases hx.pre e
  subst h0
  have hu:us=[]:=List.eq_nil_of_length_eq_zero (by simpa using jE)
  subst hu
  have hn:n≤c:=by simpa using oA
  have hr:(Builtin.append_ #[t,t] ty #[.slice (some ⟨b,0,none⟩) n c,.slice none 0 xc]).run P w=.ok (.slice (some ⟨b,0,none⟩) n c) w:=by
   simp [Builtin.append_,run_underlying cz.rV,Go.sizeOf,Go.typeInfo,hi,Builtin.lenOf,Builtin.firstCells,hn,storeCells]
  refine ⟨_,w,hr,⟨some ⟨b,0,none⟩,n,c⟩,rfl,h w ?_⟩
  have:=H.iQ (T:=[]) (r':=.av b cs e) k hk (Mod.refl _ _) (fun b hb=>by cases hb) hb (fun c hc=>.inl hc)
  simpa using this
 | some xa=>
  subst jQ
  have hr:=run_append_room (P:=P) w t ty e i cz.rV hi b n c ⟨cs⟩ hb xa xn xc us jE hx.cell CC oA (by show n * i.size+us.length≤cs.length; rw [jo,jE]; exact hmul)
  refine ⟨_,_,hr,⟨some ⟨b,0,none⟩,n+xn,c⟩,rfl,h _ ?_⟩
  exact H.iQ (T:=[b]) k hk ⟨rfl,rfl,rfl,by simp,fun j _ hj=>setRow_other w b j _ (fun e=>hj (by simp [e]))⟩ (fun c hc=>.inl hc) (setRow_heap w b _ _ e _ hb) (fun c hc=>.inl hc)
end Go.Ev
end
section
set_option linter.unusedVariables false
set_option linter.unusedSimpArgs false
namespace Go.Proofs.YtgjoehgomjgckaaGreatDoor
open Go Go.Ev
theorem iJ:fh Pr bJ bh 1 1:=fh.of (by kernel_rfl)
theorem Zk:IntKind.max .i64=9223372036854775807:=by decide
def Sn (ay at_:Nat) (aQ:B8) (dm:Bool):List Value:=[.int .i64 (ay:Int),.int .u8 (aQ.toNat:Int),.int .i64 (at_:Int),.bool dm]
def gY (ws:List aI) (ay at_:Nat) (aQ:B8) (dm:Bool):List Value:=cP ws ++ Sn ay at_ aQ dm
def flip (ws:List aI) (i:Nat) (b:B8):List aI:=ws.set (i / 8) (g ws (i / 8) ^^^ (b.setWidth 64 <<< (8 * (i % 8))))
theorem wI (ws:List aI) (i:Nat) (b:B8):(flip ws i b).length=ws.length:=by simp [flip]
theorem Ts (b i:Nat):Addr.add (Addr.add ⟨b,0,none⟩ 0) (i * 1)=⟨b,i,none⟩:=by rw [tw,ad]
theorem Cn (b:Nat):Addr.add ⟨b,0,none⟩ 0=⟨b,0,none⟩:=tw _ _ _
section
variable {ws:List aI} {ay at_:Nat} {aQ:B8} {dm:Bool}
theorem Xq (fy:ws.length=25) (i:Nat) (hi:i<25):(gY ws ay at_ aQ dm)[i]? = some (.int .u64 ((g ws i).toNat:Int)):=by
 unfold gY
 rw [List.getElem?_append_left (by simp; omega)]
 exact QY ws i (by omega)
theorem QZ (fy:ws.length=25):(gY ws ay at_ aQ dm)[25]? = some (.int .i64 (ay:Int)):=by
 unfold gY; rw [List.getElem?_append_right (by simp; omega),yG,fy]; rfl
theorem akS (fy:ws.length=25):(gY ws ay at_ aQ dm)[26]? = some (.int .u8 (aQ.toNat:Int)):=by
 unfold gY; rw [List.getElem?_append_right (by simp; omega),yG,fy]; rfl
theorem zw (fy:ws.length=25):(gY ws ay at_ aQ dm)[27]? = some (.int .i64 (at_:Int)):=by
 unfold gY; rw [List.getElem?_append_right (by simp; omega),yG,fy]; rfl
theorem WK (fy:ws.length=25):(gY ws ay at_ aQ dm)[28]? = some (.bool dm):=by
 unfold gY; rw [List.getElem?_append_right (by simp; omega),yG,fy]; rfl
theorem wO (fy:ws.length=25):(gY ws ay at_ aQ dm).length=29:=by simp [gY,Sn,fy]
theorem Ij (fy:ws.length=25) (n:Nat):(gY ws ay at_ aQ dm).set 27 (.int .i64 (n:Int))=gY ws ay n aQ dm:=by
 unfold gY; rw [List.set_append_right _ _ (by simp; omega),yG,fy]; rfl
theorem afQ (fy:ws.length=25) (b:Bool):(gY ws ay at_ aQ dm).set 28 (.bool b)=gY ws ay at_ aQ b:=by
 unfold gY; rw [List.set_append_right _ _ (by simp; omega),yG,fy]; rfl
theorem agP (fy:ws.length=25) (i:Nat) (x:aI) (hi:i<25):(gY ws ay at_ aQ dm).set i (.int .u64 (x.toNat:Int))=gY (ws.set i x) ay at_ aQ dm:=by
 unfold gY; rw [List.set_append_left _ _ (by simp; omega),← Xo]; rfl
theorem ajD (fy:ws.length=25):(gY ws ay at_ aQ dm).take 25=cP ws:=by
 unfold gY; rw [List.take_append_of_le_length (by simp; omega),List.take_of_length_le (by simp; omega)]
theorem ajE (fy:ws.length=25):(gY ws ay at_ aQ dm).drop 25=Sn ay at_ aQ dm:=by
 unfold gY; rw [List.drop_append_of_le_length (by simp; omega),List.drop_of_length_le (by simp; omega),List.nil_append]
end
abbrev uS (w:World) (b:Nat) (ws:List aI) (ay at_:Nat) (aQ:B8) (dm:Bool):Prop:=bX w b (gY ws ay at_ aQ dm) LW
abbrev jF (b:Nat) (ws:List aI) (ay at_:Nat) (aQ:B8) (dm:Bool):aE:=.av b (gY ws ay at_ aQ dm) LW
def So (ay:Int) (aQ:B8):Bool:=decide (8≤ay) && decide (ay≤192) && decide (ay % 8=0) && decide (1≤(aQ.toNat:Int)) && decide ((aQ.toNat:Int)≤127)
theorem ang (x:Int):decide (Int.tmod x 8=0)=decide (x % 8=0):=by
 have:Int.tmod x 8=0↔x % 8=0:=by rw [← Int.dvd_iff_tmod_eq_zero,Int.dvd_iff_emod_eq_zero]
 simp only [this]
theorem Vq (ay:Nat) (aQ:B8) (h:So ay aQ=true) (w:World):Ok Pr Hv [.int .i64 (ay:Int),.int .u8 (aQ.toNat:Int)] w fun v w'=>∃ b,v=.pointer (some ⟨b,0,none⟩)∧uS w' b fU ay 0 aQ false∧w.heap.size≤b∧Mod [] w w':=by
 refine aep ?_
 unfold NO
 rw [ang]
 refine ite_false ?_ (qv fun b w' hb h1 h2 _=>⟨b,rfl,h1,by omega,h2⟩)
 unfold So at h
 simp only [Bool.and_eq_true,decide_eq_true_eq] at h
 simp only [Bool.or_eq_false_iff,decide_eq_false_iff_not,Bool.not_eq_false',decide_eq_true_eq]
 omega
theorem Mv {ws:List aI} {ay at_:Nat} {aQ:B8} {dm:Bool} (fy:ws.length=25) (b i:Nat) (hi:i<200) (x:B8) (w:World) (h:uS w b ws ay at_ aQ dm) :
  Ok Pr C7 [.pointer (some ⟨b,0,none⟩),.int .i64 (i:Int),.int .u8 (x.toNat:Int)] w fun v w'=>v=.tuple ⟨[]⟩∧uS w' b (flip ws i x) ay at_ aQ dm∧Mod [b] w w':=by
 refine acp ?_
 unfold K0
 have H:=ak.Et (r:=jF b ws ay at_ aQ dm) h
 refine ⟨⟨by omega,by rw [Zk]; omega⟩,⟨by omega,by omega⟩,H.drew.an 0 (i:=i / 8) rfl (Ts b (i / 8)) (Xq fy _ (by omega)) ⟨by omega,⟨by omega,by omega⟩,?_⟩⟩
 refine ⟨⟨by omega,by omega⟩,H.drew.st 0 (i:=i / 8) rfl (Ts b (i / 8)) (by rw [wO fy]; omega) rfl fun w1 H=>⟨rfl,?_,H.mod⟩⟩
 have H:=H.av 0 rfl
 rw [an0,show ((8:Int) * ((i:Int) % 8))=((8 * (i % 8):Nat):Int) by omega,Jr,zC,agP fy _ _ (by omega)] at H
 exact H
def eD (ay:Nat) (s:List aI×Nat):List aI×Nat:=if s.2=ay then (perm s.1,0) else s
theorem UZ {ws:List aI} {ay at_:Nat} {aQ:B8} {dm:Bool} (fy:ws.length=25) (b:Nat) (w:World) (h:uS w b ws ay at_ aQ dm) :
  Ok Pr GQ [.pointer (some ⟨b,0,none⟩)] w fun v w'=>v=.tuple ⟨[]⟩∧uS w' b (eD ay (ws,at_)).1 ay (eD ay (ws,at_)).2 aQ dm∧Mod [b] w w':=by
 refine acq ?_
 unfold K1
 have H:=(ak.Et (r:=jF b ws ay at_ aQ dm) h).drew
 refine H.an 0 (i:=27) rfl (au b 27) (zw fy) (H.an 0 (i:=25) rfl (au b 25) (QZ fy) (bU (fun h1=>?_) (fun h1=>?_)))
 ·have h2:at_=ay:=by have:=of_decide_eq_true h1; omega
  rw [eD,if_pos h2]
  refine H.an3 0 rfl (Cn b) (by rw [wO fy]; omega) ?_
  rw [ajD fy]
  refine aB (adx ws fy _) ?_
  rintro _ w1 ⟨rfl,m⟩
  have H:=H.frame m
  refine yO (nc (H.an4 0 rfl (Cn b) (by rw [yG,yH ws fy]) (by rw [wO fy]; omega) (WG _) fun w2 H=>?_))
  rw [ajE fy] at H
  refine ak.st (L:=[jF b (perm ws) ay at_ aQ dm]) H 0 (i:=27) rfl (au b 27) (by rw [wO (yH ws fy)]; omega) rfl fun w3 H=>⟨rfl,?_,H.mod⟩
  have H:=H.av 0 rfl
  rw [show (.int .i64 (0:Int):Value)=.int .i64 ((0:Nat):Int) from rfl,Ij (yH ws fy)] at H
  exact H
 ·have h2:¬ at_=ay:=by have:=of_decide_eq_false h1; omega
  rw [eD,if_neg h2]
  exact ⟨rfl,H.av 0 rfl,H.mod⟩
end Go.Proofs.YtgjoehgomjgckaaGreatDoor
end
section
set_option linter.unusedVariables false
set_option linter.unusedSimpArgs false
namespace Go.Proofs.YtgjoehgomjgckaaGreatDoor
open Go Go.Ev
def qO (ay:Nat) (s:List aI×Nat) (x:B8):List aI×Nat:=eD ay (flip s.1 s.2 x,s.2+1)
def ew (ay:Nat) (s:List aI×Nat) (l:List B8):List aI×Nat:=l.foldl (qO ay) s
theorem wC (ay:Nat) (s:List aI×Nat) (a b:List B8):ew ay s (a ++ b)=ew ay (ew ay s a) b:=List.foldl_append
def Fits (ay:Nat) (s:List aI×Nat):Prop:=s.1.length=25∧s.2<ay
theorem Fits.qO {ay:Nat} {s:List aI×Nat} (h:Fits ay s) (x:B8):Fits ay (qO ay s x):=by
 unfold YtgjoehgomjgckaaGreatDoor.qO eD
 split
 ·exact ⟨yH _ ((wI _ _ _).trans h.1),Nat.lt_of_le_of_lt (Nat.zero_le _) h.2⟩
 ·rename_i hn
  have:=h.2
  exact ⟨(wI _ _ _).trans h.1,by dsimp only at hn ⊢; omega⟩
theorem Fits.ew {ay:Nat}:∀ (l:List B8) {s:List aI×Nat},Fits ay s→Fits ay (ew ay s l)
 | [],_,h=>h
 | x :: r,_,h=>Fits.ew r (h.qO x)
theorem kW {A:Type} (l:List A) (i:Nat) (h:i<l.length) (d:A):l.take (i+1)=l.take i ++ [l.getD i d]:=by
 rw [List.take_succ_eq_append_getElem h]
 simp [h]
theorem UQ {s:List aI×Nat} {ay:Nat} {aQ:B8} (hr:ay≤192) (hs:Fits ay s) (b:Nat) (parts:ah) (ls:List (List B8)) (w:World) (h:uS w b s.1 ay s.2 aQ false) (hp:e8 w [b] parts ls)
  (Eu:parts.n<1000000∧∀ l∈ls,l.length<1000000000) :
  Ok Pr C5 [.pointer (some ⟨b,0,none⟩),.slice parts.a parts.n parts.c] w fun v w'=>v=.nilIface∧uS w' b (ew ay s ls.flatten).1 ay (ew ay s ls.flatten).2 aQ false∧Mod [b] w w':=by
 refine acn ?_
 unfold KZ
 have H:=ak.Et (r:=jF b s.1 ay s.2 aQ false) h
 refine ite_false rfl (nc (H.lZ 0 (i:=28) rfl (au b 28) (WK hs.1) (ite_false rfl ?_)))
 have hn:=hp.len
 let st (j:Nat):=ew ay s (ls.take j).flatten
 refine cZ 0 ls.length (fun j w'=>ak w [b] w' [jF b (st j).1 ay (st j).2 aQ false]) rfl (by omega) H ?_ ?_
 ·intro again j w3 _ hj H aM
  refine ite_true (by rw [hn]; simpa using hj) ?_
  refine (hp.mod H.mod).ld hj fun x hx hxo=>?_
  have bV:=hx.len
  have jr:(ls.getD j []).length<1000000000:=Eu.2 _ (by simp [hj])
  have nL:Fits ay (st j):=hs.ew _
  have H3:=ak.Et (r:=jF b (st j).1 ay (st j).2 aQ false) (H.av 0 rfl)
  refine cZ 0 (ls.getD j []).length (fun i w'=>ak w3 [b] w' [jF b (ew ay (st j) ((ls.getD j []).take i)).1 ay (ew ay (st j) ((ls.getD j []).take i)).2 aQ false]) rfl (by omega) H3 ?_ ?_
  ·intro again i w4 _ hi H4 aM
   have hf:Fits ay (ew ay (st j) ((ls.getD j []).take i)):=nL.ew _
   have hx4:Bytes w4 x (ls.getD j []):=hx.mod H4.mod hxo
   have JG:=H4.av 0 rfl
   have CF:=hf.2
   refine ite_true (by rw [← bV]; simpa using hi) (hx4.ld hi (nc (H4.an 0 (i:=27) rfl (au b 27) (zw hf.1) ?_)))
   refine aB (Mv hf.1 b _ (by omega) _ _ JG) ?_
   rintro _ w5 ⟨rfl,h5,m5⟩
   have H5:=H4.iQ (r':=jF b _ ay _ aQ false) 0 rfl m5 (fun c hc=>.inl hc) h5 (fun c hc=>.inl hc)
   have JU:(flip (ew ay (st j) ((ls.getD j []).take i)).1 (ew ay (st j) ((ls.getD j []).take i)).2 ((ls.getD j []).getD i 0)).length=25:=(wI _ _ _).trans hf.1
   refine nc (H5.an 0 (i:=27) rfl (au b 27) (zw JU) ⟨⟨by omega,by omega⟩,nc (H5.st 0 (i:=27) rfl (au b 27) (by rw [wO JU]; omega) rfl fun w6 H6=>?_)⟩)
   have h6:=H6.av 0 rfl
   rw [show ((ew ay (st j) ((ls.getD j []).take i)).2:Int)+1=(((ew ay (st j) ((ls.getD j []).take i)).2+1:Nat):Int) by omega,Ij JU] at h6
   refine aB (UZ JU b _ h6) ?_
   rintro _ w7 ⟨rfl,h7,m7⟩
   refine ⟨⟨by omega,by omega⟩,aM w7 ?_⟩
   rw [kW _ _ hi 0,wC]
   exact H6.iQ (r':=jF b _ ay _ aQ false) 0 rfl m7 (fun c hc=>.inl hc) h7 (fun c hc=>.inl hc)
  ·intro again w4 H4
   refine ite_false (by rw [← bV]; simp) ⟨⟨by omega,by omega⟩,?_⟩
   refine aM w4 ?_
   have e1:st (j+1)=ew ay (st j) ((ls.getD j []).take (ls.getD j []).length):=by
    simp only [st]
    rw [kW _ _ hj [],List.flatten_append,wC,List.take_length]
    simp
   rw [e1]
   exact H.iQ (r':=jF b _ ay _ aQ false) 0 rfl H4.mod (fun c hc=>.inl hc) (H4.av 0 rfl) (fun c hc=>.inl hc)
 ·intro again w3 H
  have e:ls.take ls.length=ls:=List.take_length
  refine ite_false (by rw [hn]; simp) ⟨rfl,?_,H.mod⟩
  have:=H.av 0 rfl
  simp only [st,e] at this
  exact this
def Ew (s:List aI×Nat):B8:=(g s.1 (s.2 / 8) >>> (8 * (s.2 % 8))).setWidth 8
def zL (ay:Nat) (x:List B8×(List aI×Nat)) (_i:Nat):List B8×(List aI×Nat):=(x.1 ++ [Ew (eD ay x.2)],((eD ay x.2).1,(eD ay x.2).2+1))
def cM (ay:Nat) (s:List aI×Nat) (n:Nat):List B8×(List aI×Nat):=up (zL ay) ([],s) n
theorem A5 (ay:Nat) (s:List aI×Nat) (n:Nat):cM ay s (n+1)=zL ay (cM ay s n) n:=l9 _ _ _
def tG (ay:Nat) (s:List aI×Nat):Prop:=s.1.length=25∧s.2≤ay
theorem tG.eD {ay:Nat} (hr:0<ay) {s:List aI×Nat} (h:tG ay s):Fits ay (eD ay s):=by
 unfold YtgjoehgomjgckaaGreatDoor.eD
 split
 ·exact ⟨yH _ h.1,hr⟩
 ·rename_i hn
  have:=h.2
  exact ⟨h.1,by omega⟩
theorem tG.cM {ay:Nat} (hr:0<ay) {s:List aI×Nat} (h:tG ay s) (n:Nat):tG ay (cM ay s n).2:=by
 induction n with
 | zero=>exact h
 | succ n ih=>
  rw [A5]
  have:=ih.eD hr
  exact ⟨this.1,this.2⟩
theorem U0 (ay:Nat) (s:List aI×Nat) (n:Nat):(cM ay s n).1.length=n:=by
 induction n with
 | zero=>rfl
 | succ n ih=>rw [A5]; simp [zL,ih]
def close (ay:Nat) (aQ:B8) (s:List aI×Nat):List aI×Nat:=(flip (flip s.1 s.2 aQ) (ay - 1) 128,ay)
theorem ae9 (p:Option Addr) (n:Int) (hn:p=none∨n<1∨1048576<n) (w:World):Ok Pr C6 [.pointer p,.int .i64 n] w fun v w'=>v=.slice none 0 0∧w'=w:=by
 refine Uv ?_
 unfold GR
 refine ite_true ?_ ⟨rfl,rfl⟩
 simp only [Bool.or_eq_true,decide_eq_true_eq]
 rcases hn with rfl | h | h
 ·exact .inl (.inl rfl)
 ·exact .inl (.inr h)
 ·exact .inr h
def ready (ay:Nat) (aQ:B8) (dm:Bool) (s:List aI×Nat):List aI×Nat:=if dm then s else close ay aQ s
theorem ah5 (n:Nat):(jW n (zc Pr bh)).take (0 * 1)=bn []:=by simp [bn]
theorem U1 {s:List aI×Nat} {ay:Nat} {aQ:B8} {dm:Bool} (hr0:8≤ay) (hr:ay≤192) (hs:if dm then tG ay s else Fits ay s) (b:Nat) (n:Nat) (hn:1≤n) (hn':n≤1048576) (w:World) (h:uS w b s.1 ay s.2 aQ dm) :
  Ok Pr C6 [.pointer (some ⟨b,0,none⟩),.int .i64 (n:Int)] w fun v w'=>∃ x:ah,v=.slice x.a x.n x.c∧Own w' w.heap.size bh 1 x (bn (cM ay (ready ay aQ dm s) n).1)∧
   uS w' b (cM ay (ready ay aQ dm s) n).2.1 ay (cM ay (ready ay aQ dm s) n).2.2 aQ true∧Mod [b] w w':=by
 refine Uv ?_
 unfold GR
 refine ite_false (by simp; omega) (jV fun go bY=>?_)
 have H:=ak.Et (r:=jF b s.1 ay s.2 aQ dm) h
 have E8:∀ (s':List aI×Nat) (w1:World),s'=ready ay aQ dm s→tG ay s'→ak w [b] w1 [jF b s'.1 ay s'.2 aQ true]→go w1:=by
  rintro s' w1 rfl hg H
  refine bY w1 ?_
  refine H.Tr (l:=0) (c:=n) iJ rfl rfl (Nat.zero_le _) (by omega) (by omega) fun c w2 H hc=>?_
  rw [ah5] at H
  generalize ready ay aQ dm s=r at *
  refine k5 0 n (fun i x w'=>ak w [b] w' [jF b (cM ay r i).2.1 ay (cM ay r i).2.2 aQ true,.row bh 1 x (bn (cM ay r i).1)]∧x.n=i) rfl (by omega) ⟨H,rfl⟩ ?_ ?_
  ·rintro again i x w3 _ hi ⟨H,hx⟩ aM
   have hq:=hg.cM (by omega) i
   have hf:=hq.eD (by omega)
   have hfa:=hf.2
   refine ite_true (by simp; omega) (aB (UZ hq.1 b _ (H.av 0 rfl)) ?_)
   rintro _ w4 ⟨rfl,h4,m4⟩
   have H4:=(H.iQ (r':=jF b _ ay _ aQ true) 0 rfl m4 (fun c hc=>.inl hc) h4 (fun c hc=>.inl hc)).drew
   change ak w [b] _ [jF b (eD ay (cM ay r i).2).1 ay (eD ay (cM ay r i).2).2 aQ true,.row bh 1 x (bn (cM ay r i).1)] at H4
   refine nc (H4.an 0 (i:=27) rfl (au b 27) (zw hf.1) ⟨⟨by omega,by rw [Zk]; omega⟩,nc ⟨⟨by omega,by omega⟩,?_⟩⟩)
   refine H4.an 0 (i:=(eD ay (cM ay r i).2).2 / 8) rfl (Ts b ((eD ay (cM ay r i).2).2 / 8)) (Xq hf.1 _ (by omega)) (nc (H4.an 0 (i:=27) rfl (au b 27) (zw hf.1) ⟨by omega,⟨by omega,by omega⟩,?_⟩))
   refine kL (by omega) ?_
   rw [show ((8:Int) * (((eD ay (cM ay r i).2).2:Int) % 8))=((8 * ((eD ay (cM ay r i).2).2 % 8):Nat):Int) by omega,zD,aau]
   refine H4.Cm 1 iJ rfl rfl (by simp [ek]) (by omega) (by omega) fun x' w6 H6 hx'=>?_
   change ak w [b] _ [jF b (eD ay (cM ay r i).2).1 ay (eD ay (cM ay r i).2).2 aQ true,.row bh 1 x' (bn (cM ay r i).1 ++ [u8 (Ew (eD ay (cM ay r i).2))])] at H6
   refine nc (H6.an 0 (i:=27) rfl (au b 27) (zw hf.1) ⟨⟨by omega,by omega⟩,nc (H6.st 0 (i:=27) rfl (au b 27) (by rw [wO hf.1]; omega) rfl fun w7 H7=>⟨⟨by omega,by omega⟩,?_⟩)⟩)
   refine aM x' w7 ⟨?_,by omega⟩
   rw [show ((eD ay (cM ay r i).2).2:Int)+1=(((eD ay (cM ay r i).2).2+1:Nat):Int) by omega,Ij hf.1] at H7
   rw [A5]
   have e:bn (zL ay (cM ay r i) i).1=bn (cM ay r i).1 ++ [u8 (Ew (eD ay (cM ay r i).2))]:=by
    unfold zL; rw [PN]; rfl
   rw [e]
   exact H7
  ·rintro again x w3 ⟨H,hx⟩
   refine ite_false (by simp) ⟨x,rfl,H.fresh 1 rfl ?_,H.av 0 rfl,H.mod⟩
   intro c hc hcS
   exact H.apart 1 0 _ _ (by omega) rfl rfl c hc (by simpa [aE.av] using hcS)
 refine nc (H.lZ 0 (i:=28) rfl (au b 28) (WK (by cases dm <;> exact hs.1)) ?_)
 cases dm with
 | true=>exact ite_false rfl (E8 s w rfl hs H)
 | false=>
  have hs:Fits ay s:=hs
  have hsa:=hs.2
  have H:=H.drew
  refine ite_true rfl (nc (H.an 0 (i:=27) rfl (au b 27) (zw hs.1) (nc (H.an 0 (i:=26) rfl (au b 26) (akS hs.1) (aB (Mv hs.1 b _ (by omega) _ _ (H.av 0 rfl)) ?_)))))
  rintro _ w3 ⟨rfl,h3,m3⟩
  have H3:=H.iQ (r':=jF b _ ay _ aQ false) 0 rfl m3 (fun c hc=>.inl hc) h3 (fun c hc=>.inl hc)
  have l3:(flip s.1 s.2 aQ).length=25:=(wI _ _ _).trans hs.1
  refine nc (H3.an 0 (i:=25) rfl (au b 25) (QZ l3) ⟨⟨by omega,by omega⟩,?_⟩)
  rw [show ((ay:Int) - 1)=((ay - 1:Nat):Int) by omega]
  refine aB (Mv l3 b (ay - 1) (by omega) 128 _ h3) ?_
  rintro _ w4 ⟨rfl,h4,m4⟩
  have H4:=H3.iQ (r':=jF b _ ay _ aQ false) 0 rfl m4 (fun c hc=>.inl hc) h4 (fun c hc=>.inl hc)
  have l4:(flip (flip s.1 s.2 aQ) (ay - 1) 128).length=25:=(wI _ _ _).trans l3
  refine nc (H4.an 0 (i:=25) rfl (au b 25) (QZ l4) (nc (H4.st 0 (i:=28) rfl (au b 28) (by rw [wO l4]; omega) rfl fun w5 H5=>?_)))
  rw [afQ l4] at H5
  refine nc (H5.st 0 (i:=27) rfl (au b 27) (by show 27<(gY _ _ _ _ _).length; rw [wO l4]; omega) rfl fun w6 H6=>?_)
  refine E8 (close ay aQ s) w6 rfl ⟨l4,Nat.le_refl _⟩ ?_
  rw [Ij l4] at H6
  exact H6
end Go.Proofs.YtgjoehgomjgckaaGreatDoor
end
section
set_option linter.unusedVariables false
set_option linter.unusedSimpArgs false
namespace Go.Proofs.YtgjoehgomjgckaaGreatDoor
open Go Go.Ev
def xG (l:List B8) (a:List aI) (n:Nat):List aI:=up (fun a i=>flip a i (l.getD i 0)) a n
def mix (a:List aI) (l:List B8):List aI:=xG l a l.length
theorem ahl (l:List B8) (a:List aI) (n:Nat):(xG l a n).length=a.length:=yU _ (fun _ _=>wI _ _ _) _ _
def rL (ay:Nat) (l:List B8):List B8:=l ++ List.replicate ((ay - l.length % ay) % ay) 0
theorem ajF {ay:Nat} (hr:0<ay) (l:List B8):(rL ay l).length % ay=0:=by
 unfold rL
 rw [List.length_append,List.length_replicate]
 have h1:=Nat.mod_lt l.length hr
 rcases Nat.eq_zero_or_pos (l.length % ay) with h | h
 ·rw [h,Nat.sub_zero,Nat.mod_self,Nat.add_zero,h]
 ·rw [Nat.mod_eq_of_lt (by omega:ay - l.length % ay<ay),Nat.add_mod,Nat.mod_eq_of_lt (by omega:ay - l.length % ay<ay),show l.length % ay+(ay - l.length % ay)=ay by omega,Nat.mod_self]
def rz (ay:Nat) (aQ:B8) (l:List B8):List B8:=
 let p:=rL ay (l ++ [aQ])
 p.set (p.length - 1) (p.getD (p.length - 1) 0 ^^^ 128)
def blocks (ay:Nat) (p:List B8) (a:List aI) (m:Nat):List aI:=up (fun a j=>perm (mix a ((p.drop (ay * j)).take ay))) a m
theorem afR (ay:Nat) (p:List B8) (m:Nat):(blocks ay p fU m).length=25:=by
 induction m with
 | zero=>rfl
 | succ m ih=>
  rw [show blocks ay p fU (m+1)=perm (mix (blocks ay p fU m) ((p.drop (ay * m)).take ay)) from l9 _ _ _]
  exact yH _ ((ahl _ _ _).trans ih)
def BE (ay:Nat) (x:List B8×List aI) (i:Nat):List B8×List aI:=
 let a:=if 0<i∧i % ay=0 then perm x.2 else x.2
 (x.1 ++ [(g a (i % ay / 8) >>> (8 * (i % 8))).setWidth 8],a)
def outs (ay:Nat) (a:List aI) (n:Nat):List B8×List aI:=up (BE ay) ([],a) n
theorem Iv (ay:Nat) (a:List aI) (n:Nat):outs ay a (n+1)=BE ay (outs ay a n) n:=l9 _ _ _
theorem ahm (ay:Nat) (a:List aI) (ha:a.length=25) (n:Nat):(outs ay a n).1.length=n∧(outs ay a n).2.length=25:=by
 induction n with
 | zero=>exact ⟨rfl,ha⟩
 | succ n ih=>
  rw [Iv]
  refine ⟨by simp [BE,ih.1],?_⟩
  simp only [BE]
  split
  ·exact yH _ ih.2
  ·exact ih.2
def BL (ay:Nat) (aQ:B8) (l:List B8) (n:Nat):List B8:=(outs ay (blocks ay (rz ay aQ l) fU ((rz ay aQ l).length / ay)) n).1
theorem afS (ay:Nat) (aQ:B8) (l:List B8) (n:Nat):(BL ay aQ l n).length=n:=by
 unfold BL
 exact (ahm _ _ (afR _ _ _) _).1
theorem afT (ay:Nat) (aQ:B8) (l:List B8):(rz ay aQ l).length=(rL ay (l ++ [aQ])).length:=by simp [rz]
end Go.Proofs.YtgjoehgomjgckaaGreatDoor
end
section
set_option linter.unusedVariables false
set_option linter.unusedSimpArgs false
namespace Go.Proofs.YtgjoehgomjgckaaGreatDoor
open Go Go.Ev
theorem flip_flip (ws:List aI) (i:Nat) (x y:B8) (h:i / 8<ws.length):flip (flip ws i x) i y=flip ws i (x ^^^ y):=by
 unfold flip
 rw [List.set_set]
 congr 1
 have:g (ws.set (i / 8) (g ws (i / 8) ^^^ BitVec.setWidth 64 x <<< (8 * (i % 8)))) (i / 8)=g ws (i / 8) ^^^ BitVec.setWidth 64 x <<< (8 * (i % 8)):=by
  simp [g,h]
 rw [this,BitVec.xor_assoc,BitVec.setWidth_xor,BitVec.shiftLeft_xor_distrib]
theorem aiM (ws:List aI) (i:Nat):flip ws i 0=ws:=by
 unfold flip
 have h0:(BitVec.setWidth 64 (0:B8)) <<< (8 * (i % 8))=(0:aI):=by
  rw [show BitVec.setWidth 64 (0:B8)=(0:aI) from rfl]; exact BitVec.zero_shiftLeft _
 rw [h0,show g ws (i / 8) ^^^ (0:aI)=g ws (i / 8) from BitVec.xor_zero]
 rcases Nat.lt_or_ge (i / 8) ws.length with h | h
 ·have:g ws (i / 8)=ws[i / 8]:=by simp [g,h]
  rw [this,List.set_getElem_self]
 ·rw [List.set_eq_of_length_le h]
theorem agQ (ay:Nat) (a:List aI) (bl:List B8) (hb:bl.length=ay) (k:Nat) (hk:k<ay):ew ay (a,0) (bl.take k)=(xG bl a k,k):=by
 induction k with
 | zero=>rfl
 | succ k ih=>
  rw [kW _ _ (by omega) 0,wC,ih (by omega)]
  show eD ay (flip (xG bl a k) k (bl.getD k 0),k+1)=_
  unfold eD
  rw [if_neg (by show ¬ k+1=ay; omega),show xG bl a (k+1)=flip (xG bl a k) k (bl.getD k 0) from l9 _ _ _]
theorem afU (ay:Nat) (hr:0<ay) (a:List aI) (bl:List B8) (hb:bl.length=ay):ew ay (a,0) bl=(perm (mix a bl),0):=by
 obtain ⟨k,rfl⟩:∃ k,ay=k+1:=⟨ay - 1,by omega⟩
 have e:bl=bl.take k ++ [bl.getD k 0]:=by rw [← kW _ _ (by omega) 0,← hb,List.take_length]
 have h1:=agQ (k+1) a bl hb k (by omega)
 have h2:mix a bl=flip (xG bl a k) k (bl.getD k 0):=by unfold mix; rw [hb]; exact l9 _ _ _
 rw [h2]
 conv=>lhs; rw [e]
 rw [wC,h1]
 show eD (k+1) (flip (xG bl a k) k (bl.getD k 0),k+1)=_
 unfold eD
 rw [if_pos rfl]
theorem afV (ay:Nat) (hr:0<ay) (p:List B8) (m:Nat) (hm:ay * m≤p.length):ew ay (fU,0) (p.take (ay * m))=(blocks ay p fU m,0):=by
 induction m with
 | zero=>rfl
 | succ m ih=>
  rw [Nat.mul_add,Nat.mul_one] at hm
  have e:p.take (ay * (m+1))=p.take (ay * m) ++ (p.drop (ay * m)).take ay:=by rw [Nat.mul_add,Nat.mul_one,List.take_add]
  rw [e,wC,ih (by omega),afU ay hr _ _ (by rw [List.length_take,List.length_drop]; omega)]
  rw [show blocks ay p fU (m+1)=perm (mix (blocks ay p fU m) ((p.drop (ay * m)).take ay)) from l9 _ _ _]
theorem aiN (ay:Nat) (hr:0<ay) (l:List B8):∀ (s:List aI×Nat),s.2<ay→(ew ay s l).2=(s.2+l.length) % ay:=by
 induction l with
 | nil=>intro s h; exact (Nat.mod_eq_of_lt h).symm
 | cons x r ih=>
  intro s h
  show (ew ay (qO ay s x) r).2=_
  have h1:(qO ay s x).2<ay∧(qO ay s x).2 % ay=(s.2+1) % ay:=by
   unfold qO eD
   split
   ·rename_i e
    have e':s.2+1=ay:=e
    exact ⟨hr,by rw [e',Nat.mod_self]; rfl⟩
   ·rename_i e
    have e':¬ s.2+1=ay:=e
    exact ⟨by show s.2+1<ay; omega,rfl⟩
  rw [ih _ h1.1,Nat.add_mod,h1.2,← Nat.add_mod,List.length_cons]
  congr 1; omega
theorem VA (ay:Nat) (ws:List aI):∀ (k at_:Nat),at_+k<ay→ew ay (ws,at_) (List.replicate k 0)=(ws,at_+k)
 | 0,at_,_=>rfl
 | k+1,at_,h=>by
  show ew ay (qO ay (ws,at_) 0) (List.replicate k 0)=_
  have e:qO ay (ws,at_) 0=(ws,at_+1):=by
   unfold qO eD
   rw [if_neg (by show ¬ at_+1=ay; omega)]
   show (flip ws at_ 0,at_+1)=_
   rw [aiM]
  rw [e,VA ay ws k (at_+1) (by omega)]
  congr 1; omega
theorem aiO (ay:Nat) (hr:8≤ay) (CG:ay≤192) (aQ:B8) (l:List B8) :
  ew ay (fU,0) (rz ay aQ l)=(perm (close ay aQ (ew ay (fU,0) l)).1,0):=by
 have CF:=aiN ay (by omega) l (fU,0) (by show 0<ay; omega)
 have hf:Fits ay (ew ay (fU,0) l):=Fits.ew l ⟨rfl,by show 0<ay; omega⟩
 rw [Nat.zero_add] at CF
 rcases hs:ew ay (fU,0) l with ⟨ws,at_⟩
 rw [hs] at CF hf
 have CF:at_=l.length % ay:=CF
 have bZ:at_<ay:=hf.2
 have fy:ws.length=25:=hf.1
 obtain ⟨k,hk,hak⟩:∃ k,(ay - (l.length+1) % ay) % ay=k∧at_+1+k=ay:=by
  refine ⟨_,rfl,?_⟩
  have h1:(l.length+1) % ay=(at_+1) % ay:=by rw [CF,Nat.add_mod,Nat.mod_eq_of_lt (by omega:1<ay)]
  rcases Nat.lt_or_ge (at_+1) ay with h | h
  ·rw [h1,Nat.mod_eq_of_lt h,Nat.mod_eq_of_lt (by omega:ay - (at_+1)<ay)]; omega
  ·rw [h1,show at_+1=ay by omega,Nat.mod_self,Nat.sub_zero,Nat.mod_self]; omega
 have hz:rL ay (l ++ [aQ])=l ++ ([aQ] ++ List.replicate k 0):=by
  unfold rL
  rw [List.length_append,List.length_cons,List.length_nil,hk,List.append_assoc]
 have hp:rz ay aQ l=l ++ ([aQ] ++ List.replicate k 0).set k (([aQ] ++ List.replicate k 0).getD k 0 ^^^ 128):=by
  show (rL ay (l ++ [aQ])).set ((rL ay (l ++ [aQ])).length - 1) ((rL ay (l ++ [aQ])).getD ((rL ay (l ++ [aQ])).length - 1) 0 ^^^ 128)=_
  have hlen:(rL ay (l ++ [aQ])).length - 1=l.length+k:=by rw [hz]; simp
  rw [hlen,hz,List.set_append_right _ _ (by omega),Nat.add_sub_cancel_left]
  congr 3
  rw [List.getD_eq_getElem?_getD,List.getD_eq_getElem?_getD,List.getElem?_append_right (by omega),Nat.add_sub_cancel_left]
 rw [hp,wC,hs]
 unfold close
 cases k with
 | zero=>
  show eD ay (flip ws at_ (aQ ^^^ 128),at_+1)=_
  unfold eD
  rw [if_pos (by show at_+1=ay; omega)]
  rw [show ay - 1=at_ by omega,flip_flip _ _ _ _ (by rw [fy]; omega)]
 | succ k=>
  have e:([aQ] ++ List.replicate (k+1) 0).set (k+1) (([aQ] ++ List.replicate (k+1) 0).getD (k+1) 0 ^^^ 128)=[aQ] ++ List.replicate k 0 ++ [128]:=by
   have h1:([aQ] ++ List.replicate (k+1) (0:B8)).getD (k+1) 0=0:=by simp
   rw [h1,List.replicate_succ',← List.append_assoc,List.set_append_right _ _ (by simp)]
   have h2:k+1 - ([aQ] ++ List.replicate k (0:B8)).length=0:=by simp
   rw [h2]
   rfl
  rw [e,wC,wC]
  have e1:ew ay (ws,at_) [aQ]=(flip ws at_ aQ,at_+1):=by
   show eD ay (flip ws at_ aQ,at_+1)=_
   unfold eD
   rw [if_neg (by show ¬ at_+1=ay; omega)]
  rw [e1,VA ay _ k (at_+1) (by omega)]
  show eD ay (flip (flip ws at_ aQ) (at_+1+k) 128,at_+1+k+1)=_
  unfold eD
  rw [if_pos (by show at_+1+k+1=ay; omega)]
  rw [show at_+1+k=ay - 1 by omega]
theorem agR (ay:Nat) (hr:8≤ay) (FI:ay % 8=0) (a:List aI) (n:Nat) :
  (cM ay (a,ay) n).1=(outs ay (perm a) n).1∧(cM ay (a,ay) n).2=(if n=0 then (a,ay) else ((outs ay (perm a) n).2,(n - 1) % ay+1)):=by
 induction n with
 | zero=>exact ⟨rfl,rfl⟩
 | succ n ih=>
  obtain ⟨h1,h2⟩:=ih
  have anh:eD ay (cM ay (a,ay) n).2=((outs ay (perm a) (n+1)).2,n % ay):=by
   rw [h2,Iv]
   simp only [BE]
   cases n with
   | zero=>
    rw [if_pos rfl,if_neg (by omega)]
    unfold eD
    rw [if_pos rfl,Nat.zero_mod]
    rfl
   | succ n=>
    rw [if_neg (by omega)]
    unfold eD
    have bZ:=Nat.mod_lt n (show 0<ay by omega)
    have hm:(n+1) % ay=if n % ay+1=ay then 0 else n % ay+1:=by
     rw [Nat.add_mod,Nat.mod_eq_of_lt (by omega:1<ay)]
     split
     ·rename_i h; rw [h,Nat.mod_self]
     ·rw [Nat.mod_eq_of_lt (by omega)]
    simp only [Nat.add_sub_cancel]
    split
    ·rename_i h
     rw [if_pos h] at hm
     rw [if_pos ⟨by omega,hm⟩,hm]
    ·rename_i h
     rw [if_neg h] at hm
     rw [if_neg (by omega),hm]
  rw [A5]
  unfold zL
  rw [anh]
  refine ⟨?_,?_⟩
  ·show (cM ay (a,ay) n).1 ++ [Ew ((outs ay (perm a) (n+1)).2,n % ay)]=_
   rw [h1]
   conv=>rhs; rw [Iv]
   rw [Iv]
   simp only [BE,Ew]
   rw [Nat.mod_mod_of_dvd n (Nat.dvd_of_mod_eq_zero FI)]
  ·rw [if_neg (by omega),Nat.add_sub_cancel]
theorem WL (ay:Nat) (hr:8≤ay) (CG:ay≤192) (FI:ay % 8=0) (aQ:B8) (l:List B8) (n:Nat) :
  BL ay aQ l n=(cM ay (close ay aQ (ew ay (fU,0) l)) n).1:=by
 have hp:=aiO ay hr CG aQ l
 have hm:ay * ((rz ay aQ l).length / ay)=(rz ay aQ l).length:=by
  have h1:=Nat.div_add_mod (rz ay aQ l).length ay
  have h2:=ajF (show 0<ay by omega) (l ++ [aQ])
  rw [← afT] at h2
  omega
 have hb:=afV ay (by omega) (rz ay aQ l) ((rz ay aQ l).length / ay) (by omega)
 rw [hm,List.take_length,hp] at hb
 unfold BL
 rw [← (Prod.mk.inj hb).1]
 exact (agR ay hr FI _ n).1.symm
end Go.Proofs.YtgjoehgomjgckaaGreatDoor
end
section
set_option linter.unusedVariables false
set_option linter.unusedSimpArgs false
namespace Go.Proofs.YtgjoehgomjgckaaGreatDoor
open Go Go.Ev
def e9 (ay:Nat) (aQ:B8) (l:List B8) (n:Int):List B8:=if 1≤n∧n≤1048576 then BL ay aQ l n.toNat else []
theorem aiP (ay:Nat) (aQ:B8) (l:List B8) (n:Nat) (h:1≤n) (h2:n≤1048576):e9 ay aQ l (n:Int)=BL ay aQ l n:=by
 unfold e9
 rw [if_pos (by omega),Int.toNat_natCast]
theorem NT (ay:Nat) (hr:8≤ay) (CG:ay≤192) (FI:ay % 8=0) (aQ:B8) (hm:So ay aQ=true) (n:Int) (parts:ah) (ls:List (List B8)) (w:World) (hp:e8 w [] parts ls)
  (Eu:parts.n<1000000∧∀ l∈ls,l.length<1000000000) :
  Ok Pr DG [.int .i64 (ay:Int),.int .u8 (aQ.toNat:Int),.int .i64 n,.slice parts.a parts.n parts.c] w fun v w'=>∃ y:ah,v=.slice y.a y.n y.c∧Own w' w.heap.size bh 1 y (bn (e9 ay aQ ls.flatten n))∧Mod [] w w':=by
 refine ae1 ?_
 unfold OQ
 refine aB (Vq ay aQ hm w) ?_
 rintro _ w1 ⟨b,rfl,h1,hb,m1⟩
 have H:=(ak.start w).Zj m1 h1 hb
 have hp1:e8 w1 [b] parts ls:=(hp.new (T:=[b]) fun c hc=>.inr (by simp only [List.mem_singleton] at hc; subst hc; exact hb)).mod m1.of_nil
 refine ZZ (aB (UQ CG (s:=(fU,0)) ⟨rfl,by show 0<ay; omega⟩ b parts ls _ h1 hp1 Eu) ?_)
 rintro _ w2 ⟨rfl,h2,m2⟩
 have hf:Fits ay (ew ay (fU,0) ls.flatten):=Fits.ew _ ⟨rfl,by show 0<ay; omega⟩
 have H2:=H.iQ (r':=jF b _ ay _ aQ false) 0 rfl m2 (fun c hc=>.inl hc) h2 (fun c hc=>.inl hc)
 rcases Decidable.em (1≤n∧n≤1048576) with hn | hn
 ·obtain ⟨k,rfl⟩:∃ k:Nat,n=(k:Int):=⟨n.toNat,by omega⟩
  refine aB (U1 hr CG (dm:=false) (s:=ew ay (fU,0) ls.flatten) hf b k (by omega) (by omega) _ h2) ?_
  rintro _ w3 ⟨x,rfl,hx,h3,m3⟩
  have Tt:Mod [] w w3:=H2.mod.trans' m3 fun c hc=>.inr (by simp only [List.mem_singleton] at hc; subst hc; exact hb)
  refine bW ⟨x,rfl,?_,Tt⟩
  unfold e9
  rw [if_pos hn,Int.toNat_natCast,WL ay hr CG FI]
  obtain ⟨hl,e1 | ⟨gg,cap,cur,e1,e2,e3⟩⟩:=hx
  ·exact ⟨hl,.inl e1⟩
  ·exact ⟨hl,.inr ⟨gg,cap,cur,e1,Nat.le_trans H2.mod.size e2,e3⟩⟩
 ·refine aB (ae9 _ n (.inr (by omega)) _) ?_
  rintro _ _ ⟨rfl,rfl⟩
  refine bW (s:=⟨none,0,0⟩) ⟨⟨none,0,0⟩,rfl,?_,H2.mod⟩
  unfold e9
  rw [if_neg hn]
  exact Own.nil _ _ _ _
def nC (w w':World) (v:Value) (l:List B8):Prop:=∃ y:ah,v=.slice y.a y.n y.c∧Own w' w.heap.size bh 1 y (bn l)∧Mod [] w w'
def Small (parts:ah) (ls:List (List B8)):Prop:=parts.n<1000000∧∀ l∈ls,l.length<1000000000
theorem Lo (n:Int) (parts:ah) (ls:List (List B8)) (w:World) (hp:e8 w [] parts ls) (hs:Small parts ls):Ok Pr sR [.int .i64 n,.slice parts.a parts.n parts.c] w fun v w'=>nC w w' v (e9 136 31 ls.flatten n):=by
 refine acG ?_
 unfold Ly
 refine aB (NT 136 (by omega) (by omega) rfl 31 rfl n parts ls w hp hs) ?_
 rintro _ w1 ⟨y,rfl,h1,h2⟩
 exact bW ⟨y,rfl,h1,h2⟩
theorem LH (parts:ah) (ls:List (List B8)) (w:World) (hp:e8 w [] parts ls) (hs:Small parts ls):Ok Pr Dj [.slice parts.a parts.n parts.c] w fun v w'=>nC w w' v (e9 136 6 ls.flatten 32):=by
 refine adb ?_
 unfold LY
 refine aB (NT 136 (by omega) (by omega) rfl 6 rfl 32 parts ls w hp hs) ?_
 rintro _ w1 ⟨y,rfl,h1,h2⟩
 exact bW ⟨y,rfl,h1,h2⟩
theorem LJ (parts:ah) (ls:List (List B8)) (w:World) (hp:e8 w [] parts ls) (hs:Small parts ls):Ok Pr Dh [.slice parts.a parts.n parts.c] w fun v w'=>nC w w' v (e9 72 6 ls.flatten 64):=by
 refine ada ?_
 unfold LX
 refine aB (NT 72 (by omega) (by omega) rfl 6 rfl 64 parts ls w hp hs) ?_
 rintro _ w1 ⟨y,rfl,h1,h2⟩
 exact bW ⟨y,rfl,h1,h2⟩
def many (n:Int):Nat:=if 1≤n∧n≤1048576 then n.toNat else 0
theorem ajG {l m:List B8} (h:l.length=m.length) (he:∀ i,i<l.length→l.getD i 0=m.getD i 0):l=m:=by
 refine List.ext_getElem h fun i h1 h2=>?_
 have:=he i h1
 simpa [h1,h2] using this
theorem GY (x y:ah) (l m:List B8) (w:World) (hx:Bytes w x l) (hy:Bytes w y m) (hl:l.length<1000000000000):Ok Pr C8 [.slice x.a x.n x.c,.slice y.a y.n y.c] w fun v w'=>v=.bool (decide (l=m))∧Mod [] w w':=by
 refine acN ?_
 unfold LF
 have bV:=hx.len
 have kS:=hy.len
 refine bU (fun h=>?_) (fun h=>?_)
 ·have:l≠m:=fun e=>by
   have:l.length=m.length:=by rw [e]
   simp only [Bool.not_eq_true',decide_eq_false_iff_not] at h
   omega
  exact ⟨by rw [decide_eq_false this],Mod.refl _ _⟩
 ·have hlen:l.length=m.length:=by
   simp only [Bool.not_eq_false',decide_eq_true_eq] at h
   omega
  refine cZ 0 l.length (fun i w'=>Mod [] w w'∧∀ j,j<i→l.getD j 0=m.getD j 0) rfl (by omega) ⟨Mod.refl _ _,fun j h=>by omega⟩ ?_ ?_
  ·rintro again i w1 _ hi ⟨hm,he⟩ aM
   have FH:=hm.trans (Mod.drew [] w1)
   refine ite_true (by rw [← bV]; simpa using hi) ((hx.aG FH).ld hi ((hy.aG FH).ld (by omega) (bU (fun h=>?_) (fun h=>?_))))
   ·have:l≠m:=fun e=>by
     subst e
     simp at h
    exact ⟨by rw [decide_eq_false this],FH⟩
   ·refine ⟨⟨by omega,by omega⟩,aM _ ⟨FH,fun j hj=>?_⟩⟩
    rcases Nat.lt_or_ge j i with h1 | h1
    ·exact he j h1
    ·have:j=i:=by omega
     subst this
     simp only [Bool.not_eq_false',decide_eq_true_eq] at h
     exact toNat_eq.1 h
  ·rintro again w1 ⟨hm,he⟩
   refine ite_false (by rw [← bV]; simp) ⟨by rw [decide_eq_true (ajG hlen he)],hm⟩
end Go.Proofs.YtgjoehgomjgckaaGreatDoor
end
section
set_option linter.unusedVariables false
set_option linter.unusedSimpArgs false
namespace Go.Proofs.YtgjoehgomjgckaaGreatDoor
open Go Go.Ev
def Laid (w:World):Prop:=w.cell? ⟨0,0,none⟩=some (.iface acM (.agg #[.pointer (some ⟨1,akN,none⟩)]))
theorem Laid.mod {w w':World} (h:Laid w) {S:List Nat} (m:Mod S w w') (h0:0∉S):Laid w':=m.cell h h0
theorem Laid.oD {w0 w:World} {S:List Nat} {L:List aE} (h:Laid w0) (H:ak w0 S w L) (h0:0∉S):Laid w:=h.mod H.mod h0
theorem Xr (w:World) (o1 o2 o3 o4:Obj) (p:Nat) (v:Value):Mod [p] w (((((w.alloc o1).alloc o2).alloc o3).alloc o4).setCell ⟨p,0,none⟩ v):=
 ((((Mod.alloc _ w o1).trans (Mod.alloc _ _ o2)).trans (Mod.alloc _ _ o3)).trans (Mod.alloc _ _ o4)).trans (Mod.setCell _ ⟨p,0,none⟩ v)
theorem Xs {w:World} {p:Nat} {u:Value} {t:TypeId} (h:bX w p [u] t) (o1 o2 o3 o4:Obj) (v:Value):bX (((((w.alloc o1).alloc o2).alloc o3).alloc o4).setCell ⟨p,0,none⟩ v) p [v] t:=
 ((((h.aG (Mod.alloc _ _ o1)).aG (Mod.alloc _ _ o2)).aG (Mod.alloc _ _ o3)).aG (Mod.alloc _ _ o4)).set 0 v
theorem aev (e:Addr) (p:Nat) (u:Value) (w:World) (hg:Laid w) (hp:bX w p [u] jy) :
  Ok Pr HC [.iface jy (.pointer (some e)),.iface UO (.pointer (some ⟨p,0,none⟩))] w fun v w'=>v=.bool true∧Mod [p] w w'∧bX w' p [.pointer (some e)] jy:=by
 refine Calls.mono (alD e ⟨p,0,none⟩ u w hg ((hp.cell 0).trans rfl) (hp.frozen 0)) ?_
 rintro _ _ ⟨rfl,rfl⟩
 exact ⟨_,rfl,rfl,Xr _ _ _ _ _ _ _,Xs hp _ _ _ _ _⟩
theorem afa (b:Nat) (c:Int) (p:Nat) (u:Value) (w:World) (hg:Laid w) (hc:w.cell? ⟨b,0,none⟩=some (.int .i64 c)) (hp:bX w p [u] qq) :
  Ok Pr HC [.iface jy (.pointer (some ⟨b,0,none⟩)),.iface Vn (.pointer (some ⟨p,0,none⟩))] w fun v w'=>v=.bool true∧Mod [p] w w'∧bX w' p [.int .i64 c] qq:=by
 refine Calls.mono (akF b c ⟨p,0,none⟩ u w hg hc ((hp.cell 0).trans rfl) (hp.frozen 0)) ?_
 rintro _ _ ⟨rfl,rfl⟩
 exact ⟨_,rfl,rfl,Xr _ _ _ _ _ _ _,Xs hp _ _ _ _ _⟩
theorem afb (b:Nat) (c:Int) (w:World) (hc:w.cell? ⟨b,0,none⟩=some (.int .i64 c)):Ok Pr A9 [.iface jy (.pointer (some ⟨b,0,none⟩)),.iface qq (.int .i64 c)] w fun v w'=>v=.bool true∧w'=w:=by
 refine Calls.mono (X1 b c w hc) ?_
 rintro _ _ ⟨rfl,rfl⟩
 exact ⟨_,rfl,rfl,rfl⟩
theorem akT:zc Pr qq=[.int .i64 0]:=by kernel_rfl
theorem an6:zc Pr jy=[.pointer none]:=by kernel_rfl
theorem VQ (b:Nat) (c:Int) (w:World) (hg:Laid w) (hc:w.cell? ⟨b,0,none⟩=some (.int .i64 c)):Ok Pr DM [.iface jy (.pointer (some ⟨b,0,none⟩))] w fun v w'=>v=.int .i64 c∧Mod [] w w':=by
 refine afM ?_
 unfold PL
 rw [akT]
 refine (ak.start w).nw fun p w1 H hp=>?_
 refine WJ (ite_false rfl (aB (afa b c p _ w1 (hg.oD H (by simp)) (H.mod.o9 hc) (H.av 0 rfl)) ?_))
 rintro _ w2 ⟨rfl,m2,h2⟩
 have H2:=H.iQ (r':=.av p [.int .i64 c] qq) 0 rfl m2 (fun c hc=>.inl hc) h2 (fun c hc=>.inl hc)
 exact bu (ite_true rfl (H2.an 0 rfl rfl rfl ⟨rfl,H2.mod⟩))
theorem agS (w:World):Ok Pr DL [.nilIface] w fun v w'=>v=.int .i64 0∧w'=w:=by
 refine Vo ?_
 unfold Ih
 exact ⟨rfl,rfl⟩
theorem ahn (b:Nat) (c:Int) (s:ByteArray) (w:World) (hg:Laid w) (hb:bX w b [.int .i64 c,.string s] oX) (hc:c≠0):Ok Pr DL [.iface jy (.pointer (some ⟨b,0,none⟩))] w fun v w'=>v=.int .i64 c∧Mod [] w w':=by
 refine Vo ?_
 unfold Ih
 rw [an6]
 have CH:w.cell? ⟨b,0,none⟩=some (.int .i64 c):=(hb.cell 0).trans rfl
 refine WJ (ite_false rfl ((ak.start w).nw fun p w1 H hp=>jV fun go bY=>?_))
 have H:=H.drew
 refine aB (aev ⟨b,0,none⟩ p _ _ (hg.oD H (by simp)) (H.av 0 rfl)) ?_
 rintro _ w3 ⟨rfl,m3,h3⟩
 have H:=H.iQ (r':=.av p [.pointer (some ⟨b,0,none⟩)] jy) 0 rfl m3 (fun c hc=>.inl hc) h3 (fun c hc=>.inl hc)
 have CI:w3.cell? (Addr.add ⟨b,0,none⟩ 0)=some (.int .i64 c):=by rw [Cn]; exact H.mod.o9 CH
 refine bu (H.l5 0 rfl rfl rfl (H.l5 0 rfl rfl rfl (ite_false rfl (nc ⟨c,CI,H.l5 0 rfl rfl rfl (ite_false (decide_eq_false hc) (nc ⟨c,CI,?_⟩))⟩))))
 refine aB (afb b c _ (by rw [← Cn]; exact CI)) ?_
 rintro _ _ ⟨rfl,rfl⟩
 refine bu (H.l5 0 rfl rfl rfl (ite_false rfl (nc ⟨c,CI,?_⟩)))
 refine aB (VQ b c _ (hg.oD H (by simp)) (by rw [← Cn]; exact CI)) ?_
 rintro _ w5 ⟨rfl,m5⟩
 refine fm ⟨yY m5 CI,H.kept m5 0 rfl rfl 1,ite_false (by simp) (bY w5 ?_)⟩
 have H:=H.frame m5
 refine H.l5 0 rfl rfl rfl (nc ⟨c,?_,rfl,H.mod⟩)
 rw [Cn]; exact H.mod.o9 CH
end Go.Proofs.YtgjoehgomjgckaaGreatDoor
end
section
set_option linter.unusedVariables false
set_option linter.unusedSimpArgs false
namespace Go.Proofs.YtgjoehgomjgckaaGreatDoor
open Go Go.Ev Go.ChangeShapes Go.WideShapes Go.ChangeAt Go.RowKit
theorem own:ownKnob Tryz.prog.godebug=none:=by kernel_rfl
theorem laidOut:laidOutB Tryz.prog=true:=by kernel_rfl
theorem et:Tryz.prog.globalNamed "errors.errorType"=some 0:=by kernel_rfl
theorem rt:(Tryz.prog.cutTypes.find? (·.1 == "internal/reflectlite.rtype")).map (·.2)=some 183:=by kernel_rfl
theorem alN:((List.range 352).filter fun t=>Tryz.prog.rowNamed t [101,114,114,111,114])=[41]:=by kernel_rfl
theorem ani:Tryz.prog.types.size=352:=by kernel_rfl
theorem akU {W:World} (h:laidMetH Tryz.prog [("errors.errorType",Rows.laid_errors_errorType)] W):Laid W:=by
 have h':laidMet Tryz.prog [] W∧handlesMet Tryz.prog [("errors.errorType",Rows.laid_errors_errorType)] W:=h
 obtain ⟨name,u,ty,e1,e2,e3,e4,e5⟩:=h'.2 _ (List.mem_singleton.2 rfl)
 have en:name=[101,114,114,111,114]:=(Option.some.inj e1).symm
 subst en
 obtain rfl:=Option.some.inj (rt.symm.trans e2)
 have hm:ty∈(List.range 352).filter fun t=>Tryz.prog.rowNamed t [101,114,114,111,114]:=List.mem_filter.2 ⟨List.mem_range.2 (by rw [← ani]; exact e3),e4⟩
 rw [alN] at hm
 obtain rfl:=List.mem_singleton.1 hm
 have hh:typeHandle Tryz.prog 41=.pointer (some ⟨1,41,none⟩):=by kernel_rfl
 rw [hh] at e5
 have:=World.var?_cell et e5 0
 simpa [Laid] using this
noncomputable def QB (os:Os):World:=
 let w0:=World.holding Tryz.prog os ⟨#[],#[],[]⟩
 { w0 with heap:=w0.heap.modify 0 fun
   | .cells _ t frozen=>.cells #[.iface 183 (.agg #[.pointer (some ⟨1,41,none⟩)])] t frozen
   | o=>o }
theorem afW (os:Os) (args:Array Value):laidMetH Tryz.prog [("errors.errorType",Rows.laid_errors_errorType)] ((QB os).forCall (fun _ _=>0) ⟨#[],args,[]⟩).memory:=
 laidMetH_of_parts (laidMet_nil _ _) (by kernel_rfl)
end Go.Proofs.YtgjoehgomjgckaaGreatDoor
end
section
set_option linter.unusedVariables false
set_option linter.unusedSimpArgs false
namespace Go.Ev
open Go Go.RowKit Go.ChangeShapes Go.WideShapes Go.ChangeAt Go.Deep
variable {H:Type} {enc:TypeId×Value→H} {P:Program} {w:World} {held:Bool}
theorem Zl {k:IntKind} {n:Int} (h:(Lit.int k n).wf=true):k.min≤n∧n≤k.max:=by
 simpa [Lit.wf] using h
theorem afX {s:ah} {xs:List Int} (h:aar w s .u8 xs):Bytes w s (xs.map (BitVec.ofInt 8)):=by
 have e:bn (xs.map (BitVec.ofInt 8))=xs.map (Value.int .u8):=by
  unfold bn
  rw [List.map_map]
  refine List.map_congr_left fun x hx=>?_
  have h1:=h.2 x hx
  have e1:IntKind.min .u8=0:=by decide
  have e2:IntKind.max .u8=255:=by decide
  rw [e1,e2] at h1
  show Value.int .u8 _=_
  congr 1
  rw [BitVec.toNat_ofInt]
  omega
 unfold Bytes
 rw [e]
 exact h.1
end Go.Ev
end
section
set_option linter.unusedVariables false
set_option linter.unusedSimpArgs false
namespace Go.Ev
open Go Go.RowKit
theorem ajH {A1 A2 A3 A4:Type} {mk:A1→A2→A3→A4→Fr} {body:(A1→A2→A3→A4→World→Prop)→A1→A2→A3→A4→World→Prop} {y1:A1} {y2:A2} {y3:A3} {y4:A4} {v:World} (I:A1→A2→A3→A4→World→Prop) (μ:A1→A2→A3→A4→World→Nat) (hi:I y1 y2 y3 y4 v)
  (hb:∀ (again:A1→A2→A3→A4→World→Prop) x1 x2 x3 x4 w,I x1 x2 x3 x4 w→(∀ gW jU mB FJ w',I gW jU mB FJ w'→μ gW jU mB FJ w'<μ x1 x2 x3 x4 w→again gW jU mB FJ w')→body again x1 x2 x3 x4 w):Jp mk body y1 y2 y3 y4 v:=by
 intro X hX
 suffices ∀ n x1 x2 x3 x4 w,μ x1 x2 x3 x4 w<n→I x1 x2 x3 x4 w→X (mk x1 x2 x3 x4) w from this _ y1 y2 y3 y4 v (Nat.lt_succ_self _) hi
 intro n
 induction n with
 | zero=>intro x1 x2 x3 x4 w h; omega
 | succ n ih=>intro x1 x2 x3 x4 w hn hI; exact hX x1 x2 x3 x4 w (hb _ x1 x2 x3 x4 w hI fun gW jU mB FJ w' h1 h2=>ih gW jU mB FJ w' (by omega) h1)
theorem Xt {A1 A2 A3:Type} {mk:A1→A2→A3→Int→Fr} {body:(A1→A2→A3→Int→World→Prop)→A1→A2→A3→Int→World→Prop} {v:World} {z1:A1} {z2:A2} {z3:A3} {y:Int} (lo hi:Nat) (I:Nat→A1→A2→A3→World→Prop) (hy:y=(lo:Int)) (hle:lo≤hi) (h0:I lo z1 z2 z3 v)
  (step:∀ (again:A1→A2→A3→Int→World→Prop) (i:Nat) x1 x2 x3 w,lo≤i→i<hi→I i x1 x2 x3 w→(∀ gW jU mB w',I (i+1) gW jU mB w'→again gW jU mB ((i:Int)+1) w')→body again x1 x2 x3 (i:Int) w)
  (done:∀ (again:A1→A2→A3→Int→World→Prop) x1 x2 x3 w,I hi x1 x2 x3 w→body again x1 x2 x3 (hi:Int) w):Jp mk body z1 z2 z3 y v:=by
 subst hy
 refine ajH (fun x1 x2 x3 x w=>∃ i:Nat,x=(i:Int)∧lo≤i∧i≤hi∧I i x1 x2 x3 w) (fun _ _ _ x _=>hi - x.toNat) ⟨lo,rfl,Nat.le_refl _,hle,h0⟩ ?_
 rintro again x1 x2 x3 x w ⟨i,rfl,h1,h2,h3⟩ aM
 rcases Nat.lt_or_ge i hi with h | h
 ·exact step again i x1 x2 x3 w h1 h h3 fun gW jU mB w' h4=>aM gW jU mB _ w' ⟨i+1,by simp,by omega,by omega,h4⟩ (by omega)
 ·have:i=hi:=by omega
  subst this
  exact done again x1 x2 x3 w h3
theorem ajI {A1 A2 A3:Type} {mk:A1→A2→A3→Fr} {rest:A1→A2→A3→World→Prop} {first:(A1→A2→A3→World→Prop)→Prop} (h:∀ go:A1→A2→A3→World→Prop,(∀ x1 x2 x3 w,rest x1 x2 x3 w→go x1 x2 x3 w)→first go):ZV mk rest first:=
 fun _ hK=>h _ fun x1 x2 x3 w hw=>hK x1 x2 x3 w hw
end Go.Ev
end
section
set_option linter.unusedVariables false
set_option linter.unusedSimpArgs false
namespace Go.Ev
open Go Go.RowKit
variable {P:Program}
def i64 (n:Int):Value:=.int .i64 n
def cu (l:List Int):List Value:=l.map i64
theorem aiQ (l:List Int):∀ v∈cu l,ek v=true:=by
 intro v hv
 obtain ⟨b,-,rfl⟩:=List.mem_map.1 hv
 rfl
@[simp] theorem VR (l:List Int):(cu l).length=l.length:=by simp [cu]
theorem DJ (a b:List Int):cu (a ++ b)=cu a ++ cu b:=by simp [cu]
theorem ajJ (l:List Int) (i:Nat) (x:Int):(cu l).set i (.int .i64 x)=cu (l.set i x):=by simp [cu,i64,List.map_set]
theorem ajK (l:List Int) (i:Nat) (h:i<l.length):(cu l)[i]? = some (.int .i64 (l.getD i 0)):=by simp [cu,i64,h]
theorem WM (l:List Int) (n:Nat):(cu l).take n=cu (l.take n):=by simp [cu,List.map_take]
theorem aiR (l:List Int) (n:Nat):(cu l).drop n=cu (l.drop n):=by simp [cu,List.map_drop]
def dS (w:World) (s:ah) (l:List Int):Prop:=Sl w s 1 (cu l)
theorem dS.len {w:World} {s:ah} {l:List Int} (h:dS w s l):l.length=s.n:=by simpa using Sl.len h
theorem dS.aG {w w':World} {s:ah} {l:List Int} (h:dS w s l) (m:Mod [] w w'):dS w' s l:=Sl.aG h m
theorem dS.some {w:World} {s:ah} {l:List Int} (h:dS w s l) (h0:0<s.n):s.a.isSome=true:=h.pre h0
theorem dS.ld {w:World} {s:ah} {l:List Int} (h:dS w s l) {i:Nat} (hi:i<l.length) {x:Int} (hx:x=(i:Int)) {K:Int→Prop} (hk:K (l.getD i 0)) :
  aU s.a x s.n (an .i64 (Addr.add (base s.a) (Int.toNat x * 1)) w K):=by
 subst hx
 have hl:=h.len
 refine ⟨⟨h.pre (by omega),by omega,by omega⟩,_,?_,hk⟩
 rw [Int.toNat_natCast,Nat.mul_one]
 exact h.cell i _ (ajK l i hi)
theorem Own.dD {w:World} {lo:Nat} {e:TypeId} {s:ah} {l:List Int} (h:Own w lo e 1 s (cu l)):dS w s l:=h.sl
section
variable {w0 w:World} {S:List Nat} {L:List aE}
theorem ak.dD (H:ak w0 S w L) (k:Nat) {e:TypeId} {s:ah} {l:List Int} (hk:L[k]? = some (.row e 1 s (cu l))):dS w s l:=H.fI k hk
theorem ak.rW (H:ak w0 S w L) (k:Nat) {e:TypeId} {s:ah} {l:List Int} {i:Nat} {x n:Int} {K:World→Prop} (hk:L[k]? = some (.row e 1 s (cu l))) (hi:i<l.length) (hx:x=(i:Int))
  (h:∀ w',ak w0 S w' (L.set k (.row e 1 s (cu (l.set i n))))→K w'):aU s.a x s.n (Ev.st (Addr.add (base s.a) (Int.toNat x * 1)) (.int .i64 n) w K):=by
 subst hx
 have hl:=(H.dD k hk).len
 refine ⟨⟨(H.dD k hk).pre (by omega),by omega,by omega⟩,?_⟩
 refine H.qz k hk (i:=i) (by rw [Int.toNat_natCast,Nat.mul_one]) (by simpa using hi) rfl fun w' H'=>h w' ?_
 rw [← ajJ]; exact H'
theorem ak.an7 (H:ak w0 S w L) (k:Nat) {t ty e:TypeId} {s x:ah} {vs us:List Int} {K:ah→World→Prop} (cz:fh P t e 1 8) (hk:L[k]? = some (.row e 1 s (cu vs))) (hx:dS w x us)
  (hm:s.n+x.n≤10000000000000) (h:∀ s' w',ak w0 S w' (L.set k (.row e 1 s' (cu (vs ++ us))))→s'.n=s.n+x.n→K s' w'):cG P [t,t] ty [.slice s.a s.n s.c,.slice x.a x.n x.c] w K:=
 H.app k cz hk hx (aiQ us) (by omega) (by omega) fun s' w' H' hn=>h s' w' (by rw [DJ]; exact H') hn
theorem ak.Sq (H:ak w0 S w L) (k:Nat) {t ty e t1:TypeId} {s:ah} {vs:List Int} {n:Int} {K:ah→World→Prop} (cz:fh P t e 1 8) (hk:L[k]? = some (.row e 1 s (cu vs)))
  (hm:s.n≤10000000000000) (h:∀ s' w',ak w0 S w' (L.set k (.row e 1 s' (cu (vs ++ [n]))))→s'.n=s.n+1→K s' w'):Ev.nw t1 [.int .i64 n] w fun p w5=>cG P [t,t] ty [.slice s.a s.n s.c,.slice (some p) 1 1] w5 K:=
 H.Cm k cz hk rfl (by simp [ek]) (by omega) (by omega) fun s' w' H' hn=>h s' w' (by rw [DJ]; exact H') hn
theorem Xu (n:Nat) (v:Value):jW n [v]=List.replicate n v:=by
 unfold jW
 induction n with
 | zero=>rfl
 | succ n ih=>rw [List.replicate_succ,List.flatten_cons,ih]; rfl
theorem VS (n:Nat):jW n [.int .i64 0]=cu (List.replicate n 0):=by rw [Xu]; simp [cu,i64]
theorem ah6 (n:Nat):jW n [.int .u8 0]=bn (List.replicate n 0):=by rw [Xu]; simp [bn,u8]
theorem ak.JV (H:ak w0 S w L) {t e:TypeId} {n:Nat} {x y:Int} {K:ah→World→Prop} (cz:fh P t e 1 8) (hz:zc P e=[.int .i64 0]) (hx:x=(n:Int)) (hy:y=(n:Int)) (hn:n≤1000000000)
  (h:∀ s w',ak w0 S w' (L ++ [.row e 1 s (cu (List.replicate n 0))])→s.n=n→K s w'):j3 P e x y w K:=by
 refine H.Tr cz hx hy (Nat.le_refl n) (by omega) (by omega) fun b w' H' _=>h _ w' ?_ rfl
 rw [hz,VS,Nat.mul_one,List.take_of_length_le (by simp)] at H'
 exact H'
theorem ak.tZ (H:ak w0 S w L) {t e:TypeId} {n:Nat} {x y:Int} {K:ah→World→Prop} (cz:fh P t e 1 1) (hz:zc P e=[.int .u8 0]) (hx:x=(n:Int)) (hy:y=(n:Int)) (hn:n≤1000000000)
  (h:∀ s w',ak w0 S w' (L ++ [.row e 1 s (bn (List.replicate n 0))])→s.n=n→K s w'):j3 P e x y w K:=by
 refine H.Tr cz hx hy (Nat.le_refl n) (by omega) (by omega) fun b w' H' _=>h _ w' ?_ rfl
 rw [hz,ah6,Nat.mul_one,List.take_of_length_le (by simp)] at H'
 exact H'
end
theorem wrap_i64 {n:Int} (h1:-9223372036854775808≤n) (h2:n<9223372036854775808):IntKind.wrap .i64 n=n:=by
 have e:IntKind.wrap .i64 n=if n % 18446744073709551616 ≥ 9223372036854775808 then n % 18446744073709551616 - 18446744073709551616 else n % 18446744073709551616:=by
  simp [IntKind.wrap,IntKind.signed,IntKind.bits]
 rw [e]
 split <;> omega
theorem SO {a b:Nat} (ha:a<9223372036854775808) (hb:b<9223372036854775808):iA .i64 (a:Int) (b:Int)=((a &&& b:Nat):Int):=by
 unfold iA
 have e:(BitVec.ofInt (IntKind.bits .i64) (a:Int) &&& BitVec.ofInt (IntKind.bits .i64) (b:Int)).toNat=a &&& b:=by
  rw [BitVec.toNat_and]
  show (BitVec.ofInt 64 (a:Int)).toNat &&& (BitVec.ofInt 64 (b:Int)).toNat=_
  rw [BitVec.toNat_ofInt,BitVec.toNat_ofInt]
  congr 1 <;> omega
 rw [e]
 have:a &&& b≤a:=Nat.and_le_left
 exact wrap_i64 (by omega) (by omega)
theorem orN {a b:Nat} (ha:a<9223372036854775808) (hb:b<9223372036854775808):rU .i64 (a:Int) (b:Int)=((a ||| b:Nat):Int):=by
 unfold rU
 have e:(BitVec.ofInt (IntKind.bits .i64) (a:Int) ||| BitVec.ofInt (IntKind.bits .i64) (b:Int)).toNat=a ||| b:=by
  rw [BitVec.toNat_or]
  show (BitVec.ofInt 64 (a:Int)).toNat ||| (BitVec.ofInt 64 (b:Int)).toNat=_
  rw [BitVec.toNat_ofInt,BitVec.toNat_ofInt]
  congr 1 <;> omega
 rw [e]
 have:a ||| b<2 ^ 63:=Nat.or_lt_two_pow (by omega) (by omega)
 exact wrap_i64 (by omega) (by omega)
theorem Co {a k:Nat} (hk:k≤64) (h:a * 2 ^ k<9223372036854775808):shl .i64 (a:Int) (k:Int)=((a * 2 ^ k:Nat):Int):=by
 unfold shl
 rw [Int.toNat_natCast,show IntKind.bits .i64=64 from rfl,Nat.min_eq_left hk]
 have e:((a:Int) * 2 ^ k)=((a * 2 ^ k:Nat):Int):=by rw [Int.natCast_mul,Int.natCast_pow]; rfl
 rw [e]
 exact wrap_i64 (by omega) (by omega)
theorem E9 {a k:Nat} (ha:a<9223372036854775808):shr .i64 (a:Int) (k:Int)=((a / 2 ^ k:Nat):Int):=by
 unfold shr
 rw [show IntKind.bits .i64=64 from rfl,Int.toNat_natCast,Int.fdiv_eq_ediv_of_nonneg _ (by exact Int.le_of_lt (Int.pow_pos (by decide)))]
 have e:a / 2 ^ k=a / 2 ^ (min k 64):=by
  rcases Nat.le_total k 64 with h | h
  ·rw [Nat.min_eq_left h]
  ·rw [Nat.min_eq_right h,Nat.div_eq_of_lt (Nat.lt_of_lt_of_le (show a<2 ^ 64 by omega) (Nat.pow_le_pow_right (by decide) h)),Nat.div_eq_of_lt (by omega)]
 rw [e,Int.natCast_ediv,Int.natCast_pow]
 rfl
def num:List B8→Nat
 | []=>0
 | b :: r=>b.toNat+256 * num r
theorem Wh (l m:List B8):num (l ++ m)=num l+2 ^ (8 * l.length) * num m:=by
 induction l with
 | nil=>simp [num]
 | cons a r ih=>
  simp only [List.cons_append,num,ih,List.length_cons,Nat.mul_add,Nat.mul_one,Nat.pow_add]
  rw [show (2:Nat) ^ 8=256 from rfl]
  generalize 2 ^ (8 * r.length)=p
  have:256 * (p * num m)=p * 256 * num m:=by rw [Nat.mul_comm p 256,Nat.mul_assoc]
  omega
theorem Zm (l:List B8):num l<2 ^ (8 * l.length):=by
 induction l with
 | nil=>simp [num]
 | cons a r ih=>
  simp only [num,List.length_cons,Nat.mul_add,Nat.mul_one,Nat.pow_add]
  rw [show (2:Nat) ^ 8=256 from rfl]
  have:=a.isLt
  generalize 2 ^ (8 * r.length)=p at *
  omega
theorem afY (l:List B8) (k:Nat) (h:k<l.length):num (l.take (k+1))=num (l.take k)+2 ^ (8 * k) * (l.getD k 0).toNat:=by
 rw [List.take_succ_eq_append_getElem h,Wh,List.length_take,Nat.min_eq_left (by omega)]
 simp [num,h]
theorem ajL (l:List B8) (k:Nat) (h:k≤l.length):num l=num (l.take k)+2 ^ (8 * k) * num (l.drop k):=by
 have:=Wh (l.take k) (l.drop k)
 rw [List.take_append_drop,List.length_take,Nat.min_eq_left h] at this
 exact this
theorem Zn (a r c p d:Nat) (h:p+d≤c):(a+2 ^ c * r) / 2 ^ p % 2 ^ d=a / 2 ^ p % 2 ^ d:=by
 obtain ⟨e,rfl⟩:=Nat.exists_eq_add_of_le h
 have e1:2 ^ (p+d+e) * r=2 ^ p * (2 ^ d * (2 ^ e * r)):=by rw [Nat.pow_add,Nat.pow_add]; simp only [Nat.mul_assoc]
 rw [e1,Nat.add_mul_div_left _ _ (Nat.pow_pos (by decide)),Nat.add_mul_mod_self_left]
def uh (N d i:Nat):Nat:=N / 2 ^ (d * i) % 2 ^ d
theorem ajM (l:List B8) (k d i:Nat) (hk:k≤l.length) (h:d * (i+1)≤8 * k):uh (num (l.take k)) d i=uh (num l) d i:=by
 unfold uh
 rw [ajL l k hk,Zn _ _ _ _ _ (by rw [Nat.mul_succ] at h; exact h)]
theorem Zo (N d i:Nat):uh N d i<2 ^ d:=Nat.mod_lt _ (Nat.pow_pos (by decide))
def unpack (d:Nat) (l:List B8):List Int:=(List.range (8 * l.length / d)).map fun i=>((uh (num l) d i:Nat):Int)
theorem akV (x d:Nat):x &&& (2 ^ d - 1)=x % 2 ^ d:=Nat.and_two_pow_sub_one_eq_mod x d
theorem Yn {x n y:Nat} (h:x<2 ^ n):x ||| (y * 2 ^ n)=x+y * 2 ^ n:=by
 rw [Nat.mul_comm y,Nat.or_comm,← Nat.two_pow_add_eq_or_of_lt h,Nat.add_comm]
end Go.Ev
end
section
set_option linter.unusedVariables false
set_option linter.unusedSimpArgs false
namespace Go.Ev
open Go Go.RowKit
theorem ak.add {w0 w:World} {S:List Nat} {L:List aE} {r:aE} (H:ak w0 S w L) (hr:r.ok w) (ho:∀ b∈r.fp,b∈S∨w0.heap.size≤b) (hd:∀ (k:Nat) (s:aE),L[k]? = some s→∀ b∈s.fp,b∉r.fp):ak w0 S w (L ++ [r]):=by
 have e:∀ {k:Nat} {s:aE},(L ++ [r])[k]? = some s→(L[k]? = some s∧k<L.length)∨(s=r∧k=L.length):=fun {k s} h=>by
  rcases Nat.lt_or_ge k L.length with hk | hk
  ·rw [List.getElem?_append_left hk] at h; exact .inl ⟨h,hk⟩
  ·rw [List.getElem?_append_right hk] at h
   rcases Nat.eq_zero_or_pos (k - L.length) with e | e
   ·rw [e] at h; simp at h; exact .inr ⟨h.symm,by omega⟩
   ·rw [List.getElem?_eq_none (by simp; omega)] at h; cases h
 refine ⟨H.mod,fun k s hs=>?_,fun k s hs b hb=>?_,fun j k s t lp hs ht b hb iP=>?_⟩
 ·rcases e hs with ⟨h,_⟩ | ⟨rfl,_⟩
  ·exact H.ok k s h
  ·exact hr
 ·rcases e hs with ⟨h,_⟩ | ⟨rfl,_⟩
  ·exact H.own k s h b hb
  ·exact ho b hb
 ·rcases e hs with ⟨h,_⟩ | ⟨rfl,hj⟩
  ·rcases e ht with ⟨h',_⟩ | ⟨rfl,_⟩
   ·exact H.apart j k s t lp h h' b hb iP
   ·exact hd j s h b hb iP
  ·rcases e ht with ⟨h',_⟩ | ⟨rfl,hk⟩
   ·exact hd k t h' b iP hb
   ·omega
theorem ak.anj {w0 w w':World} {S:List Nat} {L:List aE} {r s:aE} (H:ak w0 S w L) (m:Mod [] w w') (hr:r.ok w') (hs:s.ok w') (hrf:∀ b∈r.fp,w.heap.size≤b) (hsf:∀ b∈s.fp,w.heap.size≤b) (hd:∀ b∈r.fp,b∉s.fp):ak w0 S w' (L ++ [r,s]):=by
 have H1:=H.push m hr hrf
 have H2:=H1.add hs (fun b hb=>.inr (Nat.le_trans H.mod.size (hsf b hb))) fun k t ht b hb iP=>by
  rcases Nat.lt_or_ge k L.length with hk | hk
  ·rw [List.getElem?_append_left hk] at ht
   have:=t.lt w (H.ok k t ht) b hb
   have:=hsf b iP
   omega
  ·rw [List.getElem?_append_right hk] at ht
   rcases Nat.eq_zero_or_pos (k - L.length) with e | e
   ·rw [e] at ht; simp at ht; subst ht; exact hd b hb iP
   ·rw [List.getElem?_eq_none (by simp; omega)] at ht; cases ht
 rw [List.append_assoc] at H2
 exact H2
theorem ak.clone {P:Program} {w0 w:World} {S:List Nat} {L:List aE} (H:ak w0 S w L) {t ty e:TypeId} {sz bytes:Nat} {x:ah} {us:List Value} {K:ah→World→Prop} (cz:fh P t e sz bytes) (hx:Sl w x sz us) (h1:∀ u∈us,ek u=true) (hm:x.n * bytes≤140737488355328) (tW:x.n≤9223372036854775807)
  (h:∀ s' w',ak w0 S w' (L ++ [.row e sz s' us])→s'.n=x.n→K s' w'):cG P [t,t] ty [.slice none 0 0,.slice x.a x.n x.c] w K:=by
 have H1:=H.jk e sz
 refine H1.app (s:=⟨none,0,0⟩) (vs:=[]) L.length cz (by simp) hx h1 (by rw [Nat.zero_add]; exact hm) (by rw [Nat.zero_add]; exact tW) fun s' w' H' hn=>h s' w' ?_ (by rw [hn]; exact Nat.zero_add _)
 rw [List.set_append_right _ _ (Nat.le_refl _),Nat.sub_self,List.nil_append] at H'
 exact H'
theorem ak.RK {P:Program} {w0 w:World} {S:List Nat} {L:List aE} (H:ak w0 S w L) {t ty e:TypeId} {x:ah} {us:List B8} {K:ah→World→Prop} (cz:fh P t e 1 1) (hx:Bytes w x us) (hm:x.n≤10000000000000)
  (h:∀ s' w',ak w0 S w' (L ++ [.row e 1 s' (bn us)])→s'.n=x.n→K s' w'):cG P [t,t] ty [.slice none 0 0,.slice x.a x.n x.c] w K:=
 H.clone cz hx (Xn us) (by omega) (by omega) h
end Go.Ev
namespace Go.Proofs.YtgjoehgomjgckaaGreatDoor
open Go Go.Ev
def fZ (w:World) (e:Value) (c:Int):Prop:=(e=.nilIface∧c=0)∨∃ b s,e=.iface jy (.pointer (some ⟨b,0,none⟩))∧bX w b [.int .i64 c,.string s] oX∧c≠0
def Fh:Value→List Nat
 | .iface _ (.pointer (some a))=>[a.block]
 | _=>[]
def aE.err (e:Value) (c:Int):aE where
 fp:=Fh e
 ok w:=fZ w e c
 kC w w' h k:=by
  rcases k with k | ⟨b,s,rfl,hb,hc⟩
  ·exact .inl k
  ·exact .inr ⟨b,s,rfl,(h b (by simp [Fh])).trans hb,hc⟩
 lt w h b hb:=by
  rcases h with ⟨rfl,_⟩ | ⟨a,s,rfl,h,_⟩
  ·cases hb
  ·simp only [Fh,List.mem_singleton] at hb; subst hb; exact h.lt
def cO (w w':World) (e:Value) (c:Int):Prop:=fZ w' e c∧∀ b∈Fh e,w.heap.size≤b
theorem cO.zero (w w':World):cO w w' .nilIface 0:=⟨.inl ⟨rfl,rfl⟩,fun b hb=>by cases hb⟩
theorem cO.mk {w w':World} {b:Nat} {c:Int} {s:ByteArray} (h:bX w' b [.int .i64 c,.string s] oX) (hb:w.heap.size≤b) (hc:c≠0):cO w w' (.iface jy (.pointer (some ⟨b,0,none⟩))) c:=
 ⟨.inr ⟨b,s,rfl,h,hc⟩,fun a ha=>by simp only [Fh,List.mem_singleton] at ha; subst ha; exact hb⟩
theorem cO.from {w0 w w':World} {e:Value} {c:Int} (h:cO w w' e c) (hs:w0.heap.size≤w.heap.size):cO w0 w' e c:=⟨h.1,fun b hb=>Nat.le_trans hs (h.2 b hb)⟩
theorem fZ.mod {w w':World} {e:Value} {c:Int} (h:fZ w e c) (m:Mod [] w w'):fZ w' e c:=by
 rcases h with k | ⟨b,s,rfl,hb,hc⟩
 ·exact .inl k
 ·exact .inr ⟨b,s,rfl,hb.aG m,hc⟩
theorem fZ.isNil {w:World} {e:Value} {c:Int} (h:fZ w e c) {K:Bool→Prop} (hk:K (decide (c=0))):fB e K:=by
 rcases h with ⟨rfl,rfl⟩ | ⟨b,s,rfl,_,hc⟩
 ·exact hk
 ·rw [decide_eq_false hc] at hk; exact hk
theorem agT (e:Value) (c:Int) (w:World) (hg:Laid w) (h:fZ w e c):Ok Pr DL [e] w fun v w'=>v=.int .i64 c∧Mod [] w w':=by
 rcases h with ⟨rfl,rfl⟩ | ⟨b,s,rfl,hb,hc⟩
 ·refine (agS w).mono ?_
  rintro _ _ ⟨rfl,rfl⟩
  exact ⟨rfl,Mod.refl _ _⟩
 ·exact ahn b c s w hg hb hc
def jC (e:TypeId) (sz:Nat) (w w':World) (v:Value) (vs:List Value) (c:Int):Prop:=
 ∃ (y:ah) (er:Value),v=.tuple ⟨[.slice y.a y.n y.c,er]⟩∧Own w' w.heap.size e sz y vs∧cO w w' er c∧(c≠0→y=⟨none,0,0⟩)∧Mod [] w w'
theorem jC.no {e:TypeId} {sz:Nat} {w w':World} {er:Value} {c:Int} (h:cO w w' er c) (m:Mod [] w w'):jC e sz w w' (.tuple ⟨[.slice none 0 0,er]⟩) [] c:=
 ⟨⟨none,0,0⟩,er,rfl,Own.nil _ _ _ _,h,fun _=>rfl,m⟩
theorem jC.yes {e:TypeId} {sz:Nat} {w w':World} {y:ah} {vs:List Value} (h:Own w' w.heap.size e sz y vs) (m:Mod [] w w'):jC e sz w w' (.tuple ⟨[.slice y.a y.n y.c,.nilIface]⟩) vs 0:=
 ⟨y,.nilIface,rfl,h,cO.zero _ _,fun h=>absurd rfl h,m⟩
theorem _root_.Go.Ev.ak.SP {w0 w w':World} {S:List Nat} {L:List aE} (H:ak w0 S w L) {e:TypeId} {sz:Nat} {y:ah} {er:Value} {vs:List Value} {c:Int} (m:Mod [] w w') (hy:Own w' w.heap.size e sz y vs) (he:cO w w' er c) (hn:c≠0→y=⟨none,0,0⟩) :
  ak w0 S w' (L ++ [.row e sz y vs,aE.err er c]):=
 ak.anj H m hy.lo he.1 (fun b hb=>(Own.Er hy b hb).1) he.2 fun b hb iP=>by
  rcases he.1 with ⟨rfl,_⟩ | ⟨_,_,_,_,hc⟩
  ·cases iP
  ·rw [hn hc] at hb; cases hb
theorem _root_.Go.Ev.ak.err {w0 w:World} {S:List Nat} {L:List aE} (H:ak w0 S w L) (k:Nat) {e:Value} {c:Int} (hk:L[k]? = some (aE.err e c)):fZ w e c:=H.ok k _ hk
theorem _root_.Go.Ev.ak.gD {w0 w w':World} {S:List Nat} {L:List aE} (H:ak w0 S w L) {er:Value} {c:Int} (m:Mod [] w w') (he:cO w w' er c):ak w0 S w' (L ++ [aE.err er c]):=H.push m he.1 he.2
theorem BA:fh Pr fk bD 1 8:=fh.of (by kernel_rfl)
end Go.Proofs.YtgjoehgomjgckaaGreatDoor
end
section
set_option linter.unusedVariables false
set_option linter.unusedSimpArgs false
namespace Go.Ev
open Go Go.RowKit
theorem ak.alO {w0 w w':World} {S T:List Nat} {L:List aE} (H:ak w0 S w L) (k:Nat) {r r' n:aE} (hk:L[k]? = some r) (m:Mod T w w') (hT:∀ b∈T,b∈r.fp) (hr:r'.ok w') (hf:∀ b∈r'.fp,b∈r.fp) (hn:n.ok w') (Tu:∀ b∈n.fp,w.heap.size≤b) :
  ak w0 S w' (L.set k r' ++ [n]):=by
 have H':=H.iQ k hk m (fun b hb=>.inl (hT b hb)) hr (fun b hb=>.inl (hf b hb))
 have old:∀ (j:Nat) (s:aE),(L.set k r')[j]? = some s→∀ b∈s.fp,b<w.heap.size:=by
  intro j s hs b hb
  rw [List.getElem?_set] at hs
  split at hs
  ·split at hs
   ·obtain rfl:=Option.some.inj hs
    exact r.lt w (H.ok k r hk) b (hf b hb)
   ·cases hs
  ·exact s.lt w (H.ok j s hs) b hb
 have e:∀ {j:Nat} {s:aE},(L.set k r' ++ [n])[j]? = some s→((L.set k r')[j]? = some s∧j<(L.set k r').length)∨(s=n∧j=(L.set k r').length):=fun {j s} h=>by
  rcases Nat.lt_or_ge j (L.set k r').length with hj | hj
  ·rw [List.getElem?_append_left hj] at h; exact .inl ⟨h,hj⟩
  ·rw [List.getElem?_append_right hj] at h
   rcases Nat.eq_zero_or_pos (j - (L.set k r').length) with e | e
   ·rw [e] at h; simp at h; exact .inr ⟨h.symm,by omega⟩
   ·rw [List.getElem?_eq_none (by simp at e ⊢; omega)] at h; cases h
 refine ⟨H'.mod,fun j s hs=>?_,fun j s hs b hb=>?_,fun i j s t Ax hs ht b hb iP=>?_⟩
 ·rcases e hs with ⟨h,_⟩ | ⟨rfl,_⟩
  ·exact H'.ok j s h
  ·exact hn
 ·rcases e hs with ⟨h,_⟩ | ⟨rfl,_⟩
  ·exact H'.own j s h b hb
  ·exact .inr (Nat.le_trans H.mod.size (Tu b hb))
 ·rcases e hs with ⟨h,hi⟩ | ⟨rfl,hi⟩
  ·rcases e ht with ⟨h',_⟩ | ⟨rfl,_⟩
   ·exact H'.apart i j s t Ax h h' b hb iP
   ·have:=old i s h b hb; have:=Tu b iP; omega
  ·rcases e ht with ⟨h',_⟩ | ⟨rfl,hj⟩
   ·have:=old j t h' b iP; have:=Tu b hb; omega
   ·omega
theorem e8.ofs {w:World} {S:List Nat} {b:Nat} {ss:List ah} {ls:List (List B8)} {t:TypeId} (h:bX w b (ss.map ah.v) t) (hb:b∉S) (hl:ss.length=ls.length) (hx:∀ (i:Nat) (x:ah) (l:List B8),ss[i]? = some x→ls[i]? = some l→Bytes w x l∧off S x) :
  e8 w S ⟨some ⟨b,0,none⟩,ss.length,ss.length⟩ ls:=
 ⟨ss,(by
  have:=h.sl 1 ss.length ss.length (by simp) (by omega)
  rw [Nat.mul_one,List.take_of_length_le (by simp)] at this
  exact this),fun _ a ha=>by simp only [Option.some.injEq] at ha; subst ha; exact hb,hl,hx⟩
theorem e8.zM {w:World} {S:List Nat} {b:Nat} {x y:ah} {l m:List B8} {t:TypeId} (h:bX w b [x.v,y.v] t) (hb:b∉S) (hx:Bytes w x l) (ox:off S x) (hy:Bytes w y m) (oy:off S y):e8 w S ⟨some ⟨b,0,none⟩,2,2⟩ [l,m]:=
 e8.ofs (ss:=[x,y]) h hb rfl fun i z k hz hk=>by
  match i with
  | 0=>
   simp only [List.getElem?_cons_zero,Option.some.injEq] at hz hk
   subst hz hk; exact ⟨hx,ox⟩
  | 1=>
   simp only [List.getElem?_cons_succ,List.getElem?_cons_zero,Option.some.injEq] at hz hk
   subst hz hk; exact ⟨hy,oy⟩
  | i+2=>simp at hz
theorem e8.ld0 {w0 w:World} {S:List Nat} {s:ah} {ls:List (List B8)} (h:e8 w0 S s ls) (m:Mod S w0 w) {i:Nat} (hi:i<ls.length) {K:ah→Prop} (hk:∀ x,Bytes w0 x (ls.getD i [])→off S x→K x) :
  aU s.a (i:Int) s.n (ax (Addr.add (base s.a) (Int.toNat (i:Int) * 1)) w K):=by
 have hn:=h.len
 obtain ⟨ss,h1,h2,h3,h4⟩:=h.ex
 have CC:=h1.mod m h2
 refine ⟨⟨h1.pre (by omega),by omega,by omega⟩,ss[i]'(by omega),?_,?_⟩
 ·rw [Int.toNat_natCast,Nat.mul_one]
  exact CC.cell i _ (by simp [show i<ss.length by omega,ah.v])
 ·have:=h4 i (ss[i]'(by omega)) (ls.getD i []) (by simp [show i<ss.length by omega]) (by simp [hi])
  exact hk _ this.1 this.2
theorem ank {w w':World} {a:Addr} {v:Value} (h:w.cell? a=some v) (h':w'.cell? a=some v):kept a 1 w w':=fun j hj=>by
 have:j=0:=by omega
 subst this
 have e:a.add 0=a:=by unfold Addr.add; split <;> simp_all
 rw [e,h,h']
theorem ak.only {w0 w:World} {S:List Nat} {L:List aE} (H:ak w0 S w L) (k:Nat) {r:aE} (hk:L[k]? = some r):ak w0 S w [r]:=
 ⟨H.mod,fun j s hs=>by
  match j with
  | 0=>simp at hs; subst hs; exact H.ok k _ hk
  | j+1=>simp at hs,fun j s hs=>by
  match j with
  | 0=>simp at hs; subst hs; exact H.own k _ hk
  | j+1=>simp at hs,fun i j s t Ax hs ht=>by
  match i,j with
  | 0,0=>exact absurd rfl Ax
  | 0,j+1=>simp at ht
  | i+1,_=>simp at hs⟩
theorem ak.two {w0 w:World} {S:List Nat} {L:List aE} (H:ak w0 S w L) (k l:Nat) {r s:aE} (hk:L[k]? = some r) (hl:L[l]? = some s) (bO:k≠l):ak w0 S w [r,s]:=
 (H.only k hk).add (H.ok l _ hl) (H.own l _ hl) fun j u hj b hb=>by
  match j with
  | 0=>
   simp at hj; subst hj
   exact H.apart k l _ _ bO hk hl b hb
  | j+1=>simp at hj
theorem ak.Q2 {w0 w:World} {S:List Nat} {L:List aE} (H:ak w0 S w L) (k:Nat) {b:Nat} {l:List B8} {t:TypeId} (hk:L[k]? = some (.av b (bn l) t)):Bytes w ⟨some ⟨b,0,none⟩,l.length,l.length⟩ l:=by
 have:=(H.av k hk).sl 1 l.length l.length (by simp) (Nat.le_refl _)
 rw [Nat.mul_one,List.take_of_length_le (by simp)] at this
 exact this
theorem UI {P:Program} (w:World) (t ti ty e:TypeId) (i:TypeInfo) (z:Value) {k:IntKind} (ht:P.underlying t=some (.slice e)) (qP:P.underlying ti=some (.int k)) (hi:P.info? e=some i) (hz:i.zero=some z)
  (g tP JH m:Nat) (cur:Array Value) (hg:w.heap[g]? = some (.cells cur e (0,0))) (hs:i.size=1) (v:Value) (pY:z.cells=#[v]) (hv:v.oneCell'=true) (hm:m * i.bytes≤281474976710656) (tW:m<9223372036854775808)
  (oA:tP+m≤JH) (JI:tP+m≤cur.size) :
  (Builtin.append_ #[t,ti] ty #[.slice (some ⟨g,0,none⟩) tP JH,.int .i64 (m:Int)]).run P w =
   .ok (.slice (some ⟨g,0,none⟩) (tP+m) JH) (w.setRow g (cur.toList.take tP ++ List.replicate m v ++ cur.toList.drop (tP+m)).toArray):=by
 have FK:IntKind.wrap .i64 (m:Int)=(m:Int):=wrap_i64 (by omega) (by omega)
 have hle:¬ ((m:Int) * (i.bytes:Int) > 2 ^ 48):=by
  have e1:((m:Int) * (i.bytes:Int))=((m * i.bytes:Nat):Int):=by rw [Int.natCast_mul]
  rw [e1,show (2:Int) ^ 48=281474976710656 by decide]
  omega
 have an8:¬ (281474976710656<(m:Int) * (i.bytes:Int)):=fun h=>hle (by rw [show (2:Int) ^ 48=281474976710656 by decide]; exact h)
 have jR:(Builtin.zeroCells z.cells m).toList=List.replicate m v:=by
  unfold Builtin.zeroCells
  rw [pY]
  refine List.ext_getElem (by simp) fun j h1 h2=>?_
  simp [Nat.mod_one]
 have nL:=run_storeCells_at (P:=P) g (tP * i.size) e (List.replicate m v) 0 cur w hg (by rw [hs,List.length_replicate]; omega) fun u hu=>by rw [List.eq_of_mem_replicate hu]; exact hv
 simp only [Nat.add_zero,hs,Nat.mul_one,List.length_replicate] at nL
 rcases Nat.eq_zero_or_pos m with rfl | h0
 ·have qF:(w.setRow g (cur.toList.take tP ++ List.replicate 0 v ++ cur.toList.drop (tP+0)).toArray)=w:=by
   have:=setRow_self w g cur e (0,0) hg
   simpa using this
  rw [qF]
  simp [Builtin.append_,run_underlying ht,run_underlying qP,Go.sizeOf,Go.typeInfo,hi,asInt,asIntOf,show tP≤JH by omega,storeCells,show IntKind.wrap .i64 0=0 by decide]
 ·have gV:¬ m * i.size=0:=by rw [hs]; omega
  simp [Builtin.append_,run_underlying ht,run_underlying qP,Go.sizeOf,Go.typeInfo,hi,asInt,asIntOf,FK,show ¬ ((m:Int)<0) by omega,an8,oA,hs,zeroValue,hz,jR,Addr.add_lit,nL,show ¬ m=0 by omega]
theorem ak.an9 {P:Program} {w0 w:World} {S:List Nat} {L:List aE} (H:ak w0 S w L) (k:Nat) {t ti ty e:TypeId} {q:IntKind} {bytes b n c m:Nat} {x:Int} {v:Value} {cs:List Value} {K:ah→World→Prop} (cz:fh P t e 1 bytes) (qP:P.underlying ti=some (.int q)) (hz:zc P e=[v]) (hv:ek v=true)
  (hk:L[k]? = some (.av b cs e)) (hx:x=(m:Int)) (jo:cs.length=c) (oA:n+m≤c) (hm:m * bytes≤281474976710656) (tW:m<9223372036854775808)
  (h:∀ w',ak w0 S w' (L.set k (.av b (cs.take n ++ List.replicate m v ++ cs.drop (n+m)) e))→K ⟨some ⟨b,0,none⟩,n+m,c⟩ w'):cG P [t,ti] ty [.slice (some ⟨b,0,none⟩) n c,.int .i64 x] w K:=by
 subst hx
 obtain ⟨i,z,hi,CJ,jQ,oK,jR⟩:=cz.info
 have pY:z.cells=#[v]:=by
  have:z.cells.toList=[v]:=by
   have h2:zc P e=z.cells.toList:=by unfold zc; rw [hi]; simp only [CJ]
   rw [← h2]; exact hz
  rw [← Array.toArray_toList (xs:=z.cells),this]
 have j6:v.oneCell'=true:=by cases v <;> first | rfl | cases hv
 have hr:=UI (P:=P) w t ti ty e i z cz.rV qP hi CJ b n c m ⟨cs⟩ (H.av k hk) jQ v pY j6 (by rw [oK]; exact hm) tW oA (by show n+m≤cs.length; omega)
 refine ⟨_,_,hr,⟨some ⟨b,0,none⟩,n+m,c⟩,rfl,h _ ?_⟩
 exact H.iQ (T:=[b]) k hk ⟨rfl,rfl,rfl,by simp,fun j _ hj=>setRow_other w b j _ (fun e=>hj (by simp [e]))⟩ (fun c hc=>.inl hc) (setRow_heap w b _ _ e _ (H.av k hk)) (fun c hc=>.inl hc)
end Go.Ev
namespace Go.Proofs.YtgjoehgomjgckaaGreatDoor
open Go Go.Ev
set_option linter.unusedVariables false
theorem aho {ay:Nat} {aQ:B8} {dm:Bool} {s:List aI×Nat} (h:if dm then tG ay s else Fits ay s):tG ay (ready ay aQ dm s):=by
 cases dm with
 | true=>exact h
 | false=>exact ⟨(wI _ _ _).trans ((wI _ _ _).trans h.1),Nat.le_refl _⟩
theorem RM {parts:ah} {l:List B8} (hn:parts.n=1) (hl:l.length≤1000000):Small parts [l]:=⟨by omega,fun m hm=>by rw [List.mem_singleton.1 hm]; omega⟩
theorem s4 (ay:Nat) (aQ:B8) (l:List B8) (n:Nat) (h:n≤1048576):(e9 ay aQ l (n:Int)).length=n:=by
 unfold e9
 split
 ·rw [Int.toNat_natCast,afS]
 ·simp only [List.length_nil]; omega
theorem OZ (ay:Nat) (s:List aI×Nat) (m n:Nat):cM ay s (m+n)=((cM ay s m).1 ++ (cM ay (cM ay s m).2 n).1,(cM ay (cM ay s m).2 n).2):=by
 induction n with
 | zero=>simp [cM,akP]
 | succ n ih=>
  rw [← Nat.add_assoc,A5,ih,A5]
  simp [zL,List.append_assoc]
theorem _root_.Go.Ev.ak.alP {w0 w:World} {S:List Nat} {L:List aE} (H:ak w0 S w L) (k:Nat) {b ay:Nat} {s:List aI×Nat} {aQ:B8} (hk:L[k]? = some (jF b s.1 ay s.2 aQ false)) (hr:ay≤192) (hs:Fits ay s) {parts:ah} {ls:List (List B8)}
  (hp:e8 w [b] parts ls) (Eu:Small parts ls) {K:Value→World→Prop} (h:∀ w',Mod [b] w w'→ak w0 S w' (L.set k (jF b (ew ay s ls.flatten).1 ay (ew ay s ls.flatten).2 aQ false))→K .nilIface w') :
  az Pr C5 [.pointer (some ⟨b,0,none⟩),.slice parts.a parts.n parts.c] w K:=by
 refine aB (UQ hr hs b parts ls _ (H.av k hk) hp Eu) ?_
 rintro _ w1 ⟨rfl,h1,m1⟩
 exact h w1 m1 (H.iQ k hk m1 (fun c hc=>.inl hc) h1 (fun c hc=>.inl hc))
theorem Z0 {ay:Nat} (h:8≤ay):Fits ay ((fU,0):List aI×Nat):=⟨rfl,by show 0<ay; omega⟩
def rX (ay:Nat) (aQ:B8) (s:List aI×Nat) (m:Nat):List aI×Nat:=if m=0 then s else (cM ay (close ay aQ s) m).2
def vR (m:Nat):Bool:=decide (0<m)
theorem aiS (ay:Nat) (aQ:B8) (s:List aI×Nat) (m:Nat):ready ay aQ (vR m) (rX ay aQ s m)=(cM ay (close ay aQ s) m).2:=by
 unfold rX vR ready
 rcases Nat.eq_zero_or_pos m with rfl | h
 ·rfl
 ·rw [if_pos (by simp; omega),if_neg (by omega)]
theorem alQ {ay:Nat} {aQ:B8} {s:List aI×Nat} (hr:8≤ay) (hs:Fits ay s) (m:Nat):if vR m=true then tG ay (rX ay aQ s m) else Fits ay (rX ay aQ s m):=by
 unfold rX vR
 rcases Nat.eq_zero_or_pos m with rfl | h
 ·simpa using hs
 ·rw [if_neg (show ¬ m=0 by omega),if_pos (by simp [h])]
  exact (aho (dm:=false) hs).cM (by omega) m
theorem akW {parts:ah} {ls:List (List B8)} (hn:parts.n<1000000) (h:∀ l∈ls,l.length≤1000000):Small parts ls:=⟨hn,fun l hl=>by have:=h l hl; omega⟩
theorem zm {parts:ah} {l m:List B8} (hn:parts.n=2) (hl:l.length≤1000000) (hm:m.length≤1000000):Small parts [l,m]:=akW (by omega) fun k hk=>by
 simp only [List.mem_cons,List.not_mem_nil,or_false] at hk
 rcases hk with rfl | rfl <;> omega
theorem yI (n:Int):IntKind.wrap .u8 n=((BitVec.ofInt 8 n).toNat:Int):=by
 rw [wrap_u8,BitVec.toNat_ofInt]
 omega
end Go.Proofs.YtgjoehgomjgckaaGreatDoor
end
section
set_option linter.unusedVariables false
set_option linter.unusedSimpArgs false
namespace Go.Ev
open Go
set_option maxRecDepth 20000
set_option linter.unusedVariables false
theorem ak.join {w0 w w':World} {S:List Nat} {L L2:List aE} (H:ak w0 S w L) (H2:ak w [] w' L2):ak w0 S w' (L ++ L2):=by
 have HF:=H.frame H2.mod
 have SQ:∀ (k:Nat) (r:aE),L2[k]? = some r→∀ b∈r.fp,w.heap.size≤b:=fun k r hk b hb=>(H2.own k r hk b hb).resolve_left (by simp)
 have lt1:∀ (k:Nat) (r:aE),L[k]? = some r→∀ b∈r.fp,b<w.heap.size:=fun k r hk b hb=>r.lt w (H.ok k r hk) b hb
 have split:∀ (k:Nat) (r:aE),(L ++ L2)[k]? = some r→(k<L.length∧L[k]? = some r)∨(L.length≤k∧L2[k - L.length]? = some r):=fun k r hk=>by
  rcases Nat.lt_or_ge k L.length with h | h
  ·rw [List.getElem?_append_left h] at hk; exact .inl ⟨h,hk⟩
  ·rw [List.getElem?_append_right h] at hk; exact .inr ⟨h,hk⟩
 refine ⟨HF.mod,fun k r hk=>?_,fun k r hk b hb=>?_,fun j k r s lp hj hk b hb xX=>?_⟩
 ·rcases split k r hk with ⟨_,h⟩ | ⟨_,h⟩
  ·exact HF.ok k r h
  ·exact H2.ok _ r h
 ·rcases split k r hk with ⟨_,h⟩ | ⟨_,h⟩
  ·exact HF.own k r h b hb
  ·exact .inr (Nat.le_trans H.mod.size (SQ _ r h b hb))
 ·rcases split j r hj with ⟨h0,h⟩ | ⟨h0,h⟩ <;> rcases split k s hk with ⟨h1,h'⟩ | ⟨h1,h'⟩
  ·exact HF.apart j k r s lp h h' b hb xX
  ·have:=lt1 j r h b hb
   have:=SQ _ s h' b xX
   omega
  ·have:=lt1 k s h' b xX
   have:=SQ _ r h b hb
   omega
  ·exact H2.apart _ _ r s (by omega) h h' b hb xX
theorem afZ {z:Value} {v:Value} (hz:z.cells=#[v]) (m:Nat):(Builtin.zeroCells z.cells m).toList=List.replicate m v:=by
 unfold Builtin.zeroCells
 rw [hz]
 refine List.ext_getElem (by simp) fun j h1 h2=>?_
 simp [Nat.mod_one]
section
variable {P:Program}
theorem ajN {t ti ty e:TypeId} {q:IntKind} {bytes lo m:Nat} {s:ah} {v:Value} {vs:List Value} {w:World} (cz:fh P t e 1 bytes) (qP:P.underlying ti=some (.int q)) (hz:zc P e=[v]) (hv:ek v=true) (hs:Own w lo e 1 s vs)
  (hb:(s.n+m) * bytes≤140737488355328) (hm:s.n+m≤1000000000) (oJ:lo≤w.heap.size) :
  ∃ s':ah,∃ w',(Builtin.append_ #[t,ti] ty #[s.v,.int .i64 (m:Int)]).run P w=.ok s'.v w'∧Own w' lo e 1 s' (vs ++ List.replicate m v)∧Mod s.row w w'∧s'.n=s.n+m∧(∀ b∈s'.row,b∈s.row∨w.heap.size≤b):=by
 obtain ⟨i,z,hi,CJ,jQ,oK,jR⟩:=cz.info
 have pY:z.cells=#[v]:=by
  have:z.cells.toList=[v]:=by
   have h2:zc P e=z.cells.toList:=by unfold zc; rw [hi]; simp only [CJ]
   rw [← h2]; exact hz
  rw [← Array.toArray_toList (xs:=z.cells),this]
 have j6:v.oneCell'=true:=by cases v <;> first | rfl | cases hv
 have FL:m * i.bytes≤281474976710656:=by
  rw [oK]
  have:m * bytes≤(s.n+m) * bytes:=Nat.mul_le_mul_right _ (by omega)
  omega
 obtain ⟨sa,sn,sc⟩:=s
 dsimp only at hb hm
 have grow:∀ (ba:Option Addr),sc<sn+m→0<m→vs.length=sn→(Builtin.firstCells i.size sn (.slice ba sn sc)).run P w.drew=.ok vs.toArray w.drew→∃ s':ah,∃ w',(Builtin.append_ #[t,ti] ty #[.slice ba sn sc,.int .i64 (m:Int)]).run P w=.ok s'.v w'∧Own w' lo e 1 s' (vs ++ List.replicate m v)∧Mod (ah.row ⟨sa,sn,sc⟩) w w'∧s'.n=sn+m∧(∀ b∈s'.row,b∈ah.row ⟨sa,sn,sc⟩∨w.heap.size≤b):=by
  intro ba hg h0 vN hold
  have hr:=Go.Lib.run_append_grow_zeros (P:=P) w t ti ty e i z .i64 q cz.rV qP hi CJ ba sn sc vs hold m h0 (by omega) hg (by omega) FL (growslice_fits hg (by rw [oK]; exact hb))
  have vO:=grownCap_ge w (sn+m) sc e
  have vM:grownCap w (sn+m) sc e≤maxLen:=grownCap_le_maxLen w (sn+m) sc e (by simp only [maxLen]; omega)
  refine ⟨⟨some ⟨w.heap.size,0,none⟩,sn+m,grownCap w (sn+m) sc e⟩,_,hr,⟨?_,.inr ⟨w.heap.size,_,_,rfl,oJ,heap_alloc_new w.drew _,vO,vM,?_,?_⟩⟩,(Mod.drew _ w).trans (Mod.alloc _ w.drew _),rfl,?_⟩
  ·rw [List.length_append,List.length_replicate]; show vs.length+m=(sn+m) * 1; omega
  ·simp only [Array.size_append,List.size_toArray,size_zeroCells,jR,vN]
   omega
  ·simp only [Array.toList_append,afZ pY]
   rw [List.take_left' (by rw [List.length_append,List.length_replicate]; omega)]
  ·intro b hb
   simp only [ah.row,List.mem_singleton] at hb
   exact .inr (by omega)
 have vS:vs.length=sn:=by have:=hs.1; simpa using this
 rcases hs.2 with ⟨hv,hn⟩ | ⟨g,cap,cur,hv,hlg,hg,CD,vM,jo,BZ⟩
 ·simp only [ah.v,Value.slice.injEq] at hv
  obtain ⟨rfl,rfl,rfl⟩:=hv
  rcases Nat.eq_zero_or_pos m with rfl | h0
  ·refine ⟨⟨none,0,0⟩,w,?_,by simpa using hs,Mod.refl _ _,rfl,fun b hb=>.inl hb⟩
   simp [ah.v,Builtin.append_,run_underlying cz.rV,run_underlying qP,Go.sizeOf,Go.typeInfo,hi,asInt,asIntOf,show IntKind.wrap .i64 0=0 by decide]
  ·have vN:vs=[]:=List.eq_nil_of_length_eq_zero vS
   subst vN
   exact grow none (by omega) h0 rfl (run_firstCells_none w.drew i.size 0 0 0)
 ·simp only [ah.v,Value.slice.injEq] at hv
  obtain ⟨rfl,-,rfl⟩:=hv
  by_cases oA:sn+m≤sc
  ·have hr:=UI (P:=P) w t ti ty e i z cz.rV qP hi CJ g sn sc m cur hg jQ v pY j6 FL (by omega) oA (by omega)
   refine ⟨⟨some ⟨g,0,none⟩,sn+m,sc⟩,_,hr,⟨by rw [List.length_append,List.length_replicate]; show vs.length+m=(sn+m) * 1; omega,.inr ⟨g,sc,_,rfl,hlg,setRow_heap w g cur _ e (0,0) hg,oA,vM,?_,?_⟩⟩,⟨rfl,rfl,rfl,by simp,fun j _ hj=>setRow_other w g j _ (fun e=>hj (by simp [ah.row,e]))⟩,rfl,fun b hb=>.inl hb⟩
   ·simp only [List.size_toArray,List.length_append,List.length_take,List.length_replicate,List.length_drop,Array.length_toList]
    omega
   ·rw [Nat.mul_one] at BZ
    show ((cur.toList.take sn ++ List.replicate m v ++ cur.toList.drop (sn+m)).toArray.toList.take ((sn+m) * 1))=_
    rw [List.toList_toArray,BZ,Nat.mul_one,List.take_left' (by rw [List.length_append,List.length_replicate]; omega)]
  ·have holds:∀ j u,vs[j]? = some u→w.cell? ((⟨g,0,none⟩:Addr).add j)=some u:=World.ownsRow.cells (g:=g) hs rfl
   have arp:sn≤sc:=CD
   have hm0:0<m:=by omega
   exact grow (some ⟨g,0,none⟩) (by omega) hm0 vS (run_firstCells_some (P:=P) w.drew i.size sn ⟨g,0,none⟩ sn sc vs (by rw [jQ,Nat.mul_one]; exact vS) (by simpa using holds))
theorem ak.anl {w0 w:World} {S:List Nat} {L:List aE} (H:ak w0 S w L) (k:Nat) {t ti ty e:TypeId} {q:IntKind} {bytes m:Nat} {s:ah} {x:Int} {v:Value} {vs:List Value} {K:ah→World→Prop} (cz:fh P t e 1 bytes) (qP:P.underlying ti=some (.int q)) (hz:zc P e=[v]) (hv:ek v=true)
  (hk:L[k]? = some (.row e 1 s vs)) (hx:x=(m:Int)) (hb:(s.n+m) * bytes≤140737488355328) (hm:s.n+m≤1000000000)
  (h:∀ s' w',ak w0 S w' (L.set k (.row e 1 s' (vs ++ List.replicate m v)))→s'.n=s.n+m→K s' w'):cG P [t,ti] ty [.slice s.a s.n s.c,.int .i64 x] w K:=by
 subst hx
 obtain ⟨s',w',hr,h2,h3,h4,h5⟩:=ajN (ty:=ty) cz qP hz hv (H.qE k hk) hb hm (Nat.zero_le _)
 exact ⟨_,w',hr,s',rfl,h s' w' (H.iQ k hk h3 (fun b hb=>.inl hb) h2 h5) h4⟩
end
end Go.Ev
namespace Go.Proofs.YtgjoehgomjgckaaGreatDoor
open Go Go.Ev
set_option linter.unusedVariables false
end Go.Proofs.YtgjoehgomjgckaaGreatDoor
end
section
set_option linter.unusedVariables false
set_option linter.unusedSimpArgs false
namespace Go.Proofs.YtgjoehgomjgckaaGreatDoor
open Go Go.Ev
set_option maxRecDepth 20000
set_option linter.unusedVariables false
theorem pn {A:Type} {x:A} {K:A→Prop} (h:K x):lt x K:=h
def pz (o:List Int) (x:Int):List Int:=if x<8380417∧o.length<256 then o ++ [x] else o
end Go.Proofs.YtgjoehgomjgckaaGreatDoor
end
section
set_option linter.unusedVariables false
set_option linter.unusedSimpArgs false
namespace Go.Proofs.YtgjoehgomjgckaaGreatDoor
open Go Go.Ev
theorem D8:fh Pr fk bD 1 8:=fh.of (by kernel_rfl)
theorem BM:zc Pr bD=[.int .i64 0]:=by kernel_rfl
theorem ahp (d x:Nat) (hd:d≤62) (hx:x<9223372036854775808) (w:World):Ok Pr PI [.int .i64 (d:Int),.int .i64 (x:Int)] w fun v w'=>v=.int .i64 ((x % 2 ^ d:Nat):Int)∧w'=w:=by
 refine afN ?_
 unfold PM
 have h2:2 ^ d≤2 ^ 62:=Nat.pow_le_pow_right (by decide) hd
 have h1:0<2 ^ d:=Nat.pow_pos (by decide)
 have e:shl .i64 (1:Int) (d:Int)=((2 ^ d:Nat):Int):=by
  have:=Co (a:=1) (k:=d) (by omega) (by omega)
  rw [Nat.one_mul] at this
  exact this
 rw [e,show (((2 ^ d:Nat):Int) - 1)=((2 ^ d - 1:Nat):Int) by omega]
 refine ite_false (by simp; omega) (kL (by omega) ⟨⟨by omega,by omega⟩,?_,rfl⟩)
 rw [SO hx (by omega),akV]
theorem G9 (d:Nat) (qQ:1≤d) (hd:d≤24) (x:ah) (l:List B8) (hl:l.length≤1000000) (w:World) (hx:Bytes w x l) :
  Ok Pr AR [.int .i64 (d:Int),.slice x.a x.n x.c] w fun v w'=>∃ y:ah,v=.slice y.a y.n y.c∧Own w' w.heap.size bD 1 y (cu (unpack d l))∧Mod [] w w':=by
 refine adN ?_
 unfold MU
 have bV:=hx.len
 refine ite_false (by simp; omega) ?_
 have p32:∀ n,n≤32→2 ^ n≤4294967296:=fun n hn=>by
  have:=Nat.pow_le_pow_right (n:=2) (by decide) hn
  exact this
 let f (m:Nat):List Int:=(List.range m).map fun i=>((uh (num l) d i:Nat):Int)
 refine Xt 0 l.length (fun k (out:ah) (held n:Int) w'=>∃ m:Nat,d * m≤8 * k∧8 * k<d * (m+1)∧n=((8 * k - d * m:Nat):Int)∧held=((num (l.take k) / 2 ^ (d * m):Nat):Int)∧out.n=m∧ak w [] w' [.row bD 1 out (cu (f m))]) rfl (by omega)
  ⟨0,by omega,by omega,by simp,by simp [num],rfl,(ak.start w).jk bD 1⟩ ?_ ?_
 ·rintro again k out held n w1 _ hk ⟨m,CK,tW,rfl,rfl,nJ,H⟩ aM
  have hmd:m≤d * m:=Nat.le_mul_of_pos_left m (by omega)
  have aav:d * (m+1)=d * m+d:=Nat.mul_succ d m
  have hb:=(l.getD k 0).isLt
  have hN:=Zm (l.take k)
  rw [List.length_take,Nat.min_eq_left (by omega)] at hN
  refine ite_true (by simp; omega) ((hx.aG H.mod).ld hk ⟨⟨by omega,by omega⟩,kL (by omega) ?_⟩)
  have Cq:num (l.take k) / 2 ^ (d * m)<2 ^ (8 * k - d * m):=by
   rw [Nat.div_lt_iff_lt_mul (Nat.pow_pos (by decide)),← Nat.pow_add,Nat.sub_add_cancel CK]
   exact hN
  have hp:=p32 (8 * k - d * m) (by omega)
  have hx2:(l.getD k 0).toNat * 2 ^ (8 * k - d * m)<4294967296:=by
   have h1:2 ^ (8+(8 * k - d * m))≤4294967296:=p32 _ (by omega)
   rw [Nat.pow_add] at h1
   have h2:(l.getD k 0).toNat * 2 ^ (8 * k - d * m)<2 ^ 8 * 2 ^ (8 * k - d * m):=Nat.mul_lt_mul_of_pos_right hb (Nat.pow_pos (by decide))
   omega
  rw [Co (by omega) (by omega),orN (by omega) (by omega),Yn Cq]
  have eh:num (l.take k) / 2 ^ (d * m)+(l.getD k 0).toNat * 2 ^ (8 * k - d * m)=num (l.take (k+1)) / 2 ^ (d * m):=by
   rw [afY l k hk,show 8 * k=d * m+(8 * k - d * m) by omega,Nat.pow_add,Nat.mul_assoc,Nat.add_mul_div_left _ _ (Nat.pow_pos (by decide)),Nat.add_sub_cancel_left,Nat.mul_comm (2 ^ (8 * k - d * m))]
  rw [eh]
  unfold lt
  refine ⟨⟨by omega,by omega⟩,?_⟩
  refine IE (fun (out:ah) (held n:Int) w'=>∃ m:Nat,d * m≤8 * (k+1)∧n=((8 * (k+1) - d * m:Nat):Int)∧n≤40∧held=((num (l.take (k+1)) / 2 ^ (d * m):Nat):Int)∧out.n=m∧ak w [] w' [.row bD 1 out (cu (f m))])
   (fun _ _ n _=>n.toNat) ⟨m,by omega,by omega,by omega,rfl,nJ,H⟩ ?_
  rintro mh out held n w2 ⟨m,CK,rfl,arq,rfl,nJ,H⟩ jD
  have hmd:m≤d * m:=Nat.le_mul_of_pos_left m (by omega)
  have aav:d * (m+1)=d * m+d:=Nat.mul_succ d m
  refine bU (fun h=>?_) (fun h=>?_)
  ·have h:=of_decide_eq_true h
   have hN:=Zm (l.take (k+1))
   rw [List.length_take,Nat.min_eq_left (by omega)] at hN
   have Cq:num (l.take (k+1)) / 2 ^ (d * m)<2 ^ (8 * (k+1) - d * m):=by
    rw [Nat.div_lt_iff_lt_mul (Nat.pow_pos (by decide)),← Nat.pow_add,Nat.sub_add_cancel CK]
    exact hN
   have hp:2 ^ (8 * (k+1) - d * m)≤2 ^ 40:=Nat.pow_le_pow_right (by decide) (by omega)
   refine aB (ahp d _ (by omega) (by omega) _) ?_
   rintro _ _ ⟨rfl,rfl⟩
   refine fm (H.Sq 0 D8 rfl (by omega) fun k8 w3 H ars=>kL (by omega) ⟨⟨by omega,by omega⟩,?_⟩)
   rw [E9 (by omega)]
   refine jD _ _ _ w3 ⟨m+1,by omega,by omega,by omega,?_,by omega,?_⟩ (by omega)
   ·rw [Nat.div_div_eq_div_mul,← Nat.pow_add,aav]
   ·have e:f (m+1)=f m ++ [((uh (num l) d m:Nat):Int)]:=by simp [f,List.range_succ]
    rw [e]
    have e2:num (l.take (k+1)) / 2 ^ (d * m) % 2 ^ d=uh (num l) d m:=ajM l (k+1) d m (by omega) (by omega)
    rw [e2] at H
    exact H
  ·have h:=of_decide_eq_false h
   refine ⟨⟨by omega,by omega⟩,aM _ _ _ w2 ⟨m,by omega,by omega,rfl,rfl,nJ,H⟩⟩
 ·rintro again out held n w1 ⟨m,CK,tW,rfl,rfl,nJ,H⟩
  refine ite_false (by rw [bV]; simp) ⟨out,rfl,?_,H.mod⟩
  have:8 * l.length / d=m:=by
   rw [Nat.div_eq_iff (by omega)]
   have:d * (m+1)=d * m+d:=Nat.mul_succ d m
   rw [Nat.mul_comm m d]
   omega
  unfold unpack
  rw [this]
  exact H.fN 0 rfl
def bit (l:List B8) (k:Nat):Nat:=uh (num l) 1 k
theorem alR (l:List B8) (k:Nat):bit l k≤1:=by have:=Zo (num l) 1 k; unfold bit; omega
end Go.Proofs.YtgjoehgomjgckaaGreatDoor
end
section
set_option linter.unusedVariables false
set_option linter.unusedSimpArgs false
namespace Go.Ev
open Go Go.RowKit
variable {P:Program}
def strOf (l:List B8):ByteArray:=⟨(l.map UInt8.ofBitVec).toArray⟩
def bOf (s:ByteArray):List B8:=s.data.toList.map UInt8.toBitVec
theorem WN (l:List B8):bOf (strOf l)=l:=by
 unfold bOf strOf
 simp only [List.map_map]
 exact List.map_id' l
theorem aiT {l m:List B8}:strOf l=strOf m↔l=m:=⟨fun h=>by rw [← WN l,h,WN],fun h=>by rw [h]⟩
theorem Zp {w:World} {x:ah} {l:List B8} {K:ByteArray→World→Prop} (hx:Bytes w x l) (h:K (strOf l) w):JB P x w K:=by
 obtain ⟨xa,xn,xc⟩:=x
 have hl:=hx.len
 dsimp only at hl
 cases xa with
 | none=>
  have h0:xn=0:=by
   rcases Nat.eq_zero_or_pos xn with e | e
   ·exact e
   ·cases Sl.pre hx e
  have hu:l=[]:=List.eq_nil_of_length_eq_zero (by omega)
  subst hu
  exact ⟨_,w,rfl,_,rfl,h⟩
 | some a=>
  have hc:=run_loadCells_list (P:=P) w a ((l.map fun b=>(b.toNat:Int)).map (Value.int .u8)) (fun j v hj=>by
   refine Sl.cell hx j v ?_
   rw [← hj]
   congr 1
   simp [bn,u8])
  simp only [List.length_map] at hc
  have hr:=run_bytesToString (P:=P) w a l.length xc _ hc
  rw [hl] at hr
  refine ⟨_,w,hr,_,rfl,?_⟩
  have e:(l.map fun b=>(b.toNat:Int))=(l.map UInt8.ofBitVec).map (fun b=>(b.toNat:Int)):=by
   rw [List.map_map]
   rfl
  rw [e,foldl_push_byteCells]
  have:(⟨ByteArray.empty.data ++ (l.map UInt8.ofBitVec).toArray⟩:ByteArray)=strOf l:=by
   unfold strOf
   congr 1
   exact Array.empty_append
  rw [this]
  exact h
end Go.Ev
namespace Go.Ev
open Go Go.RowKit
variable {P:Program}
end Go.Ev
end
section
set_option linter.unusedVariables false
set_option linter.unusedSimpArgs false
namespace Go.Ev
open Go Go.RowKit
set_option linter.unusedVariables false
theorem ak.fS {w0 w:World} {S:List Nat} {L:List aE} (H:ak w0 S w L) (k:Nat) {b i:Nat} {a:Addr} {n:ByteArray} {cs:List Value} {t:TypeId} {K:ByteArray→Prop} (hk:L[k]? = some (.av b cs t)) (ha:a=⟨b,i,none⟩) (hv:cs[i]? = some (.string n)) (h:K n):fS a w K:=
 ⟨n,H.cell k hk ha hv,h⟩
end Go.Ev
namespace Go.Proofs.YtgjoehgomjgckaaGreatDoor
open Go Go.Ev
set_option linter.unusedVariables false
set_option linter.unusedSimpArgs false
@[reducible] def Ik (c0:Int) (c1:Int) (c2:Int) (c3:Int) (c4:Int) (c5:Int) (c6:Int) (c7:Int) (c8:Int) (c9:Int) (jS:Int) (jT:ByteArray) (gx:ah) (gy:ah):List Value:=[.int .i64 c0,.int .i64 c1,.int .i64 c2,.int .i64 c3,.int .i64 c4,.int .i64 c5,.int .i64 c6,.int .i64 c7,.int .i64 c8,.int .i64 c9,.int .i64 jS,.string jT,.slice gx.a gx.n gx.c,.slice gy.a gy.n gy.c]
theorem Hp {a:Addr} {w:World} {c0:Int} {c1:Int} {c2:Int} {c3:Int} {c4:Int} {c5:Int} {c6:Int} {c7:Int} {c8:Int} {c9:Int} {jS:Int} {jT:ByteArray} {gx:ah} {gy:ah} {K:Int→Int→Int→Int→Int→Int→Int→Int→Int→Int→Int→ByteArray→ah→ah→Prop} (h:∀ (i:Nat) (v:Value),(Ik c0 c1 c2 c3 c4 c5 c6 c7 c8 c9 jS jT gx gy)[i]? = some v→w.cell? (Addr.add a i)=some v) (hK:K c0 c1 c2 c3 c4 c5 c6 c7 c8 c9 jS jT gx gy):jz a w K:=
 ⟨_,h 0 _ rfl,⟨_,h 1 _ rfl,⟨_,h 2 _ rfl,⟨_,h 3 _ rfl,⟨_,h 4 _ rfl,⟨_,h 5 _ rfl,⟨_,h 6 _ rfl,⟨_,h 7 _ rfl,⟨_,h 8 _ rfl,⟨_,h 9 _ rfl,⟨_,h 10 _ rfl,⟨_,h 11 _ rfl,⟨gx,h 12 _ rfl,⟨gy,h 13 _ rfl,hK⟩⟩⟩⟩⟩⟩⟩⟩⟩⟩⟩⟩⟩⟩
theorem _root_.Go.Ev.ak.jz {w0 w:World} {S:List Nat} {L:List aE} (H:ak w0 S w L) (k:Nat) {b:Nat} {t:TypeId} {c0:Int} {c1:Int} {c2:Int} {c3:Int} {c4:Int} {c5:Int} {c6:Int} {c7:Int} {c8:Int} {c9:Int} {jS:Int} {jT:ByteArray} {gx:ah} {gy:ah} {K:Int→Int→Int→Int→Int→Int→Int→Int→Int→Int→Int→ByteArray→ah→ah→Prop} (hk:L[k]? = some (.av b (Ik c0 c1 c2 c3 c4 c5 c6 c7 c8 c9 jS jT gx gy) t)) (hK:K c0 c1 c2 c3 c4 c5 c6 c7 c8 c9 jS jT gx gy):jz ⟨b,0,none⟩ w K:=
 Hp (fun i v hv=>H.cell k hk (au b i) hv) hK
theorem _root_.Go.Ev.ak.HZ {w0 w:World} {S:List Nat} {L:List aE} (H:ak w0 S w L) (k:Nat) {b:Nat} {t:TypeId} {cs:List Value} {c0:Int} {c1:Int} {c2:Int} {c3:Int} {c4:Int} {c5:Int} {c6:Int} {c7:Int} {c8:Int} {c9:Int} {jS:Int} {jT:ByteArray} {gx:ah} {gy:ah} {K:World→Prop} (hk:L[k]? = some (.av b cs t)) (hl:cs.length=14) (h:∀ w',ak w0 S w' (L.set k (.av b (Ik c0 c1 c2 c3 c4 c5 c6 c7 c8 c9 jS jT gx gy) t))→K w'):HZ ⟨b,0,none⟩ c0 c1 c2 c3 c4 c5 c6 c7 c8 c9 jS jT gx gy w K:=by
 have bO:k<L.length:=(List.getElem?_eq_some_iff.1 hk).1
 obtain ⟨u0,u1,u2,u3,u4,u5,u6,u7,u8,u9,JW,JX,JY,JZ,rfl⟩:∃ u0 u1 u2 u3 u4 u5 u6 u7 u8 u9 JW JX JY JZ,cs=[u0,u1,u2,u3,u4,u5,u6,u7,u8,u9,JW,JX,JY,JZ]:=by
  match cs,hl with
  | [u0,u1,u2,u3,u4,u5,u6,u7,u8,u9,JW,JX,JY,JZ],_=>exact ⟨u0,u1,u2,u3,u4,u5,u6,u7,u8,u9,JW,JX,JY,JZ,rfl⟩
 refine H.st k hk (au b 0) (by simp) rfl fun w0 H0=>?_
 simp only [List.set_set,List.set_cons_zero,List.set_cons_succ] at H0
 refine H0.st k (List.getElem?_set_self bO) (au b 1) (by simp) rfl fun w1 H1=>?_
 simp only [List.set_set,List.set_cons_zero,List.set_cons_succ] at H1
 refine H1.st k (List.getElem?_set_self bO) (au b 2) (by simp) rfl fun w2 H2=>?_
 simp only [List.set_set,List.set_cons_zero,List.set_cons_succ] at H2
 refine H2.st k (List.getElem?_set_self bO) (au b 3) (by simp) rfl fun w3 H3=>?_
 simp only [List.set_set,List.set_cons_zero,List.set_cons_succ] at H3
 refine H3.st k (List.getElem?_set_self bO) (au b 4) (by simp) rfl fun w4 H4=>?_
 simp only [List.set_set,List.set_cons_zero,List.set_cons_succ] at H4
 refine H4.st k (List.getElem?_set_self bO) (au b 5) (by simp) rfl fun w5 H5=>?_
 simp only [List.set_set,List.set_cons_zero,List.set_cons_succ] at H5
 refine H5.st k (List.getElem?_set_self bO) (au b 6) (by simp) rfl fun w6 H6=>?_
 simp only [List.set_set,List.set_cons_zero,List.set_cons_succ] at H6
 refine H6.st k (List.getElem?_set_self bO) (au b 7) (by simp) rfl fun w7 H7=>?_
 simp only [List.set_set,List.set_cons_zero,List.set_cons_succ] at H7
 refine H7.st k (List.getElem?_set_self bO) (au b 8) (by simp) rfl fun w8 H8=>?_
 simp only [List.set_set,List.set_cons_zero,List.set_cons_succ] at H8
 refine H8.st k (List.getElem?_set_self bO) (au b 9) (by simp) rfl fun w9 H9=>?_
 simp only [List.set_set,List.set_cons_zero,List.set_cons_succ] at H9
 refine H9.st k (List.getElem?_set_self bO) (au b 10) (by simp) rfl fun cL J0=>?_
 simp only [List.set_set,List.set_cons_zero,List.set_cons_succ] at J0
 refine J0.st k (List.getElem?_set_self bO) (au b 11) (by simp) rfl fun cX J1=>?_
 simp only [List.set_set,List.set_cons_zero,List.set_cons_succ] at J1
 refine J1.st k (List.getElem?_set_self bO) (au b 12) (by simp) rfl fun fR J6=>?_
 simp only [List.set_set,List.set_cons_zero,List.set_cons_succ] at J6
 refine J6.st k (List.getElem?_set_self bO) (au b 13) (by simp) rfl fun fF H13=>?_
 simp only [List.set_set,List.set_cons_zero,List.set_cons_succ] at H13
 exact h _ H13
@[reducible] def agU (c0:Int) (c1:Int) (c2:Int) (c3:Int) (c4:Int) (c5:Int) (c6:Int) (c7:Int) (c8:Int) (c9:Int) (jS:Int) (jT:ByteArray) (gx:ah) (gy:ah) (vQ:ah) (CE:Bool):List Value:=[.int .i64 c0,.int .i64 c1,.int .i64 c2,.int .i64 c3,.int .i64 c4,.int .i64 c5,.int .i64 c6,.int .i64 c7,.int .i64 c8,.int .i64 c9,.int .i64 jS,.string jT,.slice gx.a gx.n gx.c,.slice gy.a gy.n gy.c,.slice vQ.a vQ.n vQ.c,.bool CE]
theorem aew {a:Addr} {w:World} {c0:Int} {c1:Int} {c2:Int} {c3:Int} {c4:Int} {c5:Int} {c6:Int} {c7:Int} {c8:Int} {c9:Int} {jS:Int} {jT:ByteArray} {gx:ah} {gy:ah} {vQ:ah} {CE:Bool} {K:Int→Int→Int→Int→Int→Int→Int→Int→Int→Int→Int→ByteArray→ah→ah→ah→Bool→Prop} (h:∀ (i:Nat) (v:Value),(agU c0 c1 c2 c3 c4 c5 c6 c7 c8 c9 jS jT gx gy vQ CE)[i]? = some v→w.cell? (Addr.add a i)=some v) (hK:K c0 c1 c2 c3 c4 c5 c6 c7 c8 c9 jS jT gx gy vQ CE):NL a w K:=
 ⟨_,h 0 _ rfl,⟨_,h 1 _ rfl,⟨_,h 2 _ rfl,⟨_,h 3 _ rfl,⟨_,h 4 _ rfl,⟨_,h 5 _ rfl,⟨_,h 6 _ rfl,⟨_,h 7 _ rfl,⟨_,h 8 _ rfl,⟨_,h 9 _ rfl,⟨_,h 10 _ rfl,⟨_,h 11 _ rfl,⟨gx,h 12 _ rfl,⟨gy,h 13 _ rfl,⟨vQ,h 14 _ rfl,⟨_,h 15 _ rfl,hK⟩⟩⟩⟩⟩⟩⟩⟩⟩⟩⟩⟩⟩⟩⟩⟩
@[reducible] def kY (c0:Int) (c1:ah) (c2:ah) (c3:ah) (c4:ah) (c5:ah):List Value:=[.int .i64 c0,.slice c1.a c1.n c1.c,.slice c2.a c2.n c2.c,.slice c3.a c3.n c3.c,.slice c4.a c4.n c4.c,.slice c5.a c5.n c5.c]
theorem UR {a:Addr} {w:World} {c0:Int} {c1:ah} {c2:ah} {c3:ah} {c4:ah} {c5:ah} {K:Int→ah→ah→ah→ah→ah→Prop} (h:∀ (i:Nat) (v:Value),(kY c0 c1 c2 c3 c4 c5)[i]? = some v→w.cell? (Addr.add a i)=some v) (hK:K c0 c1 c2 c3 c4 c5):bT a w K:=
 ⟨_,h 0 _ rfl,⟨c1,h 1 _ rfl,⟨c2,h 2 _ rfl,⟨c3,h 3 _ rfl,⟨c4,h 4 _ rfl,⟨c5,h 5 _ rfl,hK⟩⟩⟩⟩⟩⟩
theorem _root_.Go.Ev.ak.bT {w0 w:World} {S:List Nat} {L:List aE} (H:ak w0 S w L) (k:Nat) {b:Nat} {t:TypeId} {c0:Int} {c1:ah} {c2:ah} {c3:ah} {c4:ah} {c5:ah} {K:Int→ah→ah→ah→ah→ah→Prop} (hk:L[k]? = some (.av b (kY c0 c1 c2 c3 c4 c5) t)) (hK:K c0 c1 c2 c3 c4 c5):bT ⟨b,0,none⟩ w K:=
 UR (fun i v hv=>H.cell k hk (au b i) hv) hK
theorem _root_.Go.Ev.ak.bM {w0 w:World} {S:List Nat} {L:List aE} (H:ak w0 S w L) (k:Nat) {b:Nat} {t:TypeId} {cs:List Value} {c0:Int} {c1:ah} {c2:ah} {c3:ah} {c4:ah} {c5:ah} {K:World→Prop} (hk:L[k]? = some (.av b cs t)) (hl:cs.length=6) (h:∀ w',ak w0 S w' (L.set k (.av b (kY c0 c1 c2 c3 c4 c5) t))→K w'):bM ⟨b,0,none⟩ c0 c1 c2 c3 c4 c5 w K:=by
 have bO:k<L.length:=(List.getElem?_eq_some_iff.1 hk).1
 obtain ⟨u0,u1,u2,u3,u4,u5,rfl⟩:∃ u0 u1 u2 u3 u4 u5,cs=[u0,u1,u2,u3,u4,u5]:=by
  match cs,hl with
  | [u0,u1,u2,u3,u4,u5],_=>exact ⟨u0,u1,u2,u3,u4,u5,rfl⟩
 refine H.st k hk (au b 0) (by simp) rfl fun w0 H0=>?_
 simp only [List.set_set,List.set_cons_zero,List.set_cons_succ] at H0
 refine H0.st k (List.getElem?_set_self bO) (au b 1) (by simp) rfl fun w1 H1=>?_
 simp only [List.set_set,List.set_cons_zero,List.set_cons_succ] at H1
 refine H1.st k (List.getElem?_set_self bO) (au b 2) (by simp) rfl fun w2 H2=>?_
 simp only [List.set_set,List.set_cons_zero,List.set_cons_succ] at H2
 refine H2.st k (List.getElem?_set_self bO) (au b 3) (by simp) rfl fun w3 H3=>?_
 simp only [List.set_set,List.set_cons_zero,List.set_cons_succ] at H3
 refine H3.st k (List.getElem?_set_self bO) (au b 4) (by simp) rfl fun w4 H4=>?_
 simp only [List.set_set,List.set_cons_zero,List.set_cons_succ] at H4
 refine H4.st k (List.getElem?_set_self bO) (au b 5) (by simp) rfl fun w5 H5=>?_
 simp only [List.set_set,List.set_cons_zero,List.set_cons_succ] at H5
 exact h _ H5
theorem iZ {c0:Int} {c1:ah} {c2:ah} {c3:ah} {c4:ah} {c5:ah} {K:Int→ah→ah→ah→ah→ah→Prop} (hK:K c0 c1 c2 c3 c4 c5):dK (.agg ⟨kY c0 c1 c2 c3 c4 c5⟩) K:=
 ⟨_,rfl,c0,rfl,c1,rfl,c2,rfl,c3,rfl,c4,rfl,c5,rfl,rfl,hK⟩
@[reducible] def dZ (c0:Int) (c1:Int) (c2:ah) (c3:ah):List Value:=[.int .i64 c0,.int .i64 c1,.slice c2.a c2.n c2.c,.slice c3.a c3.n c3.c]
theorem aex {a:Addr} {w:World} {c0:Int} {c1:Int} {c2:ah} {c3:ah} {K:Int→Int→ah→ah→Prop} (h:∀ (i:Nat) (v:Value),(dZ c0 c1 c2 c3)[i]? = some v→w.cell? (Addr.add a i)=some v) (hK:K c0 c1 c2 c3):cF a w K:=
 ⟨_,h 0 _ rfl,⟨_,h 1 _ rfl,⟨c2,h 2 _ rfl,⟨c3,h 3 _ rfl,hK⟩⟩⟩⟩
theorem _root_.Go.Ev.ak.cF {w0 w:World} {S:List Nat} {L:List aE} (H:ak w0 S w L) (k:Nat) {b:Nat} {t:TypeId} {c0:Int} {c1:Int} {c2:ah} {c3:ah} {K:Int→Int→ah→ah→Prop} (hk:L[k]? = some (.av b (dZ c0 c1 c2 c3) t)) (hK:K c0 c1 c2 c3):cF ⟨b,0,none⟩ w K:=
 aex (fun i v hv=>H.cell k hk (au b i) hv) hK
theorem _root_.Go.Ev.ak.bH {w0 w:World} {S:List Nat} {L:List aE} (H:ak w0 S w L) (k:Nat) {b:Nat} {t:TypeId} {cs:List Value} {c0:Int} {c1:Int} {c2:ah} {c3:ah} {K:World→Prop} (hk:L[k]? = some (.av b cs t)) (hl:cs.length=4) (h:∀ w',ak w0 S w' (L.set k (.av b (dZ c0 c1 c2 c3) t))→K w'):bH ⟨b,0,none⟩ c0 c1 c2 c3 w K:=by
 have bO:k<L.length:=(List.getElem?_eq_some_iff.1 hk).1
 obtain ⟨u0,u1,u2,u3,rfl⟩:∃ u0 u1 u2 u3,cs=[u0,u1,u2,u3]:=by
  match cs,hl with
  | [u0,u1,u2,u3],_=>exact ⟨u0,u1,u2,u3,rfl⟩
 refine H.st k hk (au b 0) (by simp) rfl fun w0 H0=>?_
 simp only [List.set_set,List.set_cons_zero,List.set_cons_succ] at H0
 refine H0.st k (List.getElem?_set_self bO) (au b 1) (by simp) rfl fun w1 H1=>?_
 simp only [List.set_set,List.set_cons_zero,List.set_cons_succ] at H1
 refine H1.st k (List.getElem?_set_self bO) (au b 2) (by simp) rfl fun w2 H2=>?_
 simp only [List.set_set,List.set_cons_zero,List.set_cons_succ] at H2
 refine H2.st k (List.getElem?_set_self bO) (au b 3) (by simp) rfl fun w3 H3=>?_
 simp only [List.set_set,List.set_cons_zero,List.set_cons_succ] at H3
 exact h _ H3
theorem oS {c0:Int} {c1:Int} {c2:ah} {c3:ah} {K:Int→Int→ah→ah→Prop} (hK:K c0 c1 c2 c3):fG (.agg ⟨dZ c0 c1 c2 c3⟩) K:=
 ⟨_,rfl,c0,rfl,c1,rfl,c2,rfl,c3,rfl,rfl,hK⟩
@[reducible] def dA (c0:Int) (c1:Int) (c2:Int) (c3:ah):List Value:=[.int .i64 c0,.int .i64 c1,.int .i64 c2,.slice c3.a c3.n c3.c]
theorem qo {a:Addr} {w:World} {c0:Int} {c1:Int} {c2:Int} {c3:ah} {K:Int→Int→Int→ah→Prop} (h:∀ (i:Nat) (v:Value),(dA c0 c1 c2 c3)[i]? = some v→w.cell? (Addr.add a i)=some v) (hK:K c0 c1 c2 c3):bz a w K:=
 ⟨_,h 0 _ rfl,⟨_,h 1 _ rfl,⟨_,h 2 _ rfl,⟨c3,h 3 _ rfl,hK⟩⟩⟩⟩
theorem _root_.Go.Ev.ak.bz {w0 w:World} {S:List Nat} {L:List aE} (H:ak w0 S w L) (k:Nat) {b:Nat} {t:TypeId} {c0:Int} {c1:Int} {c2:Int} {c3:ah} {K:Int→Int→Int→ah→Prop} (hk:L[k]? = some (.av b (dA c0 c1 c2 c3) t)) (hK:K c0 c1 c2 c3):bz ⟨b,0,none⟩ w K:=
 qo (fun i v hv=>H.cell k hk (au b i) hv) hK
theorem _root_.Go.Ev.ak.cA {w0 w:World} {S:List Nat} {L:List aE} (H:ak w0 S w L) (k:Nat) {b:Nat} {t:TypeId} {cs:List Value} {c0:Int} {c1:Int} {c2:Int} {c3:ah} {K:World→Prop} (hk:L[k]? = some (.av b cs t)) (hl:cs.length=4) (h:∀ w',ak w0 S w' (L.set k (.av b (dA c0 c1 c2 c3) t))→K w'):cA ⟨b,0,none⟩ c0 c1 c2 c3 w K:=by
 have bO:k<L.length:=(List.getElem?_eq_some_iff.1 hk).1
 obtain ⟨u0,u1,u2,u3,rfl⟩:∃ u0 u1 u2 u3,cs=[u0,u1,u2,u3]:=by
  match cs,hl with
  | [u0,u1,u2,u3],_=>exact ⟨u0,u1,u2,u3,rfl⟩
 refine H.st k hk (au b 0) (by simp) rfl fun w0 H0=>?_
 simp only [List.set_set,List.set_cons_zero,List.set_cons_succ] at H0
 refine H0.st k (List.getElem?_set_self bO) (au b 1) (by simp) rfl fun w1 H1=>?_
 simp only [List.set_set,List.set_cons_zero,List.set_cons_succ] at H1
 refine H1.st k (List.getElem?_set_self bO) (au b 2) (by simp) rfl fun w2 H2=>?_
 simp only [List.set_set,List.set_cons_zero,List.set_cons_succ] at H2
 refine H2.st k (List.getElem?_set_self bO) (au b 3) (by simp) rfl fun w3 H3=>?_
 simp only [List.set_set,List.set_cons_zero,List.set_cons_succ] at H3
 exact h _ H3
theorem nZ {c0:Int} {c1:Int} {c2:Int} {c3:ah} {K:Int→Int→Int→ah→Prop} (hK:K c0 c1 c2 c3):q9 (.agg ⟨dA c0 c1 c2 c3⟩) K:=
 ⟨_,rfl,c0,rfl,c1,rfl,c2,rfl,c3,rfl,rfl,hK⟩
@[reducible] def uG (c0:Int) (c1:Int) (c2:Int) (c3:ah):List Value:=[.int .i64 c0,.int .i64 c1,.int .i64 c2,.slice c3.a c3.n c3.c]
theorem uD {a:Addr} {w:World} {c0:Int} {c1:Int} {c2:Int} {c3:ah} {K:Int→Int→Int→ah→Prop} (h:∀ (i:Nat) (v:Value),(uG c0 c1 c2 c3)[i]? = some v→w.cell? (Addr.add a i)=some v) (hK:K c0 c1 c2 c3):jx a w K:=
 ⟨_,h 0 _ rfl,⟨_,h 1 _ rfl,⟨_,h 2 _ rfl,⟨c3,h 3 _ rfl,hK⟩⟩⟩⟩
theorem _root_.Go.Ev.ak.jx {w0 w:World} {S:List Nat} {L:List aE} (H:ak w0 S w L) (k:Nat) {b:Nat} {t:TypeId} {c0:Int} {c1:Int} {c2:Int} {c3:ah} {K:Int→Int→Int→ah→Prop} (hk:L[k]? = some (.av b (uG c0 c1 c2 c3) t)) (hK:K c0 c1 c2 c3):jx ⟨b,0,none⟩ w K:=
 uD (fun i v hv=>H.cell k hk (au b i) hv) hK
theorem _root_.Go.Ev.ak.gu {w0 w:World} {S:List Nat} {L:List aE} (H:ak w0 S w L) (k:Nat) {b:Nat} {t:TypeId} {cs:List Value} {c0:Int} {c1:Int} {c2:Int} {c3:ah} {K:World→Prop} (hk:L[k]? = some (.av b cs t)) (hl:cs.length=4) (h:∀ w',ak w0 S w' (L.set k (.av b (uG c0 c1 c2 c3) t))→K w'):gu ⟨b,0,none⟩ c0 c1 c2 c3 w K:=by
 have bO:k<L.length:=(List.getElem?_eq_some_iff.1 hk).1
 obtain ⟨u0,u1,u2,u3,rfl⟩:∃ u0 u1 u2 u3,cs=[u0,u1,u2,u3]:=by
  match cs,hl with
  | [u0,u1,u2,u3],_=>exact ⟨u0,u1,u2,u3,rfl⟩
 refine H.st k hk (au b 0) (by simp) rfl fun w0 H0=>?_
 simp only [List.set_set,List.set_cons_zero,List.set_cons_succ] at H0
 refine H0.st k (List.getElem?_set_self bO) (au b 1) (by simp) rfl fun w1 H1=>?_
 simp only [List.set_set,List.set_cons_zero,List.set_cons_succ] at H1
 refine H1.st k (List.getElem?_set_self bO) (au b 2) (by simp) rfl fun w2 H2=>?_
 simp only [List.set_set,List.set_cons_zero,List.set_cons_succ] at H2
 refine H2.st k (List.getElem?_set_self bO) (au b 3) (by simp) rfl fun w3 H3=>?_
 simp only [List.set_set,List.set_cons_zero,List.set_cons_succ] at H3
 exact h _ H3
theorem wz {c0:Int} {c1:Int} {c2:Int} {c3:ah} {K:Int→Int→Int→ah→Prop} (hK:K c0 c1 c2 c3):uF (.agg ⟨uG c0 c1 c2 c3⟩) K:=
 ⟨_,rfl,c0,rfl,c1,rfl,c2,rfl,c3,rfl,rfl,hK⟩
@[reducible] def lE (c0:Int) (c1:Int) (c2:ah) (c3:Int) (c4:Int):List Value:=[.int .i64 c0,.int .i64 c1,.slice c2.a c2.n c2.c,.int .i64 c3,.int .u64 c4]
theorem GZ {a:Addr} {w:World} {c0:Int} {c1:Int} {c2:ah} {c3:Int} {c4:Int} {K:Int→Int→ah→Int→Int→Prop} (h:∀ (i:Nat) (v:Value),(lE c0 c1 c2 c3 c4)[i]? = some v→w.cell? (Addr.add a i)=some v) (hK:K c0 c1 c2 c3 c4):Ds a w K:=
 ⟨_,h 0 _ rfl,⟨_,h 1 _ rfl,⟨c2,h 2 _ rfl,⟨_,h 3 _ rfl,⟨_,h 4 _ rfl,hK⟩⟩⟩⟩⟩
theorem _root_.Go.Ev.ak.nY {w0 w:World} {S:List Nat} {L:List aE} (H:ak w0 S w L) (k:Nat) {b:Nat} {t:TypeId} {cs:List Value} {c0:Int} {c1:Int} {c2:ah} {c3:Int} {c4:Int} {K:World→Prop} (hk:L[k]? = some (.av b cs t)) (hl:cs.length=5) (h:∀ w',ak w0 S w' (L.set k (.av b (lE c0 c1 c2 c3 c4) t))→K w'):nY ⟨b,0,none⟩ c0 c1 c2 c3 c4 w K:=by
 have bO:k<L.length:=(List.getElem?_eq_some_iff.1 hk).1
 obtain ⟨u0,u1,u2,u3,u4,rfl⟩:∃ u0 u1 u2 u3 u4,cs=[u0,u1,u2,u3,u4]:=by
  match cs,hl with
  | [u0,u1,u2,u3,u4],_=>exact ⟨u0,u1,u2,u3,u4,rfl⟩
 refine H.st k hk (au b 0) (by simp) rfl fun w0 H0=>?_
 simp only [List.set_set,List.set_cons_zero,List.set_cons_succ] at H0
 refine H0.st k (List.getElem?_set_self bO) (au b 1) (by simp) rfl fun w1 H1=>?_
 simp only [List.set_set,List.set_cons_zero,List.set_cons_succ] at H1
 refine H1.st k (List.getElem?_set_self bO) (au b 2) (by simp) rfl fun w2 H2=>?_
 simp only [List.set_set,List.set_cons_zero,List.set_cons_succ] at H2
 refine H2.st k (List.getElem?_set_self bO) (au b 3) (by simp) rfl fun w3 H3=>?_
 simp only [List.set_set,List.set_cons_zero,List.set_cons_succ] at H3
 refine H3.st k (List.getElem?_set_self bO) (au b 4) (by simp) rfl fun w4 H4=>?_
 simp only [List.set_set,List.set_cons_zero,List.set_cons_succ] at H4
 exact h _ H4
@[reducible] def q8 (c0:Int) (c1:Int) (c2:Int) (c3:Int) (c4:Int) (c5:Bool):List Value:=[.int .i64 c0,.int .i64 c1,.int .i64 c2,.int .i64 c3,.int .i64 c4,.bool c5]
theorem Dk {a:Addr} {w:World} {c0:Int} {c1:Int} {c2:Int} {c3:Int} {c4:Int} {c5:Bool} {K:Int→Int→Int→Int→Int→Bool→Prop} (h:∀ (i:Nat) (v:Value),(q8 c0 c1 c2 c3 c4 c5)[i]? = some v→w.cell? (Addr.add a i)=some v) (hK:K c0 c1 c2 c3 c4 c5):iI a w K:=
 ⟨_,h 0 _ rfl,⟨_,h 1 _ rfl,⟨_,h 2 _ rfl,⟨_,h 3 _ rfl,⟨_,h 4 _ rfl,⟨_,h 5 _ rfl,hK⟩⟩⟩⟩⟩⟩
theorem _root_.Go.Ev.ak.iI {w0 w:World} {S:List Nat} {L:List aE} (H:ak w0 S w L) (k:Nat) {b:Nat} {t:TypeId} {c0:Int} {c1:Int} {c2:Int} {c3:Int} {c4:Int} {c5:Bool} {K:Int→Int→Int→Int→Int→Bool→Prop} (hk:L[k]? = some (.av b (q8 c0 c1 c2 c3 c4 c5) t)) (hK:K c0 c1 c2 c3 c4 c5):iI ⟨b,0,none⟩ w K:=
 Dk (fun i v hv=>H.cell k hk (au b i) hv) hK
theorem _root_.Go.Ev.ak.oh {w0 w:World} {S:List Nat} {L:List aE} (H:ak w0 S w L) (k:Nat) {b:Nat} {t:TypeId} {cs:List Value} {c0:Int} {c1:Int} {c2:Int} {c3:Int} {c4:Int} {c5:Bool} {K:World→Prop} (hk:L[k]? = some (.av b cs t)) (hl:cs.length=6) (h:∀ w',ak w0 S w' (L.set k (.av b (q8 c0 c1 c2 c3 c4 c5) t))→K w'):oh ⟨b,0,none⟩ c0 c1 c2 c3 c4 c5 w K:=by
 have bO:k<L.length:=(List.getElem?_eq_some_iff.1 hk).1
 obtain ⟨u0,u1,u2,u3,u4,u5,rfl⟩:∃ u0 u1 u2 u3 u4 u5,cs=[u0,u1,u2,u3,u4,u5]:=by
  match cs,hl with
  | [u0,u1,u2,u3,u4,u5],_=>exact ⟨u0,u1,u2,u3,u4,u5,rfl⟩
 refine H.st k hk (au b 0) (by simp) rfl fun w0 H0=>?_
 simp only [List.set_set,List.set_cons_zero,List.set_cons_succ] at H0
 refine H0.st k (List.getElem?_set_self bO) (au b 1) (by simp) rfl fun w1 H1=>?_
 simp only [List.set_set,List.set_cons_zero,List.set_cons_succ] at H1
 refine H1.st k (List.getElem?_set_self bO) (au b 2) (by simp) rfl fun w2 H2=>?_
 simp only [List.set_set,List.set_cons_zero,List.set_cons_succ] at H2
 refine H2.st k (List.getElem?_set_self bO) (au b 3) (by simp) rfl fun w3 H3=>?_
 simp only [List.set_set,List.set_cons_zero,List.set_cons_succ] at H3
 refine H3.st k (List.getElem?_set_self bO) (au b 4) (by simp) rfl fun w4 H4=>?_
 simp only [List.set_set,List.set_cons_zero,List.set_cons_succ] at H4
 refine H4.st k (List.getElem?_set_self bO) (au b 5) (by simp) rfl fun w5 H5=>?_
 simp only [List.set_set,List.set_cons_zero,List.set_cons_succ] at H5
 exact h _ H5
theorem US {c0:Int} {c1:Int} {c2:Int} {c3:Int} {c4:Int} {c5:Bool} {K:Int→Int→Int→Int→Int→Bool→Prop} (hK:K c0 c1 c2 c3 c4 c5):NM (.agg ⟨q8 c0 c1 c2 c3 c4 c5⟩) K:=
 ⟨_,rfl,c0,rfl,c1,rfl,c2,rfl,c3,rfl,c4,rfl,c5,rfl,rfl,hK⟩
@[reducible] def ku (c0:Int) (c1:Int) (c2:ByteArray):List Value:=[.int .i64 c0,.int .i64 c1,.string c2]
theorem C9 {a:Addr} {w:World} {c0:Int} {c1:Int} {c2:ByteArray} {K:Int→Int→ByteArray→Prop} (h:∀ (i:Nat) (v:Value),(ku c0 c1 c2)[i]? = some v→w.cell? (Addr.add a i)=some v) (hK:K c0 c1 c2):AS a w K:=
 ⟨_,h 0 _ rfl,⟨_,h 1 _ rfl,⟨_,h 2 _ rfl,hK⟩⟩⟩
theorem _root_.Go.Ev.ak.AU {w0 w:World} {S:List Nat} {L:List aE} (H:ak w0 S w L) (k:Nat) {b:Nat} {t:TypeId} {cs:List Value} {c0:Int} {c1:Int} {c2:ByteArray} {K:World→Prop} (hk:L[k]? = some (.av b cs t)) (hl:cs.length=3) (h:∀ w',ak w0 S w' (L.set k (.av b (ku c0 c1 c2) t))→K w'):AU ⟨b,0,none⟩ c0 c1 c2 w K:=by
 have bO:k<L.length:=(List.getElem?_eq_some_iff.1 hk).1
 obtain ⟨u0,u1,u2,rfl⟩:∃ u0 u1 u2,cs=[u0,u1,u2]:=by
  match cs,hl with
  | [u0,u1,u2],_=>exact ⟨u0,u1,u2,rfl⟩
 refine H.st k hk (au b 0) (by simp) rfl fun w0 H0=>?_
 simp only [List.set_set,List.set_cons_zero,List.set_cons_succ] at H0
 refine H0.st k (List.getElem?_set_self bO) (au b 1) (by simp) rfl fun w1 H1=>?_
 simp only [List.set_set,List.set_cons_zero,List.set_cons_succ] at H1
 refine H1.st k (List.getElem?_set_self bO) (au b 2) (by simp) rfl fun w2 H2=>?_
 simp only [List.set_set,List.set_cons_zero,List.set_cons_succ] at H2
 exact h _ H2
@[reducible] def HA (c0:Int) (c1:Int) (c2:Int) (c3:Int) (c4:Int) (c5:Int) (c6:Int) (c7:Int) (c8:Int):List Value:=[.int .i64 c0,.int .i64 c1,.int .i64 c2,.int .i64 c3,.int .i64 c4,.int .i64 c5,.int .i64 c6,.int .i64 c7,.int .i64 c8]
theorem aey {a:Addr} {w:World} {c0:Int} {c1:Int} {c2:Int} {c3:Int} {c4:Int} {c5:Int} {c6:Int} {c7:Int} {c8:Int} {K:Int→Int→Int→Int→Int→Int→Int→Int→Int→Prop} (h:∀ (i:Nat) (v:Value),(HA c0 c1 c2 c3 c4 c5 c6 c7 c8)[i]? = some v→w.cell? (Addr.add a i)=some v) (hK:K c0 c1 c2 c3 c4 c5 c6 c7 c8):oV a w K:=
 ⟨_,h 0 _ rfl,⟨_,h 1 _ rfl,⟨_,h 2 _ rfl,⟨_,h 3 _ rfl,⟨_,h 4 _ rfl,⟨_,h 5 _ rfl,⟨_,h 6 _ rfl,⟨_,h 7 _ rfl,⟨_,h 8 _ rfl,hK⟩⟩⟩⟩⟩⟩⟩⟩⟩
theorem _root_.Go.Ev.ak.oV {w0 w:World} {S:List Nat} {L:List aE} (H:ak w0 S w L) (k:Nat) {b:Nat} {t:TypeId} {c0:Int} {c1:Int} {c2:Int} {c3:Int} {c4:Int} {c5:Int} {c6:Int} {c7:Int} {c8:Int} {K:Int→Int→Int→Int→Int→Int→Int→Int→Int→Prop} (hk:L[k]? = some (.av b (HA c0 c1 c2 c3 c4 c5 c6 c7 c8) t)) (hK:K c0 c1 c2 c3 c4 c5 c6 c7 c8):oV ⟨b,0,none⟩ w K:=
 aey (fun i v hv=>H.cell k hk (au b i) hv) hK
theorem _root_.Go.Ev.ak.qp {w0 w:World} {S:List Nat} {L:List aE} (H:ak w0 S w L) (k:Nat) {b:Nat} {t:TypeId} {cs:List Value} {c0:Int} {c1:Int} {c2:Int} {c3:Int} {c4:Int} {c5:Int} {c6:Int} {c7:Int} {c8:Int} {K:World→Prop} (hk:L[k]? = some (.av b cs t)) (hl:cs.length=9) (h:∀ w',ak w0 S w' (L.set k (.av b (HA c0 c1 c2 c3 c4 c5 c6 c7 c8) t))→K w'):qp ⟨b,0,none⟩ c0 c1 c2 c3 c4 c5 c6 c7 c8 w K:=by
 have bO:k<L.length:=(List.getElem?_eq_some_iff.1 hk).1
 obtain ⟨u0,u1,u2,u3,u4,u5,u6,u7,u8,rfl⟩:∃ u0 u1 u2 u3 u4 u5 u6 u7 u8,cs=[u0,u1,u2,u3,u4,u5,u6,u7,u8]:=by
  match cs,hl with
  | [u0,u1,u2,u3,u4,u5,u6,u7,u8],_=>exact ⟨u0,u1,u2,u3,u4,u5,u6,u7,u8,rfl⟩
 refine H.st k hk (au b 0) (by simp) rfl fun w0 H0=>?_
 simp only [List.set_set,List.set_cons_zero,List.set_cons_succ] at H0
 refine H0.st k (List.getElem?_set_self bO) (au b 1) (by simp) rfl fun w1 H1=>?_
 simp only [List.set_set,List.set_cons_zero,List.set_cons_succ] at H1
 refine H1.st k (List.getElem?_set_self bO) (au b 2) (by simp) rfl fun w2 H2=>?_
 simp only [List.set_set,List.set_cons_zero,List.set_cons_succ] at H2
 refine H2.st k (List.getElem?_set_self bO) (au b 3) (by simp) rfl fun w3 H3=>?_
 simp only [List.set_set,List.set_cons_zero,List.set_cons_succ] at H3
 refine H3.st k (List.getElem?_set_self bO) (au b 4) (by simp) rfl fun w4 H4=>?_
 simp only [List.set_set,List.set_cons_zero,List.set_cons_succ] at H4
 refine H4.st k (List.getElem?_set_self bO) (au b 5) (by simp) rfl fun w5 H5=>?_
 simp only [List.set_set,List.set_cons_zero,List.set_cons_succ] at H5
 refine H5.st k (List.getElem?_set_self bO) (au b 6) (by simp) rfl fun w6 H6=>?_
 simp only [List.set_set,List.set_cons_zero,List.set_cons_succ] at H6
 refine H6.st k (List.getElem?_set_self bO) (au b 7) (by simp) rfl fun w7 H7=>?_
 simp only [List.set_set,List.set_cons_zero,List.set_cons_succ] at H7
 refine H7.st k (List.getElem?_set_self bO) (au b 8) (by simp) rfl fun w8 H8=>?_
 simp only [List.set_set,List.set_cons_zero,List.set_cons_succ] at H8
 exact h _ H8
theorem aez {c0:Int} {c1:Int} {c2:Int} {c3:Int} {c4:Int} {c5:Int} {c6:Int} {c7:Int} {c8:Int} {K:Int→Int→Int→Int→Int→Int→Int→Int→Int→Prop} (hK:K c0 c1 c2 c3 c4 c5 c6 c7 c8):NN (.agg ⟨HA c0 c1 c2 c3 c4 c5 c6 c7 c8⟩) K:=
 ⟨_,rfl,c0,rfl,c1,rfl,c2,rfl,c3,rfl,c4,rfl,c5,rfl,c6,rfl,c7,rfl,c8,rfl,rfl,hK⟩
@[reducible] def DP (c0:Int) (c1:Int) (c2:Int) (c3:Int) (c4:Int) (c5:Int) (c6:Int) (c7:Int) (c8:Int):List Value:=[.int .i64 c0,.int .i64 c1,.int .i64 c2,.int .i64 c3,.int .i64 c4,.int .i64 c5,.int .i64 c6,.int .i64 c7,.int .i64 c8]
theorem af0 {a:Addr} {w:World} {c0:Int} {c1:Int} {c2:Int} {c3:Int} {c4:Int} {c5:Int} {c6:Int} {c7:Int} {c8:Int} {K:Int→Int→Int→Int→Int→Int→Int→Int→Int→Prop} (h:∀ (i:Nat) (v:Value),(DP c0 c1 c2 c3 c4 c5 c6 c7 c8)[i]? = some v→w.cell? (Addr.add a i)=some v) (hK:K c0 c1 c2 c3 c4 c5 c6 c7 c8):rj a w K:=
 ⟨_,h 0 _ rfl,⟨_,h 1 _ rfl,⟨_,h 2 _ rfl,⟨_,h 3 _ rfl,⟨_,h 4 _ rfl,⟨_,h 5 _ rfl,⟨_,h 6 _ rfl,⟨_,h 7 _ rfl,⟨_,h 8 _ rfl,hK⟩⟩⟩⟩⟩⟩⟩⟩⟩
theorem _root_.Go.Ev.ak.rj {w0 w:World} {S:List Nat} {L:List aE} (H:ak w0 S w L) (k:Nat) {b:Nat} {t:TypeId} {c0:Int} {c1:Int} {c2:Int} {c3:Int} {c4:Int} {c5:Int} {c6:Int} {c7:Int} {c8:Int} {K:Int→Int→Int→Int→Int→Int→Int→Int→Int→Prop} (hk:L[k]? = some (.av b (DP c0 c1 c2 c3 c4 c5 c6 c7 c8) t)) (hK:K c0 c1 c2 c3 c4 c5 c6 c7 c8):rj ⟨b,0,none⟩ w K:=
 af0 (fun i v hv=>H.cell k hk (au b i) hv) hK
theorem _root_.Go.Ev.ak.mO {w0 w:World} {S:List Nat} {L:List aE} (H:ak w0 S w L) (k:Nat) {b:Nat} {t:TypeId} {cs:List Value} {c0:Int} {c1:Int} {c2:Int} {c3:Int} {c4:Int} {c5:Int} {c6:Int} {c7:Int} {c8:Int} {K:World→Prop} (hk:L[k]? = some (.av b cs t)) (hl:cs.length=9) (h:∀ w',ak w0 S w' (L.set k (.av b (DP c0 c1 c2 c3 c4 c5 c6 c7 c8) t))→K w'):mO ⟨b,0,none⟩ c0 c1 c2 c3 c4 c5 c6 c7 c8 w K:=by
 have bO:k<L.length:=(List.getElem?_eq_some_iff.1 hk).1
 obtain ⟨u0,u1,u2,u3,u4,u5,u6,u7,u8,rfl⟩:∃ u0 u1 u2 u3 u4 u5 u6 u7 u8,cs=[u0,u1,u2,u3,u4,u5,u6,u7,u8]:=by
  match cs,hl with
  | [u0,u1,u2,u3,u4,u5,u6,u7,u8],_=>exact ⟨u0,u1,u2,u3,u4,u5,u6,u7,u8,rfl⟩
 refine H.st k hk (au b 0) (by simp) rfl fun w0 H0=>?_
 simp only [List.set_set,List.set_cons_zero,List.set_cons_succ] at H0
 refine H0.st k (List.getElem?_set_self bO) (au b 1) (by simp) rfl fun w1 H1=>?_
 simp only [List.set_set,List.set_cons_zero,List.set_cons_succ] at H1
 refine H1.st k (List.getElem?_set_self bO) (au b 2) (by simp) rfl fun w2 H2=>?_
 simp only [List.set_set,List.set_cons_zero,List.set_cons_succ] at H2
 refine H2.st k (List.getElem?_set_self bO) (au b 3) (by simp) rfl fun w3 H3=>?_
 simp only [List.set_set,List.set_cons_zero,List.set_cons_succ] at H3
 refine H3.st k (List.getElem?_set_self bO) (au b 4) (by simp) rfl fun w4 H4=>?_
 simp only [List.set_set,List.set_cons_zero,List.set_cons_succ] at H4
 refine H4.st k (List.getElem?_set_self bO) (au b 5) (by simp) rfl fun w5 H5=>?_
 simp only [List.set_set,List.set_cons_zero,List.set_cons_succ] at H5
 refine H5.st k (List.getElem?_set_self bO) (au b 6) (by simp) rfl fun w6 H6=>?_
 simp only [List.set_set,List.set_cons_zero,List.set_cons_succ] at H6
 refine H6.st k (List.getElem?_set_self bO) (au b 7) (by simp) rfl fun w7 H7=>?_
 simp only [List.set_set,List.set_cons_zero,List.set_cons_succ] at H7
 refine H7.st k (List.getElem?_set_self bO) (au b 8) (by simp) rfl fun w8 H8=>?_
 simp only [List.set_set,List.set_cons_zero,List.set_cons_succ] at H8
 exact h _ H8
theorem Hq {c0:Int} {c1:Int} {c2:Int} {c3:Int} {c4:Int} {c5:Int} {c6:Int} {c7:Int} {c8:Int} {K:Int→Int→Int→Int→Int→Int→Int→Int→Int→Prop} (hK:K c0 c1 c2 c3 c4 c5 c6 c7 c8):We (.agg ⟨DP c0 c1 c2 c3 c4 c5 c6 c7 c8⟩) K:=
 ⟨_,rfl,c0,rfl,c1,rfl,c2,rfl,c3,rfl,c4,rfl,c5,rfl,c6,rfl,c7,rfl,c8,rfl,rfl,hK⟩
@[reducible] def yP (c0:ah) (c1:ah) (c2:ah) (c3:ah):List Value:=[.slice c0.a c0.n c0.c,.slice c1.a c1.n c1.c,.slice c2.a c2.n c2.c,.slice c3.a c3.n c3.c]
theorem af1 {a:Addr} {w:World} {c0:ah} {c1:ah} {c2:ah} {c3:ah} {K:ah→ah→ah→ah→Prop} (h:∀ (i:Nat) (v:Value),(yP c0 c1 c2 c3)[i]? = some v→w.cell? (Addr.add a i)=some v) (hK:K c0 c1 c2 c3):DO a w K:=
 ⟨c0,h 0 _ rfl,⟨c1,h 1 _ rfl,⟨c2,h 2 _ rfl,⟨c3,h 3 _ rfl,hK⟩⟩⟩⟩
theorem _root_.Go.Ev.ak.DO {w0 w:World} {S:List Nat} {L:List aE} (H:ak w0 S w L) (k:Nat) {b:Nat} {t:TypeId} {c0:ah} {c1:ah} {c2:ah} {c3:ah} {K:ah→ah→ah→ah→Prop} (hk:L[k]? = some (.av b (yP c0 c1 c2 c3) t)) (hK:K c0 c1 c2 c3):DO ⟨b,0,none⟩ w K:=
 af1 (fun i v hv=>H.cell k hk (au b i) hv) hK
theorem _root_.Go.Ev.ak.wN {w0 w:World} {S:List Nat} {L:List aE} (H:ak w0 S w L) (k:Nat) {b:Nat} {t:TypeId} {cs:List Value} {c0:ah} {c1:ah} {c2:ah} {c3:ah} {K:World→Prop} (hk:L[k]? = some (.av b cs t)) (hl:cs.length=4) (h:∀ w',ak w0 S w' (L.set k (.av b (yP c0 c1 c2 c3) t))→K w'):wN ⟨b,0,none⟩ c0 c1 c2 c3 w K:=by
 have bO:k<L.length:=(List.getElem?_eq_some_iff.1 hk).1
 obtain ⟨u0,u1,u2,u3,rfl⟩:∃ u0 u1 u2 u3,cs=[u0,u1,u2,u3]:=by
  match cs,hl with
  | [u0,u1,u2,u3],_=>exact ⟨u0,u1,u2,u3,rfl⟩
 refine H.st k hk (au b 0) (by simp) rfl fun w0 H0=>?_
 simp only [List.set_set,List.set_cons_zero,List.set_cons_succ] at H0
 refine H0.st k (List.getElem?_set_self bO) (au b 1) (by simp) rfl fun w1 H1=>?_
 simp only [List.set_set,List.set_cons_zero,List.set_cons_succ] at H1
 refine H1.st k (List.getElem?_set_self bO) (au b 2) (by simp) rfl fun w2 H2=>?_
 simp only [List.set_set,List.set_cons_zero,List.set_cons_succ] at H2
 refine H2.st k (List.getElem?_set_self bO) (au b 3) (by simp) rfl fun w3 H3=>?_
 simp only [List.set_set,List.set_cons_zero,List.set_cons_succ] at H3
 exact h _ H3
theorem Vr {c0:ah} {c1:ah} {c2:ah} {c3:ah} {K:ah→ah→ah→ah→Prop} (hK:K c0 c1 c2 c3):PK (.agg ⟨yP c0 c1 c2 c3⟩) K:=
 ⟨_,rfl,c0,rfl,c1,rfl,c2,rfl,c3,rfl,rfl,hK⟩
@[reducible] def DQ (c0:Int) (c1:Int) (c2:Int) (c3:Int) (c4:Int):List Value:=[.int .i64 c0,.int .i64 c1,.int .i64 c2,.int .i64 c3,.int .i64 c4]
theorem af2 {a:Addr} {w:World} {c0:Int} {c1:Int} {c2:Int} {c3:Int} {c4:Int} {K:Int→Int→Int→Int→Int→Prop} (h:∀ (i:Nat) (v:Value),(DQ c0 c1 c2 c3 c4)[i]? = some v→w.cell? (Addr.add a i)=some v) (hK:K c0 c1 c2 c3 c4):mP a w K:=
 ⟨_,h 0 _ rfl,⟨_,h 1 _ rfl,⟨_,h 2 _ rfl,⟨_,h 3 _ rfl,⟨_,h 4 _ rfl,hK⟩⟩⟩⟩⟩
theorem _root_.Go.Ev.ak.mP {w0 w:World} {S:List Nat} {L:List aE} (H:ak w0 S w L) (k:Nat) {b:Nat} {t:TypeId} {c0:Int} {c1:Int} {c2:Int} {c3:Int} {c4:Int} {K:Int→Int→Int→Int→Int→Prop} (hk:L[k]? = some (.av b (DQ c0 c1 c2 c3 c4) t)) (hK:K c0 c1 c2 c3 c4):mP ⟨b,0,none⟩ w K:=
 af2 (fun i v hv=>H.cell k hk (au b i) hv) hK
theorem _root_.Go.Ev.ak.jh {w0 w:World} {S:List Nat} {L:List aE} (H:ak w0 S w L) (k:Nat) {b:Nat} {t:TypeId} {cs:List Value} {c0:Int} {c1:Int} {c2:Int} {c3:Int} {c4:Int} {K:World→Prop} (hk:L[k]? = some (.av b cs t)) (hl:cs.length=5) (h:∀ w',ak w0 S w' (L.set k (.av b (DQ c0 c1 c2 c3 c4) t))→K w'):jh ⟨b,0,none⟩ c0 c1 c2 c3 c4 w K:=by
 have bO:k<L.length:=(List.getElem?_eq_some_iff.1 hk).1
 obtain ⟨u0,u1,u2,u3,u4,rfl⟩:∃ u0 u1 u2 u3 u4,cs=[u0,u1,u2,u3,u4]:=by
  match cs,hl with
  | [u0,u1,u2,u3,u4],_=>exact ⟨u0,u1,u2,u3,u4,rfl⟩
 refine H.st k hk (au b 0) (by simp) rfl fun w0 H0=>?_
 simp only [List.set_set,List.set_cons_zero,List.set_cons_succ] at H0
 refine H0.st k (List.getElem?_set_self bO) (au b 1) (by simp) rfl fun w1 H1=>?_
 simp only [List.set_set,List.set_cons_zero,List.set_cons_succ] at H1
 refine H1.st k (List.getElem?_set_self bO) (au b 2) (by simp) rfl fun w2 H2=>?_
 simp only [List.set_set,List.set_cons_zero,List.set_cons_succ] at H2
 refine H2.st k (List.getElem?_set_self bO) (au b 3) (by simp) rfl fun w3 H3=>?_
 simp only [List.set_set,List.set_cons_zero,List.set_cons_succ] at H3
 refine H3.st k (List.getElem?_set_self bO) (au b 4) (by simp) rfl fun w4 H4=>?_
 simp only [List.set_set,List.set_cons_zero,List.set_cons_succ] at H4
 exact h _ H4
theorem af3 {c0:Int} {c1:Int} {c2:Int} {c3:Int} {c4:Int} {K:Int→Int→Int→Int→Int→Prop} (hK:K c0 c1 c2 c3 c4):uJ (.agg ⟨DQ c0 c1 c2 c3 c4⟩) K:=
 ⟨_,rfl,c0,rfl,c1,rfl,c2,rfl,c3,rfl,c4,rfl,rfl,hK⟩
end Go.Proofs.YtgjoehgomjgckaaGreatDoor
end
