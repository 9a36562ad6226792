/- Texts of this claim, packed and shortened. -/
import Derived.KernelRfl
import Derived.Test.YtgjoehgomjgckaaGreatDoorRows
import Derived.Test.YtgjoehgomjgckaaGreatDoorCards
import Derived.Test.YtgjoehgomjgckaaGreatDoorTie
import Derived.LaidLaws
import Derived.LaidHandle
import Derived.JoinedCond
import Derived.ChangeSlices
import Derived.Deep.Matrix
import Derived.Deep.AppendSrc
import Derived.Lib.AppendZerosOnto
import Derived.Laws.IdiomStrings
import Derived.Laws.BytesString
import Derived.Test.YtgjoehgomjgckaaGreatDoorQ1
import Derived.Test.YtgjoehgomjgckaaGreatDoorAErrCode
section
set_option linter.unusedVariables false
set_option linter.unusedSimpArgs false
namespace Go.Proofs.YtgjoehgomjgckaaGreatDoor
open Go Go.Ev
set_option maxRecDepth 100000
set_option linter.unusedVariables false
theorem ahS:(Pr.funcs.all fun fn=>fn.name != "runtime.NumGoroutine")=true:=by kernel_rfl
theorem ahT:Pr.follows .mixedOrders=true:=by kernel_rfl
theorem aJ:Go.Ev.Good Pr where
 names:=fun f fn h e=>by
  have:=Array.all_eq_true_iff_forall_mem.1 ahS fn (Array.mem_of_getElem? h)
  simp [e] at this
 mixed:=ahT
abbrev S_a:ByteArray:=⟨#[97]⟩
abbrev oN:ByteArray:=⟨#[114]⟩
abbrev akK:ByteArray:=⟨#[97,112,112,108,121]⟩
abbrev QW:ByteArray:=⟨#[110,111,110,99,101,115]⟩
abbrev aiA:ByteArray:=⟨#[116,101,110,97,110,116,115]⟩
abbrev alD:ByteArray:=⟨#[107,101,121,115]⟩
abbrev ajv:ByteArray:=⟨#[103,114,97,110,116,115]⟩
abbrev am8:ByteArray:=⟨#[107,101,109]⟩
abbrev am9:ByteArray:=⟨#[112,107,101]⟩
abbrev sR:ByteArray:=⟨#[0,1,2,2,3,3,3,3,4,4,4,4,4,4,4,4,5,5,5,5,5,5,5,5,5,5,5,5,5,5,5,5,6,6,6,6,6,6,6,6,6,6,6,6,6,6,6,6,6,6,6,6,6,6,6,6,6,6,6,6,6,6,6,6,7,7,7,7,7,7,7,7,7,7,7,7,7,7,7,7,7,7,7,7,7,7,7,7,7,7,7,7,7,7,7,7,7,7,7,7,7,7,7,7,7,7,7,7,7,7,7,7,7,7,7,7,7,7,7,7,7,7,7,7,7,7,7,7,8,8,8,8,8,8,8,8,8,8,8,8,8,8,8,8,8,8,8,8,8,8,8,8,8,8,8,8,8,8,8,8,8,8,8,8,8,8,8,8,8,8,8,8,8,8,8,8,8,8,8,8,8,8,8,8,8,8,8,8,8,8,8,8,8,8,8,8,8,8,8,8,8,8,8,8,8,8,8,8,8,8,8,8,8,8,8,8,8,8,8,8,8,8,8,8,8,8,8,8,8,8,8,8,8,8,8,8,8,8,8,8,8,8,8,8,8,8,8,8,8,8,8,8,8,8,8,8]⟩
abbrev alE:ByteArray:=⟨#[100,114,97,119]⟩
def iX (a:Addr) (w:World) (K:Int→Int→Int→Int→Int→Int→Int→Int→Int→Int→Int→ByteArray→ah→ah→Prop):Prop:=
 an .i64 (Addr.add a 0) w fun c0=>
 an .i64 (Addr.add a 1) w fun c1=>
 an .i64 (Addr.add a 2) w fun c2=>
 an .i64 (Addr.add a 3) w fun c3=>
 an .i64 (Addr.add a 4) w fun c4=>
 an .i64 (Addr.add a 5) w fun c5=>
 an .i64 (Addr.add a 6) w fun c6=>
 an .i64 (Addr.add a 7) w fun c7=>
 an .i64 (Addr.add a 8) w fun c8=>
 an .i64 (Addr.add a 9) w fun c9=>
 an .i64 (Addr.add a 10) w fun jP=>
 fW (Addr.add a 11) w fun jQ=>
 ax (Addr.add a 12) w fun gC=>
 ax (Addr.add a 13) w fun gD=>
 K c0 c1 c2 c3 c4 c5 c6 c7 c8 c9 jP jQ gC gD
def HI (a:Addr) (c0:Int) (c1:Int) (c2:Int) (c3:Int) (c4:Int) (c5:Int) (c6:Int) (c7:Int) (c8:Int) (c9:Int) (jP:Int) (jQ:ByteArray) (gC:ah) (gD:ah) (w:World) (K:World→Prop):Prop:=
 st (Addr.add a 0) (.int .i64 c0) w fun w=>
 st (Addr.add a 1) (.int .i64 c1) w fun w=>
 st (Addr.add a 2) (.int .i64 c2) w fun w=>
 st (Addr.add a 3) (.int .i64 c3) w fun w=>
 st (Addr.add a 4) (.int .i64 c4) w fun w=>
 st (Addr.add a 5) (.int .i64 c5) w fun w=>
 st (Addr.add a 6) (.int .i64 c6) w fun w=>
 st (Addr.add a 7) (.int .i64 c7) w fun w=>
 st (Addr.add a 8) (.int .i64 c8) w fun w=>
 st (Addr.add a 9) (.int .i64 c9) w fun w=>
 st (Addr.add a 10) (.int .i64 jP) w fun w=>
 st (Addr.add a 11) (.string jQ) w fun w=>
 st (Addr.add a 12) (.slice gC.a gC.n gC.c) w fun w=>
 st (Addr.add a 13) (.slice gD.a gD.n gD.c) w fun w=>
 K w
def NK (a:Addr) (w:World) (K:Int→Int→Int→Int→Int→Int→Int→Int→Int→Int→Int→ByteArray→ah→ah→ah→Bool→Prop):Prop:=
 an .i64 (Addr.add a 0) w fun c0=>
 an .i64 (Addr.add a 1) w fun c1=>
 an .i64 (Addr.add a 2) w fun c2=>
 an .i64 (Addr.add a 3) w fun c3=>
 an .i64 (Addr.add a 4) w fun c4=>
 an .i64 (Addr.add a 5) w fun c5=>
 an .i64 (Addr.add a 6) w fun c6=>
 an .i64 (Addr.add a 7) w fun c7=>
 an .i64 (Addr.add a 8) w fun c8=>
 an .i64 (Addr.add a 9) w fun c9=>
 an .i64 (Addr.add a 10) w fun jP=>
 fW (Addr.add a 11) w fun jQ=>
 ax (Addr.add a 12) w fun gC=>
 ax (Addr.add a 13) w fun gD=>
 ax (Addr.add a 14) w fun vD=>
 l5 (Addr.add a 15) w fun CA=>
 K c0 c1 c2 c3 c4 c5 c6 c7 c8 c9 jP jQ gC gD vD CA
def bN (a:Addr) (w:World) (K:Int→ah→ah→ah→ah→ah→Prop):Prop:=
 an .i64 (Addr.add a 0) w fun c0=>
 ax (Addr.add a 1) w fun c1=>
 ax (Addr.add a 2) w fun c2=>
 ax (Addr.add a 3) w fun c3=>
 ax (Addr.add a 4) w fun c4=>
 ax (Addr.add a 5) w fun c5=>
 K c0 c1 c2 c3 c4 c5
def bI (a:Addr) (c0:Int) (c1:ah) (c2:ah) (c3:ah) (c4:ah) (c5:ah) (w:World) (K:World→Prop):Prop:=
 st (Addr.add a 0) (.int .i64 c0) w fun w=>
 st (Addr.add a 1) (.slice c1.a c1.n c1.c) w fun w=>
 st (Addr.add a 2) (.slice c2.a c2.n c2.c) w fun w=>
 st (Addr.add a 3) (.slice c3.a c3.n c3.c) w fun w=>
 st (Addr.add a 4) (.slice c4.a c4.n c4.c) w fun w=>
 st (Addr.add a 5) (.slice c5.a c5.n c5.c) w fun w=>
 K w
def dJ (v:Value) (K:Int→ah→ah→ah→ah→ah→Prop):Prop:=
 jY v fun r=>
 aC r fun v0 r=>
 aY .i64 v0 fun c0=>
 aC r fun v1 r=>
 aT v1 fun c1=>
 aC r fun v2 r=>
 aT v2 fun c2=>
 aC r fun v3 r=>
 aT v3 fun c3=>
 aC r fun v4 r=>
 aT v4 fun c4=>
 aC r fun v5 r=>
 aT v5 fun c5=>
 (r=[]∧K c0 c1 c2 c3 c4 c5)
def cz (a:Addr) (w:World) (K:Int→Int→ah→ah→Prop):Prop:=
 an .i64 (Addr.add a 0) w fun c0=>
 an .i64 (Addr.add a 1) w fun c1=>
 ax (Addr.add a 2) w fun c2=>
 ax (Addr.add a 3) w fun c3=>
 K c0 c1 c2 c3
def bF (a:Addr) (c0:Int) (c1:Int) (c2:ah) (c3:ah) (w:World) (K:World→Prop):Prop:=
 st (Addr.add a 0) (.int .i64 c0) w fun w=>
 st (Addr.add a 1) (.int .i64 c1) w fun w=>
 st (Addr.add a 2) (.slice c2.a c2.n c2.c) w fun w=>
 st (Addr.add a 3) (.slice c3.a c3.n c3.c) w fun w=>
 K w
def fF (v:Value) (K:Int→Int→ah→ah→Prop):Prop:=
 jY v fun r=>
 aC r fun v0 r=>
 aY .i64 v0 fun c0=>
 aC r fun v1 r=>
 aY .i64 v1 fun c1=>
 aC r fun v2 r=>
 aT v2 fun c2=>
 aC r fun v3 r=>
 aT v3 fun c3=>
 (r=[]∧K c0 c1 c2 c3)
def bu (a:Addr) (w:World) (K:Int→Int→Int→ah→Prop):Prop:=
 an .i64 (Addr.add a 0) w fun c0=>
 an .i64 (Addr.add a 1) w fun c1=>
 an .i64 (Addr.add a 2) w fun c2=>
 ax (Addr.add a 3) w fun c3=>
 K c0 c1 c2 c3
def cD (a:Addr) (c0:Int) (c1:Int) (c2:Int) (c3:ah) (w:World) (K:World→Prop):Prop:=
 st (Addr.add a 0) (.int .i64 c0) w fun w=>
 st (Addr.add a 1) (.int .i64 c1) w fun w=>
 st (Addr.add a 2) (.int .i64 c2) w fun w=>
 st (Addr.add a 3) (.slice c3.a c3.n c3.c) w fun w=>
 K w
def qZ (v:Value) (K:Int→Int→Int→ah→Prop):Prop:=
 jY v fun r=>
 aC r fun v0 r=>
 aY .i64 v0 fun c0=>
 aC r fun v1 r=>
 aY .i64 v1 fun c1=>
 aC r fun v2 r=>
 aY .i64 v2 fun c2=>
 aC r fun v3 r=>
 aT v3 fun c3=>
 (r=[]∧K c0 c1 c2 c3)
def jt (a:Addr) (w:World) (K:Int→Int→Int→ah→Prop):Prop:=
 an .i64 (Addr.add a 0) w fun c0=>
 an .i64 (Addr.add a 1) w fun c1=>
 an .i64 (Addr.add a 2) w fun c2=>
 ax (Addr.add a 3) w fun c3=>
 K c0 c1 c2 c3
def gx (a:Addr) (c0:Int) (c1:Int) (c2:Int) (c3:ah) (w:World) (K:World→Prop):Prop:=
 st (Addr.add a 0) (.int .i64 c0) w fun w=>
 st (Addr.add a 1) (.int .i64 c1) w fun w=>
 st (Addr.add a 2) (.int .i64 c2) w fun w=>
 st (Addr.add a 3) (.slice c3.a c3.n c3.c) w fun w=>
 K w
def uu (v:Value) (K:Int→Int→Int→ah→Prop):Prop:=
 jY v fun r=>
 aC r fun v0 r=>
 aY .i64 v0 fun c0=>
 aC r fun v1 r=>
 aY .i64 v1 fun c1=>
 aC r fun v2 r=>
 aY .i64 v2 fun c2=>
 aC r fun v3 r=>
 aT v3 fun c3=>
 (r=[]∧K c0 c1 c2 c3)
def MU (a:Addr) (w:World) (K:Int→Int→ah→Int→Int→Prop):Prop:=
 an .i64 (Addr.add a 0) w fun c0=>
 an .i64 (Addr.add a 1) w fun c1=>
 ax (Addr.add a 2) w fun c2=>
 an .i64 (Addr.add a 3) w fun c3=>
 an .u64 (Addr.add a 4) w fun c4=>
 K c0 c1 c2 c3 c4
def AK (a:Addr) (c0:Int) (c1:Int) (c2:ah) (c3:Int) (c4:Int) (w:World) (K:World→Prop):Prop:=
 st (Addr.add a 0) (.int .i64 c0) w fun w=>
 st (Addr.add a 1) (.int .i64 c1) w fun w=>
 st (Addr.add a 2) (.slice c2.a c2.n c2.c) w fun w=>
 st (Addr.add a 3) (.int .i64 c3) w fun w=>
 st (Addr.add a 4) (.int .u64 c4) w fun w=>
 K w
def iF (a:Addr) (w:World) (K:Int→Int→Int→Int→Int→Bool→Prop):Prop:=
 an .i64 (Addr.add a 0) w fun c0=>
 an .i64 (Addr.add a 1) w fun c1=>
 an .i64 (Addr.add a 2) w fun c2=>
 an .i64 (Addr.add a 3) w fun c3=>
 an .i64 (Addr.add a 4) w fun c4=>
 l5 (Addr.add a 5) w fun c5=>
 K c0 c1 c2 c3 c4 c5
def om (a:Addr) (c0:Int) (c1:Int) (c2:Int) (c3:Int) (c4:Int) (c5:Bool) (w:World) (K:World→Prop):Prop:=
 st (Addr.add a 0) (.int .i64 c0) w fun w=>
 st (Addr.add a 1) (.int .i64 c1) w fun w=>
 st (Addr.add a 2) (.int .i64 c2) w fun w=>
 st (Addr.add a 3) (.int .i64 c3) w fun w=>
 st (Addr.add a 4) (.int .i64 c4) w fun w=>
 st (Addr.add a 5) (.bool c5) w fun w=>
 K w
def NL (v:Value) (K:Int→Int→Int→Int→Int→Bool→Prop):Prop:=
 jY v fun r=>
 aC r fun v0 r=>
 aY .i64 v0 fun c0=>
 aC r fun v1 r=>
 aY .i64 v1 fun c1=>
 aC r fun v2 r=>
 aY .i64 v2 fun c2=>
 aC r fun v3 r=>
 aY .i64 v3 fun c3=>
 aC r fun v4 r=>
 aY .i64 v4 fun c4=>
 aC r fun v5 r=>
 aU v5 fun c5=>
 (r=[]∧K c0 c1 c2 c3 c4 c5)
def AL (a:Addr) (w:World) (K:Int→Int→ByteArray→Prop):Prop:=
 an .i64 (Addr.add a 0) w fun c0=>
 an .i64 (Addr.add a 1) w fun c1=>
 fW (Addr.add a 2) w fun c2=>
 K c0 c1 c2
def AM (a:Addr) (c0:Int) (c1:Int) (c2:ByteArray) (w:World) (K:World→Prop):Prop:=
 st (Addr.add a 0) (.int .i64 c0) w fun w=>
 st (Addr.add a 1) (.int .i64 c1) w fun w=>
 st (Addr.add a 2) (.string c2) w fun w=>
 K w
def oU (a:Addr) (w:World) (K:Int→Int→Int→Int→Int→Int→Int→Int→Int→Prop):Prop:=
 an .i64 (Addr.add a 0) w fun c0=>
 an .i64 (Addr.add a 1) w fun c1=>
 an .i64 (Addr.add a 2) w fun c2=>
 an .i64 (Addr.add a 3) w fun c3=>
 an .i64 (Addr.add a 4) w fun c4=>
 an .i64 (Addr.add a 5) w fun c5=>
 an .i64 (Addr.add a 6) w fun c6=>
 an .i64 (Addr.add a 7) w fun c7=>
 an .i64 (Addr.add a 8) w fun c8=>
 K c0 c1 c2 c3 c4 c5 c6 c7 c8
def qo (a:Addr) (c0:Int) (c1:Int) (c2:Int) (c3:Int) (c4:Int) (c5:Int) (c6:Int) (c7:Int) (c8:Int) (w:World) (K:World→Prop):Prop:=
 st (Addr.add a 0) (.int .i64 c0) w fun w=>
 st (Addr.add a 1) (.int .i64 c1) w fun w=>
 st (Addr.add a 2) (.int .i64 c2) w fun w=>
 st (Addr.add a 3) (.int .i64 c3) w fun w=>
 st (Addr.add a 4) (.int .i64 c4) w fun w=>
 st (Addr.add a 5) (.int .i64 c5) w fun w=>
 st (Addr.add a 6) (.int .i64 c6) w fun w=>
 st (Addr.add a 7) (.int .i64 c7) w fun w=>
 st (Addr.add a 8) (.int .i64 c8) w fun w=>
 K w
def NM (v:Value) (K:Int→Int→Int→Int→Int→Int→Int→Int→Int→Prop):Prop:=
 jY v fun r=>
 aC r fun v0 r=>
 aY .i64 v0 fun c0=>
 aC r fun v1 r=>
 aY .i64 v1 fun c1=>
 aC r fun v2 r=>
 aY .i64 v2 fun c2=>
 aC r fun v3 r=>
 aY .i64 v3 fun c3=>
 aC r fun v4 r=>
 aY .i64 v4 fun c4=>
 aC r fun v5 r=>
 aY .i64 v5 fun c5=>
 aC r fun v6 r=>
 aY .i64 v6 fun c6=>
 aC r fun v7 r=>
 aY .i64 v7 fun c7=>
 aC r fun v8 r=>
 aY .i64 v8 fun c8=>
 (r=[]∧K c0 c1 c2 c3 c4 c5 c6 c7 c8)
def q8 (a:Addr) (w:World) (K:Int→Int→Int→Int→Int→Int→Int→Int→Int→Prop):Prop:=
 an .i64 (Addr.add a 0) w fun c0=>
 an .i64 (Addr.add a 1) w fun c1=>
 an .i64 (Addr.add a 2) w fun c2=>
 an .i64 (Addr.add a 3) w fun c3=>
 an .i64 (Addr.add a 4) w fun c4=>
 an .i64 (Addr.add a 5) w fun c5=>
 an .i64 (Addr.add a 6) w fun c6=>
 an .i64 (Addr.add a 7) w fun c7=>
 an .i64 (Addr.add a 8) w fun c8=>
 K c0 c1 c2 c3 c4 c5 c6 c7 c8
def mQ (a:Addr) (c0:Int) (c1:Int) (c2:Int) (c3:Int) (c4:Int) (c5:Int) (c6:Int) (c7:Int) (c8:Int) (w:World) (K:World→Prop):Prop:=
 st (Addr.add a 0) (.int .i64 c0) w fun w=>
 st (Addr.add a 1) (.int .i64 c1) w fun w=>
 st (Addr.add a 2) (.int .i64 c2) w fun w=>
 st (Addr.add a 3) (.int .i64 c3) w fun w=>
 st (Addr.add a 4) (.int .i64 c4) w fun w=>
 st (Addr.add a 5) (.int .i64 c5) w fun w=>
 st (Addr.add a 6) (.int .i64 c6) w fun w=>
 st (Addr.add a 7) (.int .i64 c7) w fun w=>
 st (Addr.add a 8) (.int .i64 c8) w fun w=>
 K w
def V8 (v:Value) (K:Int→Int→Int→Int→Int→Int→Int→Int→Int→Prop):Prop:=
 jY v fun r=>
 aC r fun v0 r=>
 aY .i64 v0 fun c0=>
 aC r fun v1 r=>
 aY .i64 v1 fun c1=>
 aC r fun v2 r=>
 aY .i64 v2 fun c2=>
 aC r fun v3 r=>
 aY .i64 v3 fun c3=>
 aC r fun v4 r=>
 aY .i64 v4 fun c4=>
 aC r fun v5 r=>
 aY .i64 v5 fun c5=>
 aC r fun v6 r=>
 aY .i64 v6 fun c6=>
 aC r fun v7 r=>
 aY .i64 v7 fun c7=>
 aC r fun v8 r=>
 aY .i64 v8 fun c8=>
 (r=[]∧K c0 c1 c2 c3 c4 c5 c6 c7 c8)
def DE (a:Addr) (w:World) (K:ah→ah→ah→ah→Prop):Prop:=
 ax (Addr.add a 0) w fun c0=>
 ax (Addr.add a 1) w fun c1=>
 ax (Addr.add a 2) w fun c2=>
 ax (Addr.add a 3) w fun c3=>
 K c0 c1 c2 c3
def wE (a:Addr) (c0:ah) (c1:ah) (c2:ah) (c3:ah) (w:World) (K:World→Prop):Prop:=
 st (Addr.add a 0) (.slice c0.a c0.n c0.c) w fun w=>
 st (Addr.add a 1) (.slice c1.a c1.n c1.c) w fun w=>
 st (Addr.add a 2) (.slice c2.a c2.n c2.c) w fun w=>
 st (Addr.add a 3) (.slice c3.a c3.n c3.c) w fun w=>
 K w
def PK (v:Value) (K:ah→ah→ah→ah→Prop):Prop:=
 jY v fun r=>
 aC r fun v0 r=>
 aT v0 fun c0=>
 aC r fun v1 r=>
 aT v1 fun c1=>
 aC r fun v2 r=>
 aT v2 fun c2=>
 aC r fun v3 r=>
 aT v3 fun c3=>
 (r=[]∧K c0 c1 c2 c3)
def mS (a:Addr) (w:World) (K:Int→Int→Int→Int→Int→Prop):Prop:=
 an .i64 (Addr.add a 0) w fun c0=>
 an .i64 (Addr.add a 1) w fun c1=>
 an .i64 (Addr.add a 2) w fun c2=>
 an .i64 (Addr.add a 3) w fun c3=>
 an .i64 (Addr.add a 4) w fun c4=>
 K c0 c1 c2 c3 c4
def iY (a:Addr) (c0:Int) (c1:Int) (c2:Int) (c3:Int) (c4:Int) (w:World) (K:World→Prop):Prop:=
 st (Addr.add a 0) (.int .i64 c0) w fun w=>
 st (Addr.add a 1) (.int .i64 c1) w fun w=>
 st (Addr.add a 2) (.int .i64 c2) w fun w=>
 st (Addr.add a 3) (.int .i64 c3) w fun w=>
 st (Addr.add a 4) (.int .i64 c4) w fun w=>
 K w
def uz (v:Value) (K:Int→Int→Int→Int→Int→Prop):Prop:=
 jY v fun r=>
 aC r fun v0 r=>
 aY .i64 v0 fun c0=>
 aC r fun v1 r=>
 aY .i64 v1 fun c1=>
 aC r fun v2 r=>
 aY .i64 v2 fun c2=>
 aC r fun v3 r=>
 aY .i64 v3 fun c3=>
 aC r fun v4 r=>
 aY .i64 v4 fun c4=>
 (r=[]∧K c0 c1 c2 c3 c4)
def HJ (e:Value) (w:World) (R:Value→World→Prop):Prop:=
 fB e fun a=>
 aA a
 (R (.int .i64 0) w)
 (nw ju (zc Pr ju) w fun b c=>
 jZ []
 (fun d=>l6 b d fun f=>
 bw f fun g=>
 an .i64 (Addr.add g 0) d fun i=>
 R (.int .i64 i) d)
 (fun j=>
 ay Pr Hh [e,.iface UK (.pointer (some b))] (World.drew c) fun k l=>
 aU k fun m=>
 l6 b l fun n=>
 l6 b l fun o=>
 aA ((!m) || (Option.isNone (α:=Addr) n))
 (l6 b l fun p=>
 l6 b l fun q=>
 (kept b 1 l l∧
 R (.int .i64 (-1:Int)) l))
 (bw o fun s=>
 an .i64 (Addr.add s 0) l fun t=>
 l6 b l fun u=>
 aA (decide (t=0))
 (l6 b l fun v=>
 (kept b 1 l l∧
 R (.int .i64 (-1:Int)) l))
 (bw u fun x=>
 an .i64 (Addr.add x 0) l fun y=>
 ay Pr AY [e,.iface qq (.int .i64 y)] l fun z A=>
 aU z fun B=>
 l6 b A fun C=>
 aA (!B)
 ((kept b 1 A A∧
 R (.int .i64 (-1:Int)) A))
 (bw C fun D=>
 an .i64 (Addr.add D 0) A fun E=>
 ay Pr DC [e] A fun F G=>
 aY .i64 F fun I=>
 (kept (Addr.add D 0) 1 A G∧
 (kept b 1 A G∧
 aA (!decide (I=E))
 (R (.int .i64 (-1:Int)) G)
 (j G))))))))
theorem Vk {e:Value} {w:World} {R:Value→World→Prop} (h:HJ e w R):Ok Pr yF [e] w R:=
 aL (m:=⟨true,true⟩) (J:=[(6,[])]) (L:=[]) aJ Tryz.func14 (by kernel_rfl) ((by kernel_rfl:aK Pr _ _ _ Tryz.f14 _ w R=HJ e w R).mpr h)
def LA (a:ah) (b:ah) (w:World) (R:Value→World→Prop):Prop:=
 aA (!decide ((a.n:Int)=(b.n:Int)))
 (R (.bool false) w)
 (cZ (fun (c:Int)=>[(5,some (.int .i64 c))])
 (fun d c e=>aA (decide (c<(a.n:Int)))
 (aQ a.a c a.n
 (an .u8 (Addr.add (base a.a) (Int.toNat c * 1)) (World.drew e) fun f=>
 aQ b.a c b.n
 (an .u8 (Addr.add (base b.a) (Int.toNat c * 1)) (World.drew e) fun g=>
 aA (!decide (f=g))
 (R (.bool false) (World.drew e))
 ((aF (c+1)∧
 d (c+1) (World.drew e))))))
 (R (.bool true) e))
 0 w)
theorem acB {a:ah} {b:ah} {w:World} {R:Value→World→Prop} (h:LA a b w R):Ok Pr yw [.slice a.a a.n a.c,.slice b.a b.n b.c] w R:=
 aL (m:=⟨true,true⟩) (J:=[]) (L:=[(4,[(5,.int .i64)])]) aJ Tryz.func18 (by kernel_rfl) ((by kernel_rfl:aK Pr _ _ _ Tryz.f18 _ w R=LA a b w R).mpr h)
def PL (e:Value) (w:World) (R:Value→World→Prop):Prop:=
 nw qq (zc Pr qq) w fun a b=>
 fB e fun c=>
 aA c
 (R (.int .i64 0) b)
 (ay Pr Hh [e,.iface Vj (.pointer (some a))] b fun d f=>
 aU d fun g=>
 aA g
 (an .i64 a f fun i=>
 R (.int .i64 i) f)
 (R (.int .i64 2) f))
theorem afD {e:Value} {w:World} {R:Value→World→Prop} (h:PL e w R):Ok Pr DC [e] w R:=
 aL (m:=⟨true,true⟩) (J:=[]) (L:=[]) aJ Tryz.func29 (by kernel_rfl) ((by kernel_rfl:aK Pr _ _ _ Tryz.f29 _ w R=PL e w R).mpr h)
def GC (s:ah) (w:World) (R:Value→World→Prop):Prop:=
 aA (Option.isNone (α:=Addr) s.a)
 (R (.slice none 0 0) w)
 (nw bh [] w fun a b=>
 cH Pr [bJ,bJ] bJ [.slice (some a) 0 0,.slice s.a s.n s.c] b fun c d=>
 R (.slice c.a c.n c.c) d)
theorem Uq {s:ah} {w:World} {R:Value→World→Prop} (h:GC s w R):Ok Pr sM [.slice s.a s.n s.c] w R:=
 aL (m:=⟨true,true⟩) (J:=[]) (L:=[]) aJ Tryz.func75 (by kernel_rfl) ((by kernel_rfl:aK Pr _ _ _ Tryz.f75 _ w R=GC s w R).mpr h)
def Kt (s:ah) (w:World) (R:Value→World→Prop):Prop:=
 aA (Option.isNone (α:=Addr) s.a)
 (R (.slice none 0 0) w)
 (nw dV [] w fun a b=>
 cH Pr [sP,sP] sP [.slice (some a) 0 0,.slice s.a s.n s.c] b fun c d=>
 R (.slice c.a c.n c.c) d)
theorem abM {s:ah} {w:World} {R:Value→World→Prop} (h:Kt s w R):Ok Pr Gx [.slice s.a s.n s.c] w R:=
 aL (m:=⟨true,true⟩) (J:=[]) (L:=[]) aJ Tryz.func76 (by kernel_rfl) ((by kernel_rfl:aK Pr _ _ _ Tryz.f76 _ w R=Kt s w R).mpr h)
def Ku (s:ah) (w:World) (R:Value→World→Prop):Prop:=
 aA (Option.isNone (α:=Addr) s.a)
 (R (.slice none 0 0) w)
 (nw fR [] w fun a b=>
 cH Pr [sQ,sQ] sQ [.slice (some a) 0 0,.slice s.a s.n s.c] b fun c d=>
 R (.slice c.a c.n c.c) d)
theorem abN {s:ah} {w:World} {R:Value→World→Prop} (h:Ku s w R):Ok Pr Ks [.slice s.a s.n s.c] w R:=
 aL (m:=⟨true,true⟩) (J:=[]) (L:=[]) aJ Tryz.func77 (by kernel_rfl) ((by kernel_rfl:aK Pr _ _ _ Tryz.f77 _ w R=Ku s w R).mpr h)
def Kx (s:ah) (w:World) (R:Value→World→Prop):Prop:=
 aA (Option.isNone (α:=Addr) s.a)
 (R (.slice none 0 0) w)
 (nw aZ [] w fun a b=>
 cH Pr [sS,sS] sS [.slice (some a) 0 0,.slice s.a s.n s.c] b fun c d=>
 R (.slice c.a c.n c.c) d)
theorem abP {s:ah} {w:World} {R:Value→World→Prop} (h:Kx s w R):Ok Pr Kw [.slice s.a s.n s.c] w R:=
 aL (m:=⟨true,true⟩) (J:=[]) (L:=[]) aJ Tryz.func78 (by kernel_rfl) ((by kernel_rfl:aK Pr _ _ _ Tryz.f78 _ w R=Kx s w R).mpr h)
def Kq (s:ah) (w:World) (R:Value→World→Prop):Prop:=
 aA (Option.isNone (α:=Addr) s.a)
 (R (.slice none 0 0) w)
 (nw cI [] w fun a b=>
 cH Pr [sO,sO] sO [.slice (some a) 0 0,.slice s.a s.n s.c] b fun c d=>
 R (.slice c.a c.n c.c) d)
theorem abL {s:ah} {w:World} {R:Value→World→Prop} (h:Kq s w R):Ok Pr Gv [.slice s.a s.n s.c] w R:=
 aL (m:=⟨true,true⟩) (J:=[]) (L:=[]) aJ Tryz.func80 (by kernel_rfl) ((by kernel_rfl:aK Pr _ _ _ Tryz.f80 _ w R=Kq s w R).mpr h)
def Gy (s:ah) (f:Value) (w:World) (R:Value→World→Prop):Prop:=
 ay Pr Gz [.slice s.a s.n s.c,f] w fun a b=>
 aY .i64 a fun c=>
 R (.bool (decide (0≤c))) b
theorem Uo {s:ah} {f:Value} {w:World} {R:Value→World→Prop} (h:Gy s f w R):Ok Pr CV [.slice s.a s.n s.c,f] w R:=
 aL (m:=⟨true,true⟩) (J:=[]) (L:=[]) aJ Tryz.func104 (by kernel_rfl) ((by kernel_rfl:aK Pr _ _ _ Tryz.f104 _ w R=Gy s f w R).mpr h)
def GA (s:ah) (f:Value) (w:World) (R:Value→World→Prop):Prop:=
 cZ (fun (a:Int)=>[(8,some (.int .i64 a))])
 (fun b a c=>aA (decide (a<(s.n:Int)))
 (aQ s.a a s.n
 (an .i64 (Addr.add (base s.a) (Int.toNat a * 1)) c fun d=>
 lJ Pr f [.int .i64 d] c fun e g=>
 aU e fun i=>
 aA i
 (R (.int .i64 a) g)
 ((aF (a+1)∧
 b (a+1) g))))
 (R (.int .i64 (-1:Int)) c))
 0 w
theorem Up {s:ah} {f:Value} {w:World} {R:Value→World→Prop} (h:GA s f w R):Ok Pr Gz [.slice s.a s.n s.c,f] w R:=
 aL (m:=⟨true,true⟩) (J:=[]) (L:=[(2,[(8,.int .i64)])]) aJ Tryz.func148 (by kernel_rfl) ((by kernel_rfl:aK Pr _ _ _ Tryz.f148 _ w R=GA s f w R).mpr h)
def KA (s:ah) (v:Int) (w:World) (R:Value→World→Prop):Prop:=
 ay Pr KJ [.slice s.a s.n s.c,.int .i64 v] w fun a b=>
 aY .i64 a fun c=>
 R (.bool (decide (0≤c))) b
theorem abS {s:ah} {v:Int} {w:World} {R:Value→World→Prop} (h:KA s v w R):Ok Pr Ur [.slice s.a s.n s.c,.int .i64 v] w R:=
 aL (m:=⟨true,true⟩) (J:=[]) (L:=[]) aJ Tryz.func149 (by kernel_rfl) ((by kernel_rfl:aK Pr _ _ _ Tryz.f149 _ w R=KA s v w R).mpr h)
def MV (a:ah) (b:ah) (w:World) (R:Value→World→Prop):Prop:=
 Jl Pr a w fun c d=>
 Jl Pr b d fun e f=>
 R (.bool (decide (c=e))) f
theorem adE {a:ah} {b:ah} {w:World} {R:Value→World→Prop} (h:MV a b w R):Ok Pr C9 [.slice a.a a.n a.c,.slice b.a b.n b.c] w R:=
 aL (m:=⟨true,true⟩) (J:=[]) (L:=[]) aJ Tryz.func153 (by kernel_rfl) ((by kernel_rfl:aK Pr _ _ _ Tryz.f153 _ w R=MV a b w R).mpr h)
def Lo (n:Int) (parts:ah) (w:World) (R:Value→World→Prop):Prop:=
 ay Pr Dx [.int .i64 136,.int .u8 31,.int .i64 n,.slice parts.a parts.n parts.c] w fun a b=>
 aT a fun c=>
 R (.slice c.a c.n c.c) b
theorem acn {n:Int} {parts:ah} {w:World} {R:Value→World→Prop} (h:Lo n parts w R):Ok Pr sN [.int .i64 n,.slice parts.a parts.n parts.c] w R:=
 aL (m:=⟨true,true⟩) (J:=[]) (L:=[]) aJ Tryz.func166 (by kernel_rfl) ((by kernel_rfl:aK Pr _ _ _ Tryz.f166 _ w R=Lo n parts w R).mpr h)
def Kj (s:ah) (f:Value) (w:World) (R:Value→World→Prop):Prop:=
 ay Pr Km [.slice s.a s.n s.c,f] w fun a b=>
 aY .i64 a fun c=>
 R (.bool (decide (0≤c))) b
theorem abI {s:ah} {f:Value} {w:World} {R:Value→World→Prop} (h:Kj s f w R):Ok Pr Ki [.slice s.a s.n s.c,f] w R:=
 aL (m:=⟨true,true⟩) (J:=[]) (L:=[]) aJ Tryz.func169 (by kernel_rfl) ((by kernel_rfl:aK Pr _ _ _ Tryz.f169 _ w R=Kj s f w R).mpr h)
def KK (s:ah) (v:Int) (w:World) (R:Value→World→Prop):Prop:=
 cZ (fun (a:Int)=>[(8,some (.int .i64 a))])
 (fun b a c=>aA (decide (a<(s.n:Int)))
 (aQ s.a a s.n
 (an .i64 (Addr.add (base s.a) (Int.toNat a * 1)) c fun d=>
 aA (decide (v=d))
 (R (.int .i64 a) c)
 ((aF (a+1)∧
 b (a+1) c))))
 (R (.int .i64 (-1:Int)) c))
 0 w
theorem ab1 {s:ah} {v:Int} {w:World} {R:Value→World→Prop} (h:KK s v w R):Ok Pr KJ [.slice s.a s.n s.c,.int .i64 v] w R:=
 aL (m:=⟨true,true⟩) (J:=[]) (L:=[(2,[(8,.int .i64)])]) aJ Tryz.func180 (by kernel_rfl) ((by kernel_rfl:aK Pr _ _ _ Tryz.f180 _ w R=KK s v w R).mpr h)
def LV (parts:ah) (w:World) (R:Value→World→Prop):Prop:=
 ay Pr Dx [.int .i64 72,.int .u8 6,.int .i64 64,.slice parts.a parts.n parts.c] w fun a b=>
 aT a fun c=>
 R (.slice c.a c.n c.c) b
theorem acS {parts:ah} {w:World} {R:Value→World→Prop} (h:LV parts w R):Ok Pr C3 [.slice parts.a parts.n parts.c] w R:=
 aL (m:=⟨true,true⟩) (J:=[]) (L:=[]) aJ Tryz.func188 (by kernel_rfl) ((by kernel_rfl:aK Pr _ _ _ Tryz.f188 _ w R=LV parts w R).mpr h)
def LW (parts:ah) (w:World) (R:Value→World→Prop):Prop:=
 ay Pr Dx [.int .i64 136,.int .u8 6,.int .i64 32,.slice parts.a parts.n parts.c] w fun a b=>
 aT a fun c=>
 R (.slice c.a c.n c.c) b
theorem acT {parts:ah} {w:World} {R:Value→World→Prop} (h:LW parts w R):Ok Pr C4 [.slice parts.a parts.n parts.c] w R:=
 aL (m:=⟨true,true⟩) (J:=[]) (L:=[]) aJ Tryz.func190 (by kernel_rfl) ((by kernel_rfl:aK Pr _ _ _ Tryz.f190 _ w R=LW parts w R).mpr h)
def OQ (az:Int) (suffix:Int) (n:Int) (parts:ah) (w:World) (R:Value→World→Prop):Prop:=
 ay Pr G9 [.int .i64 az,.int .u8 suffix] w fun a b=>
 Cv a fun c=>
 ay Pr CY [.pointer c,.slice parts.a parts.n parts.c] b fun d e=>
 ay Pr CZ [.pointer c,.int .i64 n] e fun f g=>
 aT f fun i=>
 R (.slice i.a i.n i.c) g
theorem aeS {az:Int} {suffix:Int} {n:Int} {parts:ah} {w:World} {R:Value→World→Prop} (h:OQ az suffix n parts w R):Ok Pr Dx [.int .i64 az,.int .u8 suffix,.int .i64 n,.slice parts.a parts.n parts.c] w R:=
 aL (m:=⟨true,true⟩) (J:=[]) (L:=[]) aJ Tryz.func191 (by kernel_rfl) ((by kernel_rfl:aK Pr _ _ _ Tryz.f191 _ w R=OQ az suffix n parts w R).mpr h)
def Ko (s:ah) (f:Value) (w:World) (R:Value→World→Prop):Prop:=
 cZ (fun (a:Int)=>[(8,some (.int .i64 a))])
 (fun b a c=>aA (decide (a<(s.n:Int)))
 (aQ s.a a s.n
 (AL (Addr.add (base s.a) (Int.toNat a * 3)) c fun d e g=>
 lJ Pr f [.agg ⟨[.int .i64 d,.int .i64 e,.string g]⟩] c fun i j=>
 aU i fun k=>
 aA k
 (R (.int .i64 a) j)
 ((aF (a+1)∧
 b (a+1) j))))
 (R (.int .i64 (-1:Int)) c))
 0 w
theorem abK {s:ah} {f:Value} {w:World} {R:Value→World→Prop} (h:Ko s f w R):Ok Pr Km [.slice s.a s.n s.c,f] w R:=
 aL (m:=⟨true,true⟩) (J:=[]) (L:=[(2,[(8,.int .i64)])]) aJ Tryz.func192 (by kernel_rfl) ((by kernel_rfl:aK Pr _ _ _ Tryz.f192 _ w R=Ko s f w R).mpr h)
def LX (x:Int) (w:World) (R:Value→World→Prop):Prop:=
 ay Pr UA [.int .u64 x] w fun a b=>
 aY .i64 a fun c=>
 R (.int .i64 c) b
theorem acU {x:Int} {w:World} {R:Value→World→Prop} (h:LX x w R):Ok Pr LQ [.int .u64 x] w R:=
 aL (m:=⟨true,true⟩) (J:=[]) (L:=[]) aJ Tryz.func193 (by kernel_rfl) ((by kernel_rfl:aK Pr _ _ _ Tryz.f193 _ w R=LX x w R).mpr h)
def KB (ou:ah) (w:World) (R:Value→World→Prop):Prop:=
 iq (fun (a:Int) (b:Int)=>[(3,some (.int .i64 a)),(11,some (.int .i64 b))])
 (fun c a b d=>aA (decide (b<(ou.n:Int)))
 (aQ ou.a b ou.n
 (ax (Addr.add (base ou.a) (Int.toNat b * 1)) d fun e=>
 (aF (a+(e.n:Int))∧
 aA (decide (a+(e.n:Int)<0))
 (False)
 ((aF (b+1)∧
 c (a+(e.n:Int)) (b+1) d)))))
 (ay Pr KG [.slice none 0 0,.int .i64 a] d fun f g=>
 aT f fun i=>
 iq (fun (j:ah) (k:Int)=>[(6,some (.slice j.a j.n j.c)),(27,some (.int .i64 k))])
 (fun l j k m=>aA (decide (k<(ou.n:Int)))
 (aQ ou.a k ou.n
 (ax (Addr.add (base ou.a) (Int.toNat k * 1)) m fun n=>
 cH Pr [bJ,bJ] bJ [.slice j.a j.n j.c,.slice n.a n.n n.c] m fun o p=>
 (aF (k+1)∧
 l o (k+1) p)))
 (R (.slice j.a j.n j.c) m))
 i 0 g))
 0 0 w
theorem abT {ou:ah} {w:World} {R:Value→World→Prop} (h:KB ou w R):Ok Pr Kz [.slice ou.a ou.n ou.c] w R:=
 aL (m:=⟨true,true⟩) (J:=[]) (L:=[(3,[(3,.int .i64),(11,.int .i64)]),(11,[(6,.sl),(27,.int .i64)])]) aJ Tryz.func206 (by kernel_rfl) ((by kernel_rfl:aK Pr _ _ _ Tryz.f206 _ w R=KB ou w R).mpr h)
def NN (az:Int) (suffix:Int) (w:World) (R:Value→World→Prop):Prop:=
 aA (((((decide (az<8)) || (decide (192<az))) || (!decide (Int.tmod az 8=0))) || (decide (suffix<1))) || (decide (127<suffix)))
 (R (.pointer none) w)
 (nw LU [.int .u64 0,.int .u64 0,.int .u64 0,.int .u64 0,.int .u64 0,.int .u64 0,.int .u64 0,.int .u64 0,.int .u64 0,.int .u64 0,.int .u64 0,.int .u64 0,.int .u64 0,.int .u64 0,.int .u64 0,.int .u64 0,.int .u64 0,.int .u64 0,.int .u64 0,.int .u64 0,.int .u64 0,.int .u64 0,.int .u64 0,.int .u64 0,.int .u64 0,.int .i64 az,.int .u8 suffix,.int .i64 0,.bool false] w fun a b=>
 R (.pointer (some a)) b)
theorem aeg {az:Int} {suffix:Int} {w:World} {R:Value→World→Prop} (h:NN az suffix w R):Ok Pr G9 [.int .i64 az,.int .u8 suffix] w R:=
 aL (m:=⟨true,true⟩) (J:=[]) (L:=[]) aJ Tryz.func221 (by kernel_rfl) ((by kernel_rfl:aK Pr _ _ _ Tryz.f221 _ w R=NN az suffix w R).mpr h)
def KM (s:Option Addr) (parts:ah) (w:World) (R:Value→World→Prop):Prop:=
 aA (Option.isNone (α:=Addr) s)
 (ay Pr UT [.int .i64 1] w fun a b=>
 R a b)
 (bw s fun c=>
 l5 (Addr.add c 28) w fun d=>
 aA d
 (ay Pr UT [.int .i64 5] w fun e f=>
 R e f)
 (cZ (fun (g:Int)=>[(21,some (.int .i64 g))])
 (fun i g j=>aA (decide (g<(parts.n:Int)))
 (aQ parts.a g parts.n
 (ax (Addr.add (base parts.a) (Int.toNat g * 1)) j fun k=>
 cZ (fun (l:Int)=>[(27,some (.int .i64 l))])
 (fun m l n=>aA (decide (l<(k.n:Int)))
 (aQ k.a l k.n
 (an .u8 (Addr.add (base k.a) (Int.toNat l * 1)) n fun o=>
 bw s fun p=>
 an .i64 (Addr.add p 27) n fun q=>
 ay Pr C0 [.pointer s,.int .i64 q,.int .u8 o] n fun t u=>
 bw s fun v=>
 an .i64 (Addr.add v 27) u fun x=>
 (aF (x+1)∧
 bw s fun y=>
 st (Addr.add y 27) (.int .i64 (x+1)) u fun z=>
 ay Pr GF [.pointer s] z fun A B=>
 (aF (l+1)∧
 m (l+1) B))))
 ((aF (g+1)∧
 i (g+1) n)))
 0 j))
 (R (.nilIface) j))
 0 w))
theorem ab3 {s:Option Addr} {parts:ah} {w:World} {R:Value→World→Prop} (h:KM s parts w R):Ok Pr CY [.pointer s,.slice parts.a parts.n parts.c] w R:=
 aL (m:=⟨true,true⟩) (J:=[]) (L:=[(6,[(21,.int .i64)]),(9,[(27,.int .i64)])]) aJ Tryz.func222 (by kernel_rfl) ((by kernel_rfl:aK Pr _ _ _ Tryz.f222 _ w R=KM s parts w R).mpr h)
def GH (s:Option Addr) (n:Int) (w:World) (R:Value→World→Prop):Prop:=
 aA (((Option.isNone (α:=Addr) s) || (decide (n<1))) || (decide (1048576<n)))
 (R (.slice none 0 0) w)
 (jZ []
 (fun a=>j4 Pr bh 0 n a fun b c=>
 iq (fun (d:ah) (e:Int)=>[(5,some (.slice d.a d.n d.c)),(51,some (.int .i64 e))])
 (fun f d e g=>aA (decide (e<n))
 (ay Pr GF [.pointer s] g fun i j=>
 bw s fun k=>
 an .i64 (Addr.add k 27) (World.drew j) fun l=>
 ((0≤l∧l≤IntKind.max .i64)∧
 bw s fun m=>
 idx (l / 8) 25
 (an .u64 (Addr.add (Addr.add m 0) (Int.toNat (l / 8) * 1)) (World.drew j) fun o=>
 bw s fun p=>
 an .i64 (Addr.add p 27) (World.drew j) fun q=>
 (0≤q∧
 (aF (8 * (q % 8))∧
 gT (8 * (q % 8)) (nw bh [.int .u8 (IntKind.wrap .u8 (shr .u64 o (8 * (q % 8))))] (World.drew j) fun t u=>
 cH Pr [bJ,bJ] bJ [.slice d.a d.n d.c,.slice (some t) 1 1] u fun v x=>
 bw s fun y=>
 an .i64 (Addr.add y 27) x fun z=>
 (aF (z+1)∧
 bw s fun A=>
 st (Addr.add A 27) (.int .i64 (z+1)) x fun B=>
 (aF (e+1)∧
 f v (e+1) B))))))))
 (R (.slice d.a d.n d.c) g))
 b 0 c)
 (fun C=>
 bw s fun D=>
 l5 (Addr.add D 28) w fun E=>
 aA (!E)
 (bw s fun F=>
 an .i64 (Addr.add F 27) (World.drew w) fun G=>
 bw s fun I=>
 an .u8 (Addr.add I 26) (World.drew w) fun J=>
 ay Pr C0 [.pointer s,.int .i64 G,.int .u8 J] (World.drew w) fun L M=>
 bw s fun N=>
 an .i64 (Addr.add N 25) M fun O=>
 (aF (O - 1)∧
 ay Pr C0 [.pointer s,.int .i64 (O - 1),.int .u8 128] M fun Q S=>
 bw s fun T=>
 an .i64 (Addr.add T 25) S fun U=>
 bw s fun V=>
 st (Addr.add V 28) (.bool true) S fun X=>
 bw s fun Y=>
 st (Addr.add Y 27) (.int .i64 U) X fun Z=>
 C Z))
 (C w)))
theorem Us {s:Option Addr} {n:Int} {w:World} {R:Value→World→Prop} (h:GH s n w R):Ok Pr CZ [.pointer s,.int .i64 n] w R:=
 aL (m:=⟨true,true⟩) (J:=[(7,[])]) (L:=[(9,[(5,.sl),(51,.int .i64)])]) aJ Tryz.func223 (by kernel_rfl) ((by kernel_rfl:aK Pr _ _ _ Tryz.f223 _ w R=GH s n w R).mpr h)
def Lp (x:Int) (w:World) (R:Value→World→Prop):Prop:=
 uN (fun (a:Int) (b:Int)=>[(0,some (.int .u64 a)),(2,some (.int .i64 b))])
 (fun a b c=>uN (fun (d:Int) (e:Int)=>[(0,some (.int .u64 d)),(2,some (.int .i64 e))])
 (fun d e f=>uN (fun (g:Int) (i:Int)=>[(0,some (.int .u64 g)),(2,some (.int .i64 i))])
 (fun g i j=>idx (IntKind.wrap .u8 (g)) (ByteArray.size sR)
 ((aF (tL sR (IntKind.wrap .u8 (g)))∧
 (aF (i+(tL sR (IntKind.wrap .u8 (g))))∧
 lt (A:=Int) (i+(tL sR (IntKind.wrap .u8 (g)))) fun k=>
 R (.int .i64 k) j))))
 (fun l=>
 aA (decide (256≤d))
 ((aF (e+8)∧
 l (shr .u64 d 8) (e+8) f))
 (l d e f)))
 (fun m=>
 aA (decide (65536≤a))
 ((aF (b+16)∧
 m (shr .u64 a 16) (b+16) c))
 (m a b c)))
 (fun n=>
 aA (decide (4294967296≤x))
 (n (shr .u64 x 32) 32 w)
 (n x 0 w))
theorem aco {x:Int} {w:World} {R:Value→World→Prop} (h:Lp x w R):Ok Pr UA [.int .u64 x] w R:=
 aL (m:=⟨true,true⟩) (J:=[(4,[(0,.int .u64),(2,.int .i64)]),(7,[(0,.int .u64),(2,.int .i64)]),(10,[(0,.int .u64),(2,.int .i64)])]) (L:=[]) aJ Tryz.func225 (by kernel_rfl) ((by kernel_rfl:aK Pr _ _ _ Tryz.f225 _ w R=Lp x w R).mpr h)
def KI (s:ah) (n:Int) (w:World) (R:Value→World→Prop):Prop:=
 jZ []
 (fun a=>(aF (((s.c:Nat):Int) - (s.n:Int))∧
 (aF (n - (((s.c:Nat):Int) - (s.n:Int)))∧
 lt (A:=Int) (n - (((s.c:Nat):Int) - (s.n:Int))) fun b=>
 aA (decide (0<b))
 (vr s ((s.c:Nat):Int) fun c=>
 cH Pr [bJ,bG] bJ [.slice c.a c.n c.c,.int .i64 b] a fun d e=>
 vr d (s.n:Int) fun f=>
 R (.slice f.a f.n f.c) e)
 (R (.slice s.a s.n s.c) a))))
 (fun g=>
 aA (decide (n<0))
 (False)
 (g w))
theorem abX {s:ah} {n:Int} {w:World} {R:Value→World→Prop} (h:KI s n w R):Ok Pr KG [.slice s.a s.n s.c,.int .i64 n] w R:=
 aL (m:=⟨true,true⟩) (J:=[(3,[])]) (L:=[]) aJ Tryz.func246 (by kernel_rfl) ((by kernel_rfl:aK Pr _ _ _ Tryz.f246 _ w R=KI s n w R).mpr h)
def KD (s:ah) (n:Int) (w:World) (R:Value→World→Prop):Prop:=
 nw bJ [.slice s.a s.n s.c] w fun a b=>
 nw bG [.int .i64 n] b fun c d=>
 an .i64 c d fun e=>
 aA (decide (e<1))
 (False)
 (R (.func (.func CW) ⟨[]⟩ ⟨[.pointer (some a),.pointer (some c)]⟩) d)
theorem abU {s:ah} {n:Int} {w:World} {R:Value→World→Prop} (h:KD s n w R):Ok Pr KC [.slice s.a s.n s.c,.int .i64 n] w R:=
 aL (m:=⟨true,true⟩) (J:=[]) (L:=[]) aJ Tryz.func247 (by kernel_rfl) ((by kernel_rfl:aK Pr _ _ _ Tryz.f247 _ w R=KD s n w R).mpr h)
def MW (d:Int) (b:ah) (w:World) (R:Value→World→Prop):Prop:=
 aA ((decide (d<1)) || (decide (24<d)))
 (R (.slice none 0 0) w)
 (I2 (fun (a:ah) (c:Int) (e:Int) (f:Int)=>[(5,some (.slice a.a a.n a.c)),(6,some (.int .i64 c)),(7,some (.int .i64 e)),(18,some (.int .i64 f))])
 (fun g a c e f i=>aA (decide (f<(b.n:Int)))
 (aQ b.a f b.n
 (an .u8 (Addr.add (base b.a) (Int.toNat f * 1)) i fun j=>
 (aF (j)∧
 gT e (lt (A:=Int) (rV .i64 c (shl .i64 j e)) fun k=>
 (aF (e+8)∧
 BP (fun (l:ah) (m:Int) (n:Int)=>[(5,some (.slice l.a l.n l.c)),(6,some (.int .i64 m)),(7,some (.int .i64 n))])
 (fun o l m n p=>aA (decide (d≤n))
 (ay Pr PI [.int .i64 d,.int .i64 m] p fun q s=>
 aY .i64 q fun t=>
 nw bG [.int .i64 t] s fun u v=>
 cH Pr [e9,e9] e9 [.slice l.a l.n l.c,.slice (some u) 1 1] v fun x y=>
 gT d ((aF (n - d)∧
 o x (shr .i64 m d) (n - d) y)))
 ((aF (f+1)∧
 g l m n (f+1) p)))
 a k (e+8) i)))))
 (R (.slice a.a a.n a.c) i))
 ⟨none,0,0⟩ 0 0 0 w)
theorem adF {d:Int} {b:ah} {w:World} {R:Value→World→Prop} (h:MW d b w R):Ok Pr AJ [.int .i64 d,.slice b.a b.n b.c] w R:=
 aL (m:=⟨true,true⟩) (J:=[]) (L:=[(6,[(5,.sl),(6,.int .i64),(7,.int .i64),(18,.int .i64)]),(10,[(5,.sl),(6,.int .i64),(7,.int .i64)])]) aJ Tryz.func248 (by kernel_rfl) ((by kernel_rfl:aK Pr _ _ _ Tryz.f248 _ w R=MW d b w R).mpr h)
def KL (s:ah) (w:World) (R:Value→World→Prop):Prop:=
 aA (Option.isNone (α:=Addr) s.a)
 (R (.slice none 0 0) w)
 (nw bG [] w fun a b=>
 cH Pr [e9,e9] e9 [.slice (some a) 0 0,.slice s.a s.n s.c] b fun c d=>
 R (.slice c.a c.n c.c) d)
theorem ab2 {s:ah} {w:World} {R:Value→World→Prop} (h:KL s w R):Ok Pr GD [.slice s.a s.n s.c] w R:=
 aL (m:=⟨true,true⟩) (J:=[]) (L:=[]) aJ Tryz.func253 (by kernel_rfl) ((by kernel_rfl:aK Pr _ _ _ Tryz.f253 _ w R=KL s w R).mpr h)
def OR (d:Int) (xs:ah) (w:World) (R:Value→World→Prop):Prop:=
 aA ((decide (d<1)) || (decide (24<d)))
 (R (.slice none 0 0) w)
 (I2 (fun (a:ah) (b:Int) (c:Int) (e:Int)=>[(5,some (.slice a.a a.n a.c)),(6,some (.int .i64 b)),(7,some (.int .i64 c)),(18,some (.int .i64 e))])
 (fun f a b c e g=>aA (decide (e<(xs.n:Int)))
 (aQ xs.a e xs.n
 (an .i64 (Addr.add (base xs.a) (Int.toNat e * 1)) g fun i=>
 jZ []
 (fun j=>gT c (lt (A:=Int) (rV .i64 b (shl .i64 i c)) fun k=>
 (aF (c+d)∧
 BP (fun (l:ah) (m:Int) (n:Int)=>[(5,some (.slice l.a l.n l.c)),(6,some (.int .i64 m)),(7,some (.int .i64 n))])
 (fun o l m n p=>aA (decide (8≤n))
 (nw bh [.int .u8 (IntKind.wrap .u8 (m))] p fun q s=>
 cH Pr [bJ,bJ] bJ [.slice l.a l.n l.c,.slice (some q) 1 1] s fun t u=>
 (aF (n - 8)∧
 o t (shr .i64 m 8) (n - 8) u))
 ((aF (e+1)∧
 f l m n (e+1) p)))
 a k (c+d) j)))
 (fun v=>
 aA (decide (i<0))
 (R (.slice none 0 0) g)
 (gT d (aA (!decide (shr .i64 i d=0))
 (R (.slice none 0 0) g)
 (v g))))))
 (aA (decide (0<c))
 (nw bh [.int .u8 (IntKind.wrap .u8 (b))] g fun x y=>
 cH Pr [bJ,bJ] bJ [.slice a.a a.n a.c,.slice (some x) 1 1] y fun z B=>
 R (.slice z.a z.n z.c) B)
 (R (.slice a.a a.n a.c) g)))
 ⟨none,0,0⟩ 0 0 0 w)
theorem aeT {d:Int} {xs:ah} {w:World} {R:Value→World→Prop} (h:OR d xs w R):Ok Pr Hp [.int .i64 d,.slice xs.a xs.n xs.c] w R:=
 aL (m:=⟨true,true⟩) (J:=[(10,[])]) (L:=[(6,[(5,.sl),(6,.int .i64),(7,.int .i64),(18,.int .i64)]),(12,[(5,.sl),(6,.int .i64),(7,.int .i64)])]) aJ Tryz.func258 (by kernel_rfl) ((by kernel_rfl:aK Pr _ _ _ Tryz.f258 _ w R=OR d xs w R).mpr h)
def OS (eta:Int) (aq:ah) (n:Int) (w:World) (R:Value→World→Prop):Prop:=
 aA ((!decide (eta=2)) && (!decide (eta=3)))
 (ay Pr yy [.int .i64 2] w fun a b=>
 R (.tuple ⟨[.slice none 0 0,a]⟩) b)
 (aA (!decide ((aq.n:Int)=32))
 (ay Pr yy [.int .i64 3] w fun c d=>
 R (.tuple ⟨[.slice none 0 0,c]⟩) d)
 ((aF (64 * eta)∧
 nw bh [.int .u8 n] w fun e f=>
 nw bJ [.slice aq.a aq.n aq.c,.slice (some e) 1 1] f fun g i=>
 ay Pr sN [.int .i64 (64 * eta),.slice (some g) 2 2] i fun j k=>
 aT j fun l=>
 ay Pr ON [.int .i64 eta,.slice l.a l.n l.c] k fun m o=>
 br.bC m fun p=>
 aC p fun q s=>
 aT q fun t=>
 aC s fun u v=>
 (v=[]∧
 R (.tuple ⟨[.slice t.a t.n t.c,u]⟩) o))))
theorem aeU {eta:Int} {aq:ah} {n:Int} {w:World} {R:Value→World→Prop} (h:OS eta aq n w R):Ok Pr OL [.int .i64 eta,.slice aq.a aq.n aq.c,.int .u8 n] w R:=
 aL (m:=⟨true,true⟩) (J:=[]) (L:=[]) aJ Tryz.func259 (by kernel_rfl) ((by kernel_rfl:aK Pr _ _ _ Tryz.f259 _ w R=OS eta aq n w R).mpr h)
def OT (aq:ah) (i:Int) (j:Int) (w:World) (R:Value→World→Prop):Prop:=
 aA (!decide ((aq.n:Int)=32))
 (ay Pr yy [.int .i64 3] w fun a b=>
 R (.tuple ⟨[.slice none 0 0,a]⟩) b)
 (ay Pr G9 [.int .i64 168,.int .u8 31] w fun c d=>
 Cv c fun e=>
 nw bh [.int .u8 i,.int .u8 j] d fun f g=>
 nw bJ [.slice aq.a aq.n aq.c,.slice (some f) 2 2] g fun k l=>
 ay Pr CY [.pointer e,.slice (some k) 2 2] l fun m n=>
 j4 Pr bG 0 256 n fun o p=>
 iq (fun (q:ah) (s:Int)=>[(9,some (.slice q.a q.n q.c)),(10,some (.int .i64 s))])
 (fun t q s u=>aA ((decide (s<4096)) && (decide ((q.n:Int)<256)))
 (ay Pr CZ [.pointer e,.int .i64 3] u fun v x=>
 aT v fun y=>
 ay Pr AJ [.int .i64 12,.slice y.a y.n y.c] x fun z A=>
 aT z fun B=>
 iq (fun (C:ah) (D:Int)=>[(9,some (.slice C.a C.n C.c)),(39,some (.int .i64 D))])
 (fun E C D F=>aA (decide (D<(B.n:Int)))
 (aQ B.a D B.n
 (an .i64 (Addr.add (base B.a) (Int.toNat D * 1)) F fun G=>
 aA ((decide (G<3329)) && (decide ((C.n:Int)<256)))
 (nw bG [.int .i64 G] F fun I J=>
 cH Pr [e9,e9] e9 [.slice C.a C.n C.c,.slice (some I) 1 1] J fun L M=>
 (aF (D+1)∧
 E L (D+1) M))
 ((aF (D+1)∧
 E C (D+1) F))))
 ((aF (s+3)∧
 t C (s+3) F)))
 q 0 A)
 ((aF (256 - (q.n:Int))∧
 cH Pr [e9,bG] e9 [.slice q.a q.n q.c,.int .i64 (256 - (q.n:Int))] u fun N O=>
 R (.tuple ⟨[.slice N.a N.n N.c,.nilIface]⟩) O)))
 o 3 p)
theorem aeV {aq:ah} {i:Int} {j:Int} {w:World} {R:Value→World→Prop} (h:OT aq i j w R):Ok Pr OM [.slice aq.a aq.n aq.c,.int .u8 i,.int .u8 j] w R:=
 aL (m:=⟨true,true⟩) (J:=[]) (L:=[(7,[(9,.sl),(10,.int .i64)]),(10,[(9,.sl),(39,.int .i64)])]) aJ Tryz.func260 (by kernel_rfl) ((by kernel_rfl:aK Pr _ _ _ Tryz.f260 _ w R=OT aq i j w R).mpr h)
def KN (s:Option Addr) (i:Int) (b:Int) (w:World) (R:Value→World→Prop):Prop:=
 ((0≤i∧i≤IntKind.max .i64)∧
 bw s fun a=>
 idx (i / 8) 25
 (an .u64 (Addr.add (Addr.add a 0) (Int.toNat (i / 8) * 1)) (World.drew w) fun c=>
 (0≤i∧
 (aF (8 * (i % 8))∧
 gT (8 * (i % 8)) (bw s fun d=>
 idx (i / 8) 25
 (st (Addr.add (Addr.add d 0) (Int.toNat (i / 8) * 1)) (.int .u64 (oE .u64 c (shl .u64 (IntKind.wrap .u64 (b)) (8 * (i % 8))))) (World.drew w) fun e=>
 R (.tuple ⟨[]⟩) e))))))
theorem ab5 {s:Option Addr} {i:Int} {b:Int} {w:World} {R:Value→World→Prop} (h:KN s i b w R):Ok Pr C0 [.pointer s,.int .i64 i,.int .u8 b] w R:=
 aL (m:=⟨true,true⟩) (J:=[]) (L:=[]) aJ Tryz.func263 (by kernel_rfl) ((by kernel_rfl:aK Pr _ _ _ Tryz.f263 _ w R=KN s i b w R).mpr h)
def KO (s:Option Addr) (w:World) (R:Value→World→Prop):Prop:=
 bw s fun a=>
 an .i64 (Addr.add a 27) (World.drew w) fun b=>
 bw s fun c=>
 an .i64 (Addr.add c 25) (World.drew w) fun d=>
 aA (decide (b=d))
 (bw s fun e=>
 iy 25 (Addr.add e 0) (World.drew w) fun f=>
 ay Pr Lz [.agg ⟨f⟩] (World.drew w) fun g i=>
 jY g fun j=>
 bw s fun k=>
 kQ 25 (Addr.add k 0) j i fun l=>
 bw s fun m=>
 st (Addr.add m 27) (.int .i64 0) l fun n=>
 R (.tuple ⟨[]⟩) n)
 (R (.tuple ⟨[]⟩) (World.drew w))
theorem ab6 {s:Option Addr} {w:World} {R:Value→World→Prop} (h:KO s w R):Ok Pr GF [.pointer s] w R:=
 aL (m:=⟨true,true⟩) (J:=[]) (L:=[]) aJ Tryz.func264 (by kernel_rfl) ((by kernel_rfl:aK Pr _ _ _ Tryz.f264 _ w R=KO s w R).mpr h)
def PM (d:Int) (x:Int) (w:World) (R:Value→World→Prop):Prop:=
 aA ((decide (d<0)) || (decide (62<d)))
 (R (.int .i64 0) w)
 (gT d ((aF ((shl .i64 1 d) - 1)∧
 R (.int .i64 (iu .i64 x ((shl .i64 1 d) - 1))) w)))
theorem afE {d:Int} {x:Int} {w:World} {R:Value→World→Prop} (h:PM d x w R):Ok Pr PI [.int .i64 d,.int .i64 x] w R:=
 aL (m:=⟨true,true⟩) (J:=[]) (L:=[]) aJ Tryz.func282 (by kernel_rfl) ((by kernel_rfl:aK Pr _ _ _ Tryz.f282 _ w R=PM d x w R).mpr h)
def NO (code:Int) (w:World) (R:Value→World→Prop):Prop:=
 nw oW [.int .i64 code,.string alE] w fun a b=>
 R (.iface ju (.pointer (some a))) b
theorem aeh {code:Int} {w:World} {R:Value→World→Prop} (h:NO code w R):Ok Pr yy [.int .i64 code] w R:=
 aL (m:=⟨true,true⟩) (J:=[]) (L:=[]) aJ Tryz.func286 (by kernel_rfl) ((by kernel_rfl:aK Pr _ _ _ Tryz.f286 _ w R=NO code w R).mpr h)
def OU (eta:Int) (b:ah) (w:World) (R:Value→World→Prop):Prop:=
 aA ((!decide (eta=2)) && (!decide (eta=3)))
 (ay Pr yy [.int .i64 2] w fun a c=>
 R (.tuple ⟨[.slice none 0 0,a]⟩) c)
 ((aF (64 * eta)∧
 aA (!decide ((b.n:Int)=64 * eta))
 (ay Pr yy [.int .i64 3] w fun d e=>
 R (.tuple ⟨[.slice none 0 0,d]⟩) e)
 (j4 Pr bG 256 256 w fun f g=>
 ay Pr AJ [.int .i64 1,.slice b.a b.n b.c] g fun i j=>
 aT i fun k=>
 cZ (fun (l:Int)=>[(29,some (.int .i64 l))])
 (fun m l n=>aA (decide (l<(k.n:Int)))
 (aQ k.a l k.n
 (an .i64 (Addr.add (base k.a) (Int.toNat l * 1)) n fun o=>
 (aF (2 * eta)∧
 pos (2 * eta) (((0≤l∧l≤IntKind.max .i64)∧
 jh (fun (p:Int)=>[(8,some (.int .i64 p))])
 (fun p q=>aQ f.a (l / (2 * eta)) f.n
 (an .i64 (Addr.add (base f.a) (Int.toNat (l / (2 * eta)) * 1)) q fun s=>
 (aF (s+p)∧
 (0≤s+p∧
 aQ f.a (l / (2 * eta)) f.n
 (st (Addr.add (base f.a) (Int.toNat (l / (2 * eta)) * 1)) (.int .i64 ((s+p) % 3329)) q fun t=>
 (aF (l+1)∧
 m (l+1) t))))))
 (fun u=>
 (aF (2 * eta)∧
 pos (2 * eta) ((0≤l∧
 aA (decide (eta≤l % (2 * eta)))
 ((aF (3329 - o)∧
 u (3329 - o) n))
 (u o n))))))))))
 (R (.tuple ⟨[.slice f.a f.n f.c,.nilIface]⟩) n))
 0 j)))
theorem aeW {eta:Int} {b:ah} {w:World} {R:Value→World→Prop} (h:OU eta b w R):Ok Pr ON [.int .i64 eta,.slice b.a b.n b.c] w R:=
 aL (m:=⟨true,true⟩) (J:=[(12,[(8,.int .i64)])]) (L:=[(7,[(29,.int .i64)])]) aJ Tryz.func287 (by kernel_rfl) ((by kernel_rfl:aK Pr _ _ _ Tryz.f287 _ w R=OU eta b w R).mpr h)
def LB (a:List Value) (w:World) (R:Value→World→Prop):Prop:=
 nw dP a w fun b c=>
 nw dP (zc Pr dP) c fun d e=>
 cZ (fun (f:Int)=>[(4,some (.int .i64 f))])
 (fun g f i=>aA (decide (f<24))
 (iy 25 b i fun j=>
 ay Pr Mr [.agg ⟨j⟩,.int .i64 f] i fun k l=>
 jY k fun m=>
 kQ 25 b m l fun n=>
 (aF (f+1)∧
 g (f+1) n))
 (iy 25 b i fun o=>
 kQ 25 d o i fun p=>
 iy 25 d p fun q=>
 R (.agg ⟨q⟩) p))
 0 e
theorem acC {a:List Value} {w:World} {R:Value→World→Prop} (h:LB a w R):Ok Pr Lz [.agg ⟨a⟩] w R:=
 aL (m:=⟨true,true⟩) (J:=[]) (L:=[(2,[(4,.int .i64)])]) aJ Tryz.func288 (by kernel_rfl) ((by kernel_rfl:aK Pr _ _ _ Tryz.f288 _ w R=LB a w R).mpr h)
def KE (x:Int) (kv:Int) (w:World) (R:Value→World→Prop):Prop:=
 lt (A:=Int) (iu .u64 (IntKind.wrap .u64 (kv)) 63) fun a=>
 gT a (gT (IntKind.wrap .u64 (64 - a)) (R (.int .u64 (rV .u64 (shl .u64 x a) (shr .u64 x (IntKind.wrap .u64 (64 - a))))) w))
theorem abV {x:Int} {kv:Int} {w:World} {R:Value→World→Prop} (h:KE x kv w R):Ok Pr GB [.int .u64 x,.int .i64 kv] w R:=
 aL (m:=⟨true,true⟩) (J:=[]) (L:=[]) aJ Tryz.func294 (by kernel_rfl) ((by kernel_rfl:aK Pr _ _ _ Tryz.f294 _ w R=KE x kv w R).mpr h)
def Mt (a:List Value) (round:Int) (w:World) (R:Value→World→Prop):Prop:=
 nw dP a w fun b c=>
 nw dP (zc Pr dP) c fun d e=>
 iy 25 b e fun f=>
 ay Pr Ms [.agg ⟨f⟩] e fun g i=>
 jY g fun j=>
 ay Pr NJ [.agg ⟨j⟩] i fun k l=>
 jY k fun m=>
 ay Pr OO [.agg ⟨m⟩] l fun n o=>
 jY n fun p=>
 ay Pr NI [.agg ⟨p⟩] o fun q s=>
 jY q fun t=>
 ay Pr MT [.agg ⟨t⟩,.int .i64 round] s fun u v=>
 jY u fun x=>
 kQ 25 d x v fun y=>
 iy 25 d y fun z=>
 R (.agg ⟨z⟩) y
theorem adl {a:List Value} {round:Int} {w:World} {R:Value→World→Prop} (h:Mt a round w R):Ok Pr Mr [.agg ⟨a⟩,.int .i64 round] w R:=
 aL (m:=⟨true,true⟩) (J:=[]) (L:=[]) aJ Tryz.func295 (by kernel_rfl) ((by kernel_rfl:aK Pr _ _ _ Tryz.f295 _ w R=Mt a round w R).mpr h)
def MX (a:List Value) (round:Int) (w:World) (R:Value→World→Prop):Prop:=
 nw dP a w fun b c=>
 nw dP (zc Pr dP) c fun d e=>
 aA ((decide (round<0)) || (decide (23<round)))
 (iy 25 b e fun f=>
 kQ 25 d f e fun g=>
 iy 25 d g fun i=>
 R (.agg ⟨i⟩) g)
 (nw OP (zc Pr OP) e fun j k=>
 kQ 24 j ([.int .u64 1,.int .u64 32898,.int .u64 9223372036854808714,.int .u64 9223372039002292224,.int .u64 32907,.int .u64 2147483649,.int .u64 9223372039002292353,.int .u64 9223372036854808585,.int .u64 138,.int .u64 136,.int .u64 2147516425,.int .u64 2147483658,.int .u64 2147516555,.int .u64 9223372036854775947,.int .u64 9223372036854808713,.int .u64 9223372036854808579,.int .u64 9223372036854808578,.int .u64 9223372036854775936,.int .u64 32778,.int .u64 9223372039002259466,.int .u64 9223372039002292353,.int .u64 9223372036854808704,.int .u64 2147483649,.int .u64 9223372039002292232]) k fun l=>
 idx 0 25
 (an .u64 (Addr.add b (Int.toNat 0 * 1)) (World.drew l) fun m=>
 idx round 24
 (an .u64 (Addr.add j (Int.toNat round * 1)) (World.drew l) fun n=>
 idx 0 25
 (st (Addr.add b (Int.toNat 0 * 1)) (.int .u64 (oE .u64 m n)) (World.drew l) fun o=>
 iy 25 b o fun p=>
 kQ 25 d p o fun q=>
 iy 25 d q fun s=>
 R (.agg ⟨s⟩) q))))
theorem adG {a:List Value} {round:Int} {w:World} {R:Value→World→Prop} (h:MX a round w R):Ok Pr MT [.agg ⟨a⟩,.int .i64 round] w R:=
 aL (m:=⟨true,true⟩) (J:=[]) (L:=[]) aJ Tryz.func296 (by kernel_rfl) ((by kernel_rfl:aK Pr _ _ _ Tryz.f296 _ w R=MX a round w R).mpr h)
def NP (a:List Value) (w:World) (R:Value→World→Prop):Prop:=
 nw dP a w fun b c=>
 nw dP (zc Pr dP) c fun d e=>
 iy 25 b e fun f=>
 nw dP (zc Pr dP) e fun g i=>
 kQ 25 g f i fun j=>
 cZ (fun (k:Int)=>[(7,some (.int .i64 k))])
 (fun l k m=>aA (decide (k<5))
 (cZ (fun (n:Int)=>[(10,some (.int .i64 n))])
 (fun o n p=>aA (decide (n<5))
 ((aF (n+1)∧
 (aF (n+2)∧
 ay Pr wu [.int .i64 n,.int .i64 k] (World.drew p) fun q s=>
 aY .i64 q fun t=>
 idx t 25
 (an .u64 (Addr.add g (Int.toNat t * 1)) s fun u=>
 ay Pr wu [.int .i64 (n+1),.int .i64 k] s fun v x=>
 aY .i64 v fun y=>
 (kept (Addr.add g (Int.toNat t * 1)) 1 s x∧
 idx y 25
 (an .u64 (Addr.add b (Int.toNat y * 1)) x fun z=>
 ay Pr wu [.int .i64 (n+2),.int .i64 k] x fun A B=>
 aY .i64 A fun C=>
 (kept (Addr.add b (Int.toNat y * 1)) 1 x B∧
 (kept (Addr.add g (Int.toNat t * 1)) 1 x B∧
 idx C 25
 (an .u64 (Addr.add b (Int.toNat C * 1)) B fun D=>
 idx t 25
 (st (Addr.add g (Int.toNat t * 1)) (.int .u64 (oE .u64 u (iu .u64 (Jk .u64 z) D))) B fun E=>
 (aF (n+1)∧
 o (n+1) E)))))))))))
 ((aF (k+1)∧
 l (k+1) p)))
 0 m)
 (iy 25 g m fun F=>
 kQ 25 d F m fun G=>
 iy 25 d G fun I=>
 R (.agg ⟨I⟩) G))
 0 j
theorem aei {a:List Value} {w:World} {R:Value→World→Prop} (h:NP a w R):Ok Pr NI [.agg ⟨a⟩] w R:=
 aL (m:=⟨true,true⟩) (J:=[]) (L:=[(3,[(7,.int .i64)]),(6,[(10,.int .i64)])]) aJ Tryz.func297 (by kernel_rfl) ((by kernel_rfl:aK Pr _ _ _ Tryz.f297 _ w R=NP a w R).mpr h)
def OV (a:List Value) (w:World) (R:Value→World→Prop):Prop:=
 nw dP a w fun b c=>
 nw dP (zc Pr dP) c fun d e=>
 nw dP (zc Pr dP) e fun f g=>
 cZ (fun (i:Int)=>[(6,some (.int .i64 i))])
 (fun j i k=>aA (decide (i<5))
 (cZ (fun (l:Int)=>[(9,some (.int .i64 l))])
 (fun m l n=>aA (decide (l<5))
 (ay Pr wu [.int .i64 l,.int .i64 i] n fun o p=>
 aY .i64 o fun q=>
 (aF (3 * i)∧
 (aF (l+(3 * i))∧
 ay Pr wu [.int .i64 (l+(3 * i)),.int .i64 l] p fun s t=>
 aY .i64 s fun u=>
 idx u 25
 (an .u64 (Addr.add b (Int.toNat u * 1)) t fun v=>
 idx q 25
 (st (Addr.add f (Int.toNat q * 1)) (.int .u64 v) t fun x=>
 (aF (l+1)∧
 m (l+1) x))))))
 ((aF (i+1)∧
 j (i+1) n)))
 0 k)
 (iy 25 f k fun y=>
 kQ 25 d y k fun z=>
 iy 25 d z fun A=>
 R (.agg ⟨A⟩) z))
 0 g
theorem aeX {a:List Value} {w:World} {R:Value→World→Prop} (h:OV a w R):Ok Pr OO [.agg ⟨a⟩] w R:=
 aL (m:=⟨true,true⟩) (J:=[]) (L:=[(3,[(6,.int .i64)]),(6,[(9,.int .i64)])]) aJ Tryz.func298 (by kernel_rfl) ((by kernel_rfl:aK Pr _ _ _ Tryz.f298 _ w R=OV a w R).mpr h)
def NQ (a:List Value) (w:World) (R:Value→World→Prop):Prop:=
 nw dP a w fun b c=>
 nw dP (zc Pr dP) c fun d e=>
 BP (fun (f:Int) (g:Int) (i:Int)=>[(3,some (.int .i64 f)),(4,some (.int .i64 g)),(5,some (.int .i64 i))])
 (fun j f g i k=>aA (decide (i≤24))
 (ay Pr wu [.int .i64 f,.int .i64 g] k fun l m=>
 aY .i64 l fun n=>
 idx n 25
 (an .u64 (Addr.add b (Int.toNat n * 1)) m fun o=>
 (aF (i+1)∧
 (aF (i * (i+1))∧
 ((0≤i * (i+1)∧i * (i+1)≤IntKind.max .i64)∧
 (0≤(i * (i+1)) / 2∧
 ay Pr GB [.int .u64 o,.int .i64 (((i * (i+1)) / 2) % 64)] m fun p q=>
 aY .u64 p fun s=>
 idx n 25
 (st (Addr.add b (Int.toNat n * 1)) (.int .u64 s) q fun t=>
 (aF (2 * f)∧
 (aF (3 * g)∧
 (aF ((2 * f)+(3 * g))∧
 (0≤(2 * f)+(3 * g)∧
 lt (A:=Int) (((2 * f)+(3 * g)) % 5) fun u=>
 (aF (i+1)∧
 j g u (i+1) t))))))))))))
 (iy 25 b k fun v=>
 kQ 25 d v k fun x=>
 iy 25 d x fun y=>
 R (.agg ⟨y⟩) x))
 1 0 1 e
theorem aej {a:List Value} {w:World} {R:Value→World→Prop} (h:NQ a w R):Ok Pr NJ [.agg ⟨a⟩] w R:=
 aL (m:=⟨true,true⟩) (J:=[]) (L:=[(3,[(3,.int .i64),(4,.int .i64),(5,.int .i64)])]) aJ Tryz.func299 (by kernel_rfl) ((by kernel_rfl:aK Pr _ _ _ Tryz.f299 _ w R=NQ a w R).mpr h)
def Mu (a:List Value) (w:World) (R:Value→World→Prop):Prop:=
 nw dP a w fun b c=>
 nw dP (zc Pr dP) c fun d e=>
 nw DD (zc Pr DD) e fun f g=>
 iy 25 b g fun i=>
 cZ (fun (j:Int)=>[(9,some (.int .i64 j))])
 (fun k j l=>aA (decide (j<25))
 (atI .u64 i j 25 fun m=>
 (0≤j∧
 idx (j % 5) 5
 (an .u64 (Addr.add f (Int.toNat (j % 5) * 1)) l fun n=>
 idx (j % 5) 5
 (st (Addr.add f (Int.toNat (j % 5) * 1)) (.int .u64 (oE .u64 n m)) l fun o=>
 (aF (j+1)∧
 k (j+1) o)))))
 (cZ (fun (p:Int)=>[(21,some (.int .i64 p))])
 (fun q p s=>aA (decide (p<25))
 ((0≤p∧
 idx p 25
 (an .u64 (Addr.add b (Int.toNat p * 1)) (World.drew s) fun t=>
 (aF ((p % 5)+4)∧
 (0≤(p % 5)+4∧
 idx (((p % 5)+4) % 5) 5
 (an .u64 (Addr.add f (Int.toNat (((p % 5)+4) % 5) * 1)) (World.drew s) fun u=>
 (aF ((p % 5)+1)∧
 (0≤(p % 5)+1∧
 idx (((p % 5)+1) % 5) 5
 (an .u64 (Addr.add f (Int.toNat (((p % 5)+1) % 5) * 1)) (World.drew s) fun v=>
 ay Pr GB [.int .u64 v,.int .i64 1] (World.drew s) fun x y=>
 aY .u64 x fun z=>
 (kept (Addr.add f (Int.toNat (((p % 5)+4) % 5) * 1)) 1 (World.drew s) y∧
 (kept (Addr.add b (Int.toNat p * 1)) 1 (World.drew s) y∧
 idx p 25
 (st (Addr.add b (Int.toNat p * 1)) (.int .u64 (oE .u64 t (oE .u64 u z))) y fun A=>
 (aF (p+1)∧
 q (p+1) A)))))))))))))
 (iy 25 b s fun B=>
 kQ 25 d B s fun C=>
 iy 25 d C fun D=>
 R (.agg ⟨D⟩) C))
 0 l))
 0 g
theorem adm {a:List Value} {w:World} {R:Value→World→Prop} (h:Mu a w R):Ok Pr Ms [.agg ⟨a⟩] w R:=
 aL (m:=⟨true,true⟩) (J:=[]) (L:=[(3,[(9,.int .i64)]),(8,[(21,.int .i64)])]) aJ Tryz.func300 (by kernel_rfl) ((by kernel_rfl:aK Pr _ _ _ Tryz.f300 _ w R=Mu a w R).mpr h)
def OW (x:Int) (y:Int) (w:World) (R:Value→World→Prop):Prop:=
 (0≤x∧
 (0≤y∧
 (aF (5 * (y % 5))∧
 (aF ((x % 5)+(5 * (y % 5)))∧
 R (.int .i64 ((x % 5)+(5 * (y % 5)))) w))))
theorem aeY {x:Int} {y:Int} {w:World} {R:Value→World→Prop} (h:OW x y w R):Ok Pr wu [.int .i64 x,.int .i64 y] w R:=
 aL (m:=⟨true,true⟩) (J:=[]) (L:=[]) aJ Tryz.func301 (by kernel_rfl) ((by kernel_rfl:aK Pr _ _ _ Tryz.f301 _ w R=OW x y w R).mpr h)
end Go.Proofs.YtgjoehgomjgckaaGreatDoor
end
section
set_option linter.unusedVariables false
set_option linter.unusedSimpArgs false
namespace Go.Ev
open Go Go.RowKit
variable {P:Program}
structure aD where
 fp:List Nat
 ok:World→Prop
 kD:∀ w w':World,(∀ b∈fp,w'.heap[b]? = w.heap[b]?)→ok w→ok w'
 lt:∀ w,ok w→∀ b∈fp,b<w.heap.size
def aD.av (b:Nat) (cs:List Value) (t:TypeId):aD where
 fp:=[b]
 ok w:=bW w b cs t
 kD w w' h k:=(h b (by simp)).trans k
 lt w h c hc:=by simp only [List.mem_singleton] at hc; subst hc; exact bW.lt h
def aD.row (e:TypeId) (sz:Nat) (s:ah) (vs:List Value):aD where
 fp:=s.row
 ok w:=Own w 0 e sz s vs
 kD w w' h k:=by
  obtain ⟨a,n,c⟩:=s
  obtain ⟨hl,h1 | ⟨g,cap,cur,h1,h2,h3,h4⟩⟩:=k
  ·exact ⟨hl,.inl h1⟩
  ·refine ⟨hl,.inr ⟨g,cap,cur,h1,h2,?_,h4⟩⟩
   simp only [ah.v,Value.slice.injEq] at h1
   rw [h g (by simp [ah.row,h1.1])]
   exact h3
 lt w h b hb:=(Own.D7 h b hb).2
structure ak (w0:World) (S:List Nat) (w:World) (L:List aD):Prop where
 mod:Mod S w0 w
 ok:∀ (k:Nat) (r:aD),L[k]? = some r→r.ok w
 own:∀ (k:Nat) (r:aD),L[k]? = some r→∀ b∈r.fp,b∈S∨w0.heap.size≤b
 apart:∀ (j k:Nat) (r s:aD),j≠k→L[j]? = some r→L[k]? = some s→∀ b∈r.fp,b∉s.fp
section
variable {w0 w w':World} {S:List Nat} {L:List aD} {r r':aD} {k:Nat}
theorem ak.start (w:World):ak w [] w []:=⟨Mod.refl _ _,fun k r h=>by simp at h,fun k r h=>by simp at h,fun j k r s _ h=>by simp at h⟩
theorem ak.D9 {r:aD} {w:World} (h:r.ok w):ak w r.fp w [r]:=by
 have e:∀ {k:Nat} {s:aD},[r][k]? = some s→k=0∧s=r:=fun {k s} h=>by
  cases k with
  | zero=>simp at h; exact ⟨rfl,h.symm⟩
  | succ k=>simp at h
 refine ⟨Mod.refl _ _,fun k s hs=>?_,fun k s hs b hb=>?_,fun j k s t k9 hs ht=>?_⟩
 ·rw [(e hs).2]; exact h
 ·rw [(e hs).2] at hb; exact .inl hb
 ·exact absurd ((e hs).1.trans (e ht).1.symm) k9
theorem ak.get (H:ak w0 S w L) (k:Nat) {r:aD} (hk:L[k]? = some r):r.ok w:=H.ok k r hk
theorem ak.frame (H:ak w0 S w L) (m:Mod [] w w'):ak w0 S w' L:=
 ⟨H.mod.then m,fun k r hk=>r.kD w w' (fun b hb=>m.block b (r.lt w (H.ok k r hk) b hb) (by simp)) (H.ok k r hk),H.own,H.apart⟩
theorem ak.push (H:ak w0 S w L) (m:Mod [] w w') (hr:r.ok w') (hf:∀ b∈r.fp,w.heap.size≤b):ak w0 S w' (L ++ [r]):=by
 have H':=H.frame m
 have e:∀ {k:Nat} {s:aD},(L ++ [r])[k]? = some s→(L[k]? = some s∧k<L.length)∨(s=r∧k=L.length):=fun {k s} h=>by
  rcases Nat.lt_or_ge k L.length with hk | hk
  ·rw [List.getElem?_append_left hk] at h; exact .inl ⟨h,hk⟩
  ·rw [List.getElem?_append_right hk] at h
   rcases Nat.eq_zero_or_pos (k - L.length) with e | e
   ·rw [e] at h; simp at h; exact .inr ⟨h.symm,by omega⟩
   ·rw [List.getElem?_eq_none (by simp; omega)] at h; cases h
 refine ⟨H'.mod,fun k s hs=>?_,fun k s hs b hb=>?_,fun j k s t k9 hs ht b hb iK=>?_⟩
 ·rcases e hs with ⟨h,_⟩ | ⟨rfl,_⟩
  ·exact H'.ok k s h
  ·exact hr
 ·rcases e hs with ⟨h,_⟩ | ⟨rfl,_⟩
  ·exact H.own k s h b hb
  ·exact .inr (Nat.le_trans H.mod.size (hf b hb))
 ·rcases e hs with ⟨h,hj⟩ | ⟨rfl,hj⟩
  ·rcases e ht with ⟨h',_⟩ | ⟨rfl,_⟩
   ·exact H.apart j k s t k9 h h' b hb iK
   ·have:=s.lt w (H.ok j s h) b hb
    have:=hf b iK
    omega
  ·rcases e ht with ⟨h',_⟩ | ⟨rfl,hk⟩
   ·have:=t.lt w (H.ok k t h') b iK
    have:=hf b hb
    omega
   ·omega
theorem ak.iM {T:List Nat} (H:ak w0 S w L) (k:Nat) {r r':aD} (hk:L[k]? = some r) (m:Mod T w w') (hT:∀ b∈T,b∈r.fp∨w.heap.size≤b) (hr:r'.ok w') (hf:∀ b∈r'.fp,b∈r.fp∨w.heap.size≤b) :
  ak w0 S w' (L.set k r'):=by
 have bM:k<L.length:=(List.getElem?_eq_some_iff.1 hk).1
 have e:∀ {j:Nat} {s:aD},(L.set k r')[j]? = some s→(L[j]? = some s∧j≠k)∨(s=r'∧j=k):=fun {j s} h=>by
  rw [List.getElem?_set] at h
  split at h
  ·rename_i e
   subst e
   exact .inr ⟨(Option.some.inj h).symm,rfl⟩
  ·rename_i hn; exact .inl ⟨h,fun e=>hn e.symm⟩
 refine ⟨H.mod.trans' m fun b hb=>?_,fun j s hs=>?_,fun j s hs b hb=>?_,fun i j s t Ap hs ht b hb iK=>?_⟩
 ·rcases hT b hb with h | h
  ·exact H.own k r hk b h
  ·exact .inr (Nat.le_trans H.mod.size h)
 ·rcases e hs with ⟨h,hj⟩ | ⟨rfl,_⟩
  ·refine s.kD w w' (fun b hb=>m.block b (s.lt w (H.ok j s h) b hb) fun hbT=>?_) (H.ok j s h)
   rcases hT b hbT with h1 | h1
   ·exact H.apart j k s r hj h hk b hb h1
   ·have:=s.lt w (H.ok j s h) b hb; omega
  ·exact hr
 ·rcases e hs with ⟨h,_⟩ | ⟨rfl,_⟩
  ·exact H.own j s h b hb
  ·rcases hf b hb with h1 | h1
   ·exact H.own k r hk b h1
   ·exact .inr (Nat.le_trans H.mod.size h1)
 ·have old:∀ {j:Nat} {s:aD} {b:Nat},L[j]? = some s→j≠k→b∈s.fp→b∉r'.fp:=fun {j s b} h hj hb iK=>by
   rcases hf b iK with h1 | h1
   ·exact H.apart j k s r hj h hk b hb h1
   ·have:=s.lt w (H.ok j s h) b hb; omega
  rcases e hs with ⟨h,hi⟩ | ⟨rfl,hi⟩
  ·rcases e ht with ⟨h',_⟩ | ⟨rfl,_⟩
   ·exact H.apart i j s t Ap h h' b hb iK
   ·exact old h hi hb iK
  ·rcases e ht with ⟨h',hj⟩ | ⟨rfl,hj⟩
   ·exact old h' hj iK hb
   ·omega
theorem ak.take (H:ak w0 S w L) (n:Nat):ak w0 S w (L.take n):=by
 have e:∀ {k:Nat} {s:aD},(L.take n)[k]? = some s→L[k]? = some s:=fun {k s} h=>by
  rw [List.getElem?_take] at h
  split at h
  ·exact h
  ·cases h
 exact ⟨H.mod,fun k s hs=>H.ok k s (e hs),fun k s hs=>H.own k s (e hs),fun j k s t k9 hs ht=>H.apart j k s t k9 (e hs) (e ht)⟩
theorem ak.drew (H:ak w0 S w L):ak w0 S w.drew L:=H.frame (Mod.drew _ _)
end
section
variable {w0 w:World} {S:List Nat} {L:List aD}
theorem ak.nw (H:ak w0 S w L) {t:TypeId} {cs:List Value} {K:Addr→World→Prop} (h:∀ b w',ak w0 S w' (L ++ [.av b cs t])→w0.heap.size≤b→K ⟨b,0,none⟩ w'):nw t cs w K:=
 qv fun b w' hb h1 h2 _=>h b w' (H.push h2 h1 (by simp [aD.av,hb])) (hb ▸ H.mod.size)
theorem ak.av (H:ak w0 S w L) (k:Nat) {b:Nat} {cs:List Value} {t:TypeId} (hk:L[k]? = some (.av b cs t)):bW w b cs t:=H.ok k _ hk
theorem ak.st (H:ak w0 S w L) (k:Nat) {b i:Nat} {a:Addr} {v:Value} {cs:List Value} {t:TypeId} {K:World→Prop} (hk:L[k]? = some (.av b cs t)) (ha:a=⟨b,i,none⟩) (hi:i<cs.length) (h1:ek v=true)
  (h:∀ w',ak w0 S w' (L.set k (.av b (cs.set i v) t))→K w'):st a v w K:=by
 subst ha
 exact RE (H.av k hk) hi h1 fun w' h2 h3 _=>h w' (H.iM k hk h3 (fun c hc=>.inl hc) h2 (fun c hc=>.inl hc))
theorem ak.kQ (H:ak w0 S w L) (k:Nat) {b n:Nat} {l cs:List Value} {t:TypeId} {K:World→Prop} (hk:L[k]? = some (.av b cs t)) (hl:l.length=n) (hn:n=cs.length) (h1:∀ v∈l,ek v=true)
  (h:∀ w',ak w0 S w' (L.set k (.av b l t))→K w'):kQ n ⟨b,0,none⟩ l w K:=
 XZ (H.av k hk) hl (Nat.le_of_eq hn) h1 fun w' h2 h3 _=>by
  rw [hn,List.drop_length,List.append_nil] at h2
  exact h w' (H.iM k hk h3 (fun c hc=>.inl hc) h2 (fun c hc=>.inl hc))
theorem ak.iy (H:ak w0 S w L) (k:Nat) {b n:Nat} {cs:List Value} {t:TypeId} {K:List Value→Prop} (hk:L[k]? = some (.av b cs t)) (hn:n=cs.length) (h:K cs):iy n ⟨b,0,none⟩ w K:=
 X0 (H.av k hk) (Nat.le_of_eq hn) (by rw [hn,List.take_length]; exact h)
theorem ak.cell (H:ak w0 S w L) (k:Nat) {b i:Nat} {a:Addr} {v:Value} {cs:List Value} {t:TypeId} (hk:L[k]? = some (.av b cs t)) (ha:a=⟨b,i,none⟩) (hv:cs[i]? = some v):w.cell? a=some v:=by
 subst ha; exact ((H.av k hk).cell i).trans hv
theorem ak.an (H:ak w0 S w L) (k:Nat) {b i:Nat} {a:Addr} {q:IntKind} {n:Int} {cs:List Value} {t:TypeId} {K:Int→Prop} (hk:L[k]? = some (.av b cs t)) (ha:a=⟨b,i,none⟩) (hv:cs[i]? = some (.int q n)) (h:K n):an q a w K:=
 ⟨n,H.cell k hk ha hv,h⟩
theorem ak.l5 (H:ak w0 S w L) (k:Nat) {b i:Nat} {a:Addr} {n:Bool} {cs:List Value} {t:TypeId} {K:Bool→Prop} (hk:L[k]? = some (.av b cs t)) (ha:a=⟨b,i,none⟩) (hv:cs[i]? = some (.bool n)) (h:K n):l5 a w K:=
 ⟨n,H.cell k hk ha hv,h⟩
theorem ak.l6 (H:ak w0 S w L) (k:Nat) {b i:Nat} {a:Addr} {n:Option Addr} {cs:List Value} {t:TypeId} {K:Option Addr→Prop} (hk:L[k]? = some (.av b cs t)) (ha:a=⟨b,i,none⟩) (hv:cs[i]? = some (.pointer n)) (h:K n):l6 a w K:=
 ⟨n,H.cell k hk ha hv,h⟩
theorem ak.ax (H:ak w0 S w L) (k:Nat) {b i:Nat} {a:Addr} {n:ah} {cs:List Value} {t:TypeId} {K:ah→Prop} (hk:L[k]? = some (.av b cs t)) (ha:a=⟨b,i,none⟩) (hv:cs[i]? = some (.slice n.a n.n n.c)) (h:K n):ax a w K:=
 ⟨n,H.cell k hk ha hv,h⟩
theorem ak.kept (H:ak w0 S w L) {w':World} (m:Mod [] w w') (k:Nat) {b i:Nat} {a:Addr} {cs:List Value} {t:TypeId} (hk:L[k]? = some (.av b cs t)) (ha:a=⟨b,i,none⟩) (n:Nat):kept a n w w':=by
 subst ha
 exact DT m (H.av k hk).lt (by simp)
end
theorem ad (b i:Nat):Addr.add ⟨b,0,none⟩ (i * 1)=⟨b,i,none⟩:=by rw [s8,Nat.zero_add,Nat.mul_one]
theorem au (b i:Nat):Addr.add ⟨b,0,none⟩ i=⟨b,i,none⟩:=by rw [s8,Nat.zero_add]
section
variable {w0 w:World} {S:List Nat} {L:List aD}
theorem Own.lo {w:World} {lo:Nat} {e:TypeId} {sz:Nat} {s:ah} {vs:List Value} (h:Own w lo e sz s vs):Own w 0 e sz s vs:=by
 obtain ⟨hl,h1 | ⟨g,cap,cur,h1,h2,h3⟩⟩:=h
 ·exact ⟨hl,.inl h1⟩
 ·exact ⟨hl,.inr ⟨g,cap,cur,h1,Nat.zero_le _,h3⟩⟩
theorem ak.qE (H:ak w0 S w L) (k:Nat) {e:TypeId} {sz:Nat} {s:ah} {vs:List Value} (hk:L[k]? = some (.row e sz s vs)):Own w 0 e sz s vs:=H.ok k _ hk
theorem ak.iZ (H:ak w0 S w L) (e:TypeId) (sz:Nat):ak w0 S w (L ++ [.row e sz ⟨none,0,0⟩ []]):=
 H.push (Mod.refl _ _) (Own.nil w 0 e sz) (by simp [aD.row,ah.row])
theorem ak.app (H:ak w0 S w L) (k:Nat) {t ty e:TypeId} {sz bytes:Nat} {s x:ah} {vs us:List Value} {K:ah→World→Prop} (cA:e6 P t e sz bytes) (hk:L[k]? = some (.row e sz s vs)) (hx:Sl w x sz us)
  (h1:∀ u∈us,ek u=true) (hb:(s.n+x.n) * bytes≤140737488355328) (hm:s.n+x.n≤9223372036854775807)
  (h:∀ s' w',ak w0 S w' (L.set k (.row e sz s' (vs ++ us)))→s'.n=s.n+x.n→K s' w'):cH P [t,t] ty [.slice s.a s.n s.c,.slice x.a x.n x.c] w K:=
 akI cA (H.qE k hk) hx h1 hb hm (Nat.zero_le _) fun s' w' h2 h3 h4 h5=>h s' w' (H.iM k hk h3 (fun b hb=>.inl hb) h2 h5) h4
end
theorem yV {A1:Type} {mk:A1→Fr} {body:(A1→World→Prop)→A1→World→Prop} {y1:A1} {v:World} (I:A1→World→Prop) (μ:A1→World→Nat) (hi:I y1 v)
  (hb:∀ (again:A1→World→Prop) x1 w,I x1 w→(∀ gU w',I gU w'→μ gU w'<μ x1 w→again gU w')→body again x1 w):cZ mk body y1 v:=by
 intro X hX
 suffices ∀ n x1 w,μ x1 w<n→I x1 w→X (mk x1) w from this _ y1 v (Nat.lt_succ_self _) hi
 intro n
 induction n with
 | zero=>intro x1 w h; omega
 | succ n ih=>intro x1 w hn hI; exact hX x1 w (hb _ x1 w hI fun gU w' h1 h2=>ih gU w' (by omega) h1)
theorem wL {A1 A2:Type} {mk:A1→A2→Fr} {body:(A1→A2→World→Prop)→A1→A2→World→Prop} {y1:A1} {y2:A2} {v:World} (I:A1→A2→World→Prop) (μ:A1→A2→World→Nat) (hi:I y1 y2 v)
  (hb:∀ (again:A1→A2→World→Prop) x1 x2 w,I x1 x2 w→(∀ gU jR w',I gU jR w'→μ gU jR w'<μ x1 x2 w→again gU jR w')→body again x1 x2 w):iq mk body y1 y2 v:=by
 intro X hX
 suffices ∀ n x1 x2 w,μ x1 x2 w<n→I x1 x2 w→X (mk x1 x2) w from this _ y1 y2 v (Nat.lt_succ_self _) hi
 intro n
 induction n with
 | zero=>intro x1 x2 w h; omega
 | succ n ih=>intro x1 x2 w hn hI; exact hX x1 x2 w (hb _ x1 x2 w hI fun gU jR w' h1 h2=>ih gU jR w' (by omega) h1)
theorem Io {A1 A2 A3:Type} {mk:A1→A2→A3→Fr} {body:(A1→A2→A3→World→Prop)→A1→A2→A3→World→Prop} {y1:A1} {y2:A2} {y3:A3} {v:World} (I:A1→A2→A3→World→Prop) (μ:A1→A2→A3→World→Nat)
  (hi:I y1 y2 y3 v)
  (hb:∀ (again:A1→A2→A3→World→Prop) x1 x2 x3 w,I x1 x2 x3 w→(∀ gU jR mC w',I gU jR mC w'→μ gU jR mC w'<μ x1 x2 x3 w→again gU jR mC w')→body again x1 x2 x3 w):BP mk body y1 y2 y3 v:=by
 intro X hX
 suffices ∀ n x1 x2 x3 w,μ x1 x2 x3 w<n→I x1 x2 x3 w→X (mk x1 x2 x3) w from this _ y1 y2 y3 v (Nat.lt_succ_self _) hi
 intro n
 induction n with
 | zero=>intro x1 x2 x3 w h; omega
 | succ n ih=>intro x1 x2 x3 w hn hI; exact hX x1 x2 x3 w (hb _ x1 x2 x3 w hI fun gU jR mC w' h1 h2=>ih gU jR mC w' (by omega) h1)
theorem dw {mk:Int→Fr} {body:(Int→World→Prop)→Int→World→Prop} {v:World} {y:Int} (lo hi:Nat) (I:Nat→World→Prop) (hy:y=(lo:Int)) (hle:lo≤hi) (h0:I lo v)
  (step:∀ (again:Int→World→Prop) (i:Nat) w,lo≤i→i<hi→I i w→(∀ w',I (i+1) w'→again ((i:Int)+1) w')→body again (i:Int) w)
  (done:∀ (again:Int→World→Prop) w,I hi w→body again (hi:Int) w):cZ mk body y v:=by
 subst hy
 refine yV (fun x w=>∃ i:Nat,x=(i:Int)∧lo≤i∧i≤hi∧I i w) (fun x _=>hi - x.toNat) ⟨lo,rfl,Nat.le_refl _,hle,h0⟩ ?_
 rintro again x w ⟨i,rfl,h1,h2,h3⟩ aM
 rcases Nat.lt_or_ge i hi with h | h
 ·exact step again i w h1 h h3 fun w' h4=>aM _ w' ⟨i+1,by simp,by omega,by omega,h4⟩ (by omega)
 ·have:i=hi:=by omega
  subst this
  exact done again w h3
theorem kX {A:Type} {mk:A→Int→Fr} {body:(A→Int→World→Prop)→A→Int→World→Prop} {v:World} {x:A} {y:Int} (lo hi:Nat) (I:Nat→A→World→Prop) (hy:y=(lo:Int)) (hle:lo≤hi) (h0:I lo x v)
  (step:∀ (again:A→Int→World→Prop) (i:Nat) a w,lo≤i→i<hi→I i a w→(∀ a' w',I (i+1) a' w'→again a' ((i:Int)+1) w')→body again a (i:Int) w)
  (done:∀ (again:A→Int→World→Prop) a w,I hi a w→body again a (hi:Int) w):iq mk body x y v:=by
 subst hy
 refine wL (fun a x w=>∃ i:Nat,x=(i:Int)∧lo≤i∧i≤hi∧I i a w) (fun _ x _=>hi - x.toNat) ⟨lo,rfl,Nat.le_refl _,hle,h0⟩ ?_
 rintro again a x w ⟨i,rfl,h1,h2,h3⟩ aM
 rcases Nat.lt_or_ge i hi with h | h
 ·exact step again i a w h1 h h3 fun a' w' h4=>aM a' _ w' ⟨i+1,by simp,by omega,by omega,h4⟩ (by omega)
 ·have:i=hi:=by omega
  subst this
  exact done again a w h3
theorem ajw {A B:Type} {mk:A→B→Int→Fr} {body:(A→B→Int→World→Prop)→A→B→Int→World→Prop} {v:World} {x:A} {z:B} {y:Int} (lo hi:Nat) (I:Nat→A→B→World→Prop) (hy:y=(lo:Int)) (hle:lo≤hi) (h0:I lo x z v)
  (step:∀ (again:A→B→Int→World→Prop) (i:Nat) a b w,lo≤i→i<hi→I i a b w→(∀ a' b' w',I (i+1) a' b' w'→again a' b' ((i:Int)+1) w')→body again a b (i:Int) w)
  (done:∀ (again:A→B→Int→World→Prop) a b w,I hi a b w→body again a b (hi:Int) w):BP mk body x z y v:=by
 subst hy
 refine Io (fun a b x w=>∃ i:Nat,x=(i:Int)∧lo≤i∧i≤hi∧I i a b w) (fun _ _ x _=>hi - x.toNat) ⟨lo,rfl,Nat.le_refl _,hle,h0⟩ ?_
 rintro again a b x w ⟨i,rfl,h1,h2,h3⟩ aM
 rcases Nat.lt_or_ge i hi with h | h
 ·exact step again i a b w h1 h h3 fun a' b' w' h4=>aM a' b' _ w' ⟨i+1,by simp,by omega,by omega,h4⟩ (by omega)
 ·have:i=hi:=by omega
  subst this
  exact done again a b w h3
theorem ku {mk:Fr} {rest:World→Prop} {first:(World→Prop)→Prop} (h:∀ go:World→Prop,(∀ w,rest w→go w)→first go):jZ mk rest first:=
 fun K hK=>h _ fun w hw=>hK w hw
theorem jv {A1:Type} {mk:A1→Fr} {rest:A1→World→Prop} {first:(A1→World→Prop)→Prop} (h:∀ go:A1→World→Prop,(∀ x w,rest x w→go x w)→first go):jh mk rest first:=
 fun K hK=>h _ fun x w hw=>hK x w hw
theorem wM {A1 A2:Type} {mk:A1→A2→Fr} {rest:A1→A2→World→Prop} {first:(A1→A2→World→Prop)→Prop} (h:∀ go:A1→A2→World→Prop,(∀ x y w,rest x y w→go x y w)→first go):uN mk rest first:=
 fun K hK=>h _ fun x y w hw=>hK x y w hw
def up {A:Type} (f:A→Nat→A) (s:A) (n:Nat):A:=(List.range n).foldl f s
theorem akL {A:Type} (f:A→Nat→A) (s:A):up f s 0=s:=rfl
theorem mq {A:Type} (f:A→Nat→A) (s:A) (n:Nat):up f s (n+1)=f (up f s n) n:=by simp [up,List.range_succ]
theorem ey {k:IntKind} {n:Int} {K:Int→Prop} (h:K n):aY k (.int k n) K:=⟨n,rfl,h⟩
theorem bk {b:Bool} {K:Bool→Prop} (h:K b):aU (.bool b) K:=⟨b,rfl,h⟩
theorem ZQ {p:Option Addr} {K:Option Addr→Prop} (h:K p):Cv (.pointer p) K:=⟨p,rfl,h⟩
theorem bV {s:ah} {K:ah→Prop} (h:K s):aT (.slice s.a s.n s.c) K:=⟨s,rfl,h⟩
end Go.Ev
end
section
set_option linter.unusedVariables false
set_option linter.unusedSimpArgs false
namespace Go.Ev
open Go Go.RowKit
abbrev B8:=BitVec 8
abbrev aI:=BitVec 64
def u8 (b:B8):Value:=.int .u8 (b.toNat:Int)
def u64 (x:aI):Value:=.int .u64 (x.toNat:Int)
def bp (l:List B8):List Value:=l.map u8
def cP (l:List aI):List Value:=l.map u64
theorem W8 (l:List B8):∀ v∈bp l,ek v=true:=by
 intro v hv
 obtain ⟨b,-,rfl⟩:=List.mem_map.1 hv
 rfl
theorem WA (l:List aI):∀ v∈cP l,ek v=true:=by
 intro v hv
 obtain ⟨b,-,rfl⟩:=List.mem_map.1 hv
 rfl
@[simp] theorem yH (l:List B8):(bp l).length=l.length:=by simp [bp]
@[simp] theorem yB (l:List aI):(cP l).length=l.length:=by simp [cP]
theorem W9 (l:List aI) (i:Nat) (x:aI):(cP l).set i (u64 x)=cP (l.set i x):=by simp [cP,List.map_set]
theorem QX (l:List aI) (i:Nat) (h:i<l.length):(cP l)[i]? = some (.int .u64 ((l.getD i 0).toNat:Int)):=by
 simp [cP,u64,h]
theorem akM (l:List B8) (i:Nat) (h:i<l.length):(bp l)[i]? = some (.int .u8 ((l.getD i 0).toNat:Int)):=by
 simp [bp,u8,h]
theorem PN (a b:List B8):bp (a ++ b)=bp a ++ bp b:=by simp [bp]
theorem wrap_u64 (n:Int):IntKind.wrap .u64 n=n % 18446744073709551616:=by simp [IntKind.wrap,IntKind.signed,IntKind.bits]
theorem wrap_u8 (n:Int):IntKind.wrap .u8 n=n % 256:=by simp [IntKind.wrap,IntKind.signed,IntKind.bits]
theorem OX (x:aI):IntKind.wrap .u64 (x.toNat:Int)=x.toNat:=by
 rw [wrap_u64]; have:=x.isLt; omega
theorem ahU (x:B8):IntKind.wrap .u8 (x.toNat:Int)=x.toNat:=by
 rw [wrap_u8]; have:=x.isLt; omega
theorem wz {n:Nat} (x:BitVec n):BitVec.ofInt n (x.toNat:Int)=x:=by simp
theorem zw (x y:aI):oE .u64 (x.toNat:Int) (y.toNat:Int)=((x ^^^ y).toNat:Int):=by
 unfold oE
 rw [show IntKind.bits .u64=64 from rfl,wz,wz,OX]
theorem R7 (x y:aI):iu .u64 (x.toNat:Int) (y.toNat:Int)=((x &&& y).toNat:Int):=by
 unfold iu
 rw [show IntKind.bits .u64=64 from rfl,wz,wz,OX]
theorem SH (x y:aI):rV .u64 (x.toNat:Int) (y.toNat:Int)=((x ||| y).toNat:Int):=by
 unfold rV
 rw [show IntKind.bits .u64=64 from rfl,wz,wz,OX]
theorem ana (x:aI):Jk .u64 (x.toNat:Int)=((~~~ x).toNat:Int):=by
 unfold Jk
 rw [show (if IntKind.signed .u64=true then (-1:Int) else IntKind.max .u64)=(((BitVec.allOnes 64).toNat:Nat):Int) from rfl,zw,BitVec.allOnes_xor]
theorem anV (x y:B8):oE .u8 (x.toNat:Int) (y.toNat:Int)=((x ^^^ y).toNat:Int):=by
 unfold oE
 rw [show IntKind.bits .u8=8 from rfl,wz,wz,ahU]
theorem I4 (x:aI) (k:Nat):shl .u64 (x.toNat:Int) (k:Int)=((x <<< k).toNat:Int):=by
 unfold shl
 rw [wrap_u64,show IntKind.bits .u64=64 from rfl,Int.toNat_natCast,BitVec.toNat_shiftLeft,Nat.shiftLeft_eq]
 have e:(((x.toNat * 2 ^ k % 2 ^ 64:Nat)):Int)=((x.toNat * 2 ^ (min k 64) % 2 ^ 64:Nat):Int):=by
  rcases Nat.le_total k 64 with h | h
  ·rw [Nat.min_eq_left h]
  ·rw [Nat.min_eq_right h]
   obtain ⟨j,rfl⟩:=Nat.exists_eq_add_of_le h
   rw [Nat.pow_add,Nat.mul_left_comm,Nat.mul_mod_right,Nat.mul_mod_left]
 rw [e,Int.natCast_emod,Int.natCast_mul,Int.natCast_pow]
 have gV:((2 ^ 64:Nat):Int)=18446744073709551616:=by decide
 rw [gV]
 rfl
theorem zx (x:aI) (k:Nat):shr .u64 (x.toNat:Int) (k:Int)=((x >>> k).toNat:Int):=by
 unfold shr
 rw [show IntKind.bits .u64=64 from rfl,Int.toNat_natCast,BitVec.toNat_ushiftRight,Nat.shiftRight_eq_div_pow,Int.fdiv_eq_ediv_of_nonneg _ (by exact Int.le_of_lt (Int.pow_pos (by decide)))]
 have e:x.toNat / 2 ^ k=x.toNat / 2 ^ (min k 64):=by
  rcases Nat.le_total k 64 with h | h
  ·rw [Nat.min_eq_left h]
  ·rw [Nat.min_eq_right h,Nat.div_eq_of_lt x.isLt,Nat.div_eq_of_lt (Nat.lt_of_lt_of_le x.isLt (Nat.pow_le_pow_right (by decide) h))]
 rw [e,Int.natCast_ediv,Int.natCast_pow]
 rfl
theorem anW (b:B8):IntKind.wrap .u64 (b.toNat:Int)=((b.setWidth 64).toNat:Int):=by
 rw [wrap_u64]; have:=b.isLt; rw [BitVec.toNat_setWidth]; omega
theorem aak (x:aI):IntKind.wrap .u8 (x.toNat:Int)=((x.setWidth 8).toNat:Int):=by
 rw [wrap_u8]; simp
theorem toNat_eq {n:Nat} {x y:BitVec n}:((x.toNat:Int)=(y.toNat:Int))↔x=y:=by
 constructor
 ·intro h; exact BitVec.eq_of_toNat_eq (by omega)
 ·intro h; rw [h]
def rotl (x:aI) (k:Nat):aI:=(x <<< (k % 64)) ||| (x >>> (64 - k % 64))
def Bytes (w:World) (s:ah) (l:List B8):Prop:=Sl w s 1 (bp l)
theorem Bytes.len {w:World} {s:ah} {l:List B8} (h:Bytes w s l):l.length=s.n:=by simpa using Sl.len h
theorem Bytes.ld {w:World} {s:ah} {l:List B8} (h:Bytes w s l) {i:Nat} (hi:i<l.length) {K:Int→Prop} (hk:K ((l.getD i 0).toNat:Int)) :
  aQ s.a (i:Int) s.n (an .u8 (Addr.add (base s.a) (Int.toNat (i:Int) * 1)) w K):=by
 have hl:=h.len
 refine ⟨⟨h.pre (by omega),by omega,by omega⟩,_,?_,hk⟩
 rw [Int.toNat_natCast,Nat.mul_one]
 exact h.cell i _ (akM l i hi)
section
variable {w0 w:World} {S:List Nat} {L:List aD}
theorem ak.rH (H:ak w0 S w L) (k:Nat) {b i:Nat} {a:Addr} {cs:List aI} {t:TypeId} {K:Int→Prop} (hk:L[k]? = some (.av b (cP cs) t)) (ha:a=⟨b,i,none⟩) (hi:i<cs.length) (h:K ((cs.getD i 0).toNat:Int)):Ev.an .u64 a w K:=
 H.an k hk ha (QX cs i hi) h
theorem ak.B6 (H:ak w0 S w L) (k:Nat) {b i:Nat} {a:Addr} {n:Int} {cs:List aI} {t:TypeId} {K:World→Prop} (x:aI) (hk:L[k]? = some (.av b (cP cs) t)) (ha:a=⟨b,i,none⟩) (hi:i<cs.length) (hn:n=(x.toNat:Int))
  (h:∀ w',ak w0 S w' (L.set k (.av b (cP (cs.set i x)) t))→K w'):Ev.st a (.int .u64 n) w K:=by
 subst hn
 refine H.st k hk ha (by simpa using hi) rfl fun w' H'=>h w' ?_
 rw [← W9]; exact H'
theorem ak.lN (H:ak w0 S w L) (k:Nat) {b n:Nat} {cs:List aI} {t:TypeId} {K:List Value→Prop} (hk:L[k]? = some (.av b (cP cs) t)) (hn:cs.length=n) (h:K (cP cs)):Ev.iy n ⟨b,0,none⟩ w K:=
 H.iy k hk (by simp [hn]) h
theorem ak.tq (H:ak w0 S w L) (k:Nat) {b n:Nat} {l cs:List aI} {t:TypeId} {K:World→Prop} (hk:L[k]? = some (.av b (cP cs) t)) (hl:l.length=n) (hn:cs.length=n)
  (h:∀ w',ak w0 S w' (L.set k (.av b (cP l) t))→K w'):Ev.kQ n ⟨b,0,none⟩ (cP l) w K:=
 H.kQ k hk (by simp [hl]) (by simp [hn]) (WA l) h
end
theorem yI {l:List aI} {K:List Value→Prop} (h:K (cP l)):jY (.agg ⟨cP l⟩) K:=⟨_,rfl,h⟩
end Go.Ev
end
section
set_option linter.unusedVariables false
set_option linter.unusedSimpArgs false
namespace Go.Proofs.YtgjoehgomjgckaaGreatDoor
open Go Go.Ev
abbrev g (a:List aI) (i:Nat):aI:=a.getD i 0
def fX:List aI:=List.replicate 25 0
def z24:List aI:=List.replicate 24 0
def z5:List aI:=List.replicate 5 0
theorem zE:zc Pr dP=cP fX:=by kernel_rfl
theorem anX:zc Pr OP=cP z24:=by kernel_rfl
theorem zc5:zc Pr DD=cP z5:=by kernel_rfl
theorem UL (x:aI) (k:Nat) (w:World):Ok Pr GB [.int .u64 (x.toNat:Int),.int .i64 (k:Int)] w fun v w'=>v=.int .u64 ((rotl x k).toNat:Int)∧w'=w:=by
 refine abV ?_
 unfold KE
 have e1:iu .u64 (IntKind.wrap .u64 (k:Int)) (63:Int)=((k % 64:Nat):Int):=by
  rw [wrap_u64,show ((k:Int) % 18446744073709551616)=((BitVec.ofNat 64 k).toNat:Int) by rw [BitVec.toNat_ofNat]; omega,show (63:Int)=((63#64).toNat:Int) from rfl,R7,BitVec.toNat_and,
   show (63#64).toNat=2 ^ 6 - 1 from rfl,Nat.and_two_pow_sub_one_eq_mod,BitVec.toNat_ofNat]
  omega
 have e2:IntKind.wrap .u64 ((64:Int) - ((k % 64:Nat):Int))=((64 - k % 64:Nat):Int):=by
  rw [wrap_u64]; omega
 rw [e1,Go.Ev.lt,e2]
 refine ⟨?_,rfl⟩
 rw [I4,zx,SH]
 rfl
theorem AS (x y:Nat) (hx:x<1000) (hy:y<1000) (w:World):Ok Pr wu [.int .i64 (x:Int),.int .i64 (y:Int)] w fun v w'=>v=.int .i64 ((x % 5+5 * (y % 5):Nat):Int)∧w'=w:=by
 refine aeY ?_
 unfold OW aF
 refine ⟨by omega,by omega,⟨by omega,by omega⟩,⟨by omega,by omega⟩,?_,rfl⟩
 rfl
def X1 (a c:List aI) (i:Nat):List aI:=c.set (i % 5) (g c (i % 5) ^^^ g a i)
def rI (a:List aI) (n:Nat):List aI:=up (X1 a) z5 n
def WB (c b:List aI) (i:Nat):List aI:=b.set i (g b i ^^^ (g c ((i % 5+4) % 5) ^^^ rotl (g c ((i % 5+1) % 5)) 1))
def qy (a:List aI) (n:Nat):List aI:=up (WB (rI a 25)) a n
theorem yP {A:Type} (f:List A→Nat→List A) (hf:∀ l i,(f l i).length=l.length) (s:List A) (n:Nat):(up f s n).length=s.length:=by
 induction n with
 | zero=>rfl
 | succ n ih=>rw [mq,hf,ih]
theorem OY (a:List aI) (n:Nat):(rI a n).length=5:=yP _ (fun _ _=>List.length_set) _ _
theorem Dp (a:List aI) (n:Nat):(qy a n).length=a.length:=yP _ (fun _ _=>List.length_set) _ _
theorem aiB (a:List aI) (n:Nat):rI a (n+1)=X1 a (rI a n) n:=mq _ _ _
theorem ahV (a:List aI) (n:Nat):qy a (n+1)=WB (rI a 25) (qy a n) n:=mq _ _ _
theorem aek (a:List aI) (ha:a.length=25) (w:World):Ok Pr Ms [.agg ⟨cP a⟩] w fun v w'=>v=.agg ⟨cP (qy a 25)⟩∧Mod [] w w':=by
 refine adm ?_
 unfold Mu
 rw [zE,zc5]
 refine (ak.start w).nw fun b0 w1 H _=>H.nw fun b1 w2 H _=>H.nw fun b2 w3 H _=>H.lN 0 rfl ha ?_
 refine dw 0 25 (fun i w'=>ak w [] w' [.av b0 (cP a) dP,.av b1 (cP fX) dP,.av b2 (cP (rI a i)) DD]) rfl (by omega) H ?_ ?_
 ·intro again i w4 _ hi H aM
  refine ite_true (by simp; omega) ⟨⟨by omega,by omega⟩,_,QX a i (by omega),by omega,⟨by omega,by omega⟩,?_⟩
  refine H.rH 2 (i:=i % 5) rfl (ad b2 (i % 5)) (by rw [OY]; omega) ⟨⟨by omega,by omega⟩,?_⟩
  refine H.B6 2 (i:=i % 5) (g (rI a i) (i % 5) ^^^ g a i) rfl (ad b2 (i % 5)) (by rw [OY]; omega) (zw _ _) fun w5 H=>⟨⟨by omega,by omega⟩,?_⟩
  exact aM w5 (by rw [aiB]; exact H)
 ·intro again w4 H
  refine ite_false (by simp) ?_
  refine dw 0 25 (fun i w'=>ak w [] w' [.av b0 (cP (qy a i)) dP,.av b1 (cP fX) dP,.av b2 (cP (rI a 25)) DD]) rfl (by omega) H ?_ ?_
  ·intro again i w5 _ hi H aM
   have h5:∀ j,j % 5<(rI a 25).length:=fun j=>by rw [OY]; omega
   have ht:i<(qy a i).length:=by rw [Dp]; omega
   refine ite_true (by simp; omega) ⟨by omega,⟨by omega,by omega⟩,?_⟩
   refine H.drew.rH 0 (i:=i) rfl (ad b0 i) ht ⟨⟨by omega,by omega⟩,by omega,⟨by omega,by omega⟩,?_⟩
   refine H.drew.rH 2 (i:=(i % 5+4) % 5) rfl (ad b2 _) (h5 _) ⟨⟨by omega,by omega⟩,by omega,⟨by omega,by omega⟩,?_⟩
   refine H.drew.rH 2 (i:=(i % 5+1) % 5) rfl (ad b2 _) (h5 _) ?_
   refine aB (UL _ 1 _) ?_
   rintro _ _ ⟨rfl,rfl⟩
   refine ey ⟨H.drew.kept (Mod.refl _ _) 2 rfl (ad b2 ((i % 5+4) % 5)) 1,H.drew.kept (Mod.refl _ _) 0 rfl (ad b0 i) 1,⟨by omega,by omega⟩,?_⟩
   refine H.drew.B6 0 (i:=i) (g (qy a i) i ^^^ (g (rI a 25) ((i % 5+4) % 5) ^^^ rotl (g (rI a 25) ((i % 5+1) % 5)) 1)) rfl (ad b0 i) ht (by rw [zw,zw]) fun w6 H=>⟨⟨by omega,by omega⟩,?_⟩
   exact aM w6 (by rw [ahV]; exact H)
  ·intro again w5 H
   refine ite_false (by simp) ?_
   refine H.lN 0 rfl (by rw [Dp,ha]) (H.tq 1 rfl (by rw [Dp,ha]) rfl fun w6 H=>H.lN 1 rfl (by rw [Dp,ha]) ⟨rfl,H.mod⟩)
def pl (x y:Nat):Nat:=x % 5+5 * (y % 5)
theorem BU (x y:Nat):pl x y<25:=by unfold pl; omega
def DU (s:List aI×Nat×Nat) (t:Nat):List aI×Nat×Nat:=(s.1.set (pl s.2.1 s.2.2) (rotl (g s.1 (pl s.2.1 s.2.2)) ((t+1) * (t+2) / 2 % 64)),s.2.2,(2 * s.2.1+3 * s.2.2) % 5)
def tG (a:List aI) (n:Nat):List aI×Nat×Nat:=up DU (a,1,0) n
theorem WC (a:List aI) (n:Nat):tG a (n+1)=DU (tG a n) n:=mq _ _ _
theorem X2 (a:List aI) (n:Nat):(tG a n).1.length=a.length∧(tG a n).2.1<5∧(tG a n).2.2<5:=by
 induction n with
 | zero=>exact ⟨rfl,(by show 1<5; omega),(by show 0<5; omega)⟩
 | succ n ih=>
  rw [WC]
  obtain ⟨h1,h2,h3⟩:=ih
  exact ⟨by simp only [DU,List.length_set,h1],h3,by simp only [DU]; omega⟩
def cN (a:List aI):List aI:=(tG a 24).1
theorem V9 (a:List aI):(cN a).length=a.length:=(X2 a 24).1
theorem afF (a:List aI) (ha:a.length=25) (w:World):Ok Pr NJ [.agg ⟨cP a⟩] w fun v w'=>v=.agg ⟨cP (cN a)⟩∧Mod [] w w':=by
 refine aej ?_
 unfold NQ
 rw [zE]
 refine (ak.start w).nw fun b0 w1 H _=>H.nw fun b1 w2 H _=>?_
 refine ajw 1 25 (fun t x y w'=>x=((tG a (t - 1)).2.1:Int)∧y=((tG a (t - 1)).2.2:Int)∧ak w [] w' [.av b0 (cP (tG a (t - 1)).1) dP,.av b1 (cP fX) dP]) rfl (by omega) ⟨rfl,rfl,H⟩ ?_ ?_
 ·rintro again t _ _ w3 h1 hi ⟨rfl,rfl,H⟩ aM
  obtain ⟨t,rfl⟩:∃ k,t=k+1:=⟨t - 1,by omega⟩
  rw [Nat.add_sub_cancel] at H ⊢
  obtain ⟨h2,h3,h4⟩:=X2 a t
  rcases hs:tG a t with ⟨b,x,y⟩
  rw [hs] at H h2 h3 h4
  dsimp only at H h2 h3 h4 ⊢
  have hp:=BU x y
  refine ite_true (by simp; omega) ?_
  refine aB (AS x y (by omega) (by omega) _) ?_
  rintro _ _ ⟨rfl,rfl⟩
  refine ey ⟨⟨by omega,by unfold pl at hp; omega⟩,?_⟩
  refine H.rH 0 (i:=pl x y) rfl (ad b0 (pl x y)) (by omega) ?_
  have hm:((t:Int)+1) * ((t:Int)+1+1)=(((t+1) * (t+2):Nat):Int):=by push_cast; rfl
  have tN:(t+1) * (t+2)≤25 * 26:=Nat.mul_le_mul (by omega) (by omega)
  have e2:(((t+1:Nat):Int)) * (((t+1:Nat):Int)+1)=(((t+1) * (t+2):Nat):Int):=by push_cast; rfl
  rw [e2]
  refine ⟨⟨by omega,by omega⟩,⟨by omega,by omega⟩,⟨by omega,by simp only [IntKind.max,IntKind.signed,IntKind.bits]; omega⟩,by omega,?_⟩
  refine aB (UL _ ((t+1) * (t+2) / 2 % 64) _) ?_
  rintro _ _ ⟨rfl,rfl⟩
  refine ey ⟨⟨by omega,by unfold pl at hp; omega⟩,?_⟩
  refine H.B6 0 (i:=pl x y) (rotl (g b (pl x y)) ((t+1) * (t+2) / 2 % 64)) rfl (ad b0 (pl x y)) (by omega) rfl fun w6 H=>?_
  refine ⟨⟨by omega,by omega⟩,⟨by omega,by omega⟩,⟨by omega,by omega⟩,by omega,⟨by omega,by omega⟩,?_⟩
  exact aM _ _ w6 (by rw [Nat.add_sub_cancel,WC,hs]; exact ⟨rfl,by simp only [DU]; push_cast; rfl,H⟩)
 ·rintro again _ _ w3 ⟨rfl,rfl,H⟩
  have hl:=V9 a
  refine ite_false (by simp) ?_
  exact H.lN 0 rfl (hl.trans ha) (H.tq 1 rfl (hl.trans ha) rfl fun w6 H=>H.lN 1 rfl (hl.trans ha) ⟨rfl,H.mod⟩)
def Y1 (a b:List aI) (x y:Nat):List aI:=b.set (pl x y) (g a (pl (x+3 * y) x))
def BV (a:List aI) (y:Nat) (b:List aI) (n:Nat):List aI:=up (fun b x=>Y1 a b x y) b n
def pi (a:List aI) (n:Nat):List aI:=up (fun b y=>BV a y b 5) fX n
theorem Vt (a:List aI) (y:Nat) (b:List aI) (n:Nat):(BV a y b n).length=b.length:=yP _ (fun _ _=>List.length_set) _ _
theorem Bn (a:List aI) (n:Nat):(pi a n).length=25:=yP _ (fun _ _=>Vt _ _ _ _) _ _
theorem agE (a:List aI) (ha:a.length=25) (w:World):Ok Pr OO [.agg ⟨cP a⟩] w fun v w'=>v=.agg ⟨cP (pi a 5)⟩∧Mod [] w w':=by
 refine aeX ?_
 unfold OV
 rw [zE]
 refine (ak.start w).nw fun b0 w1 H _=>H.nw fun b1 w2 H _=>H.nw fun b2 w3 H _=>?_
 refine dw 0 5 (fun y w'=>ak w [] w' [.av b0 (cP a) dP,.av b1 (cP fX) dP,.av b2 (cP (pi a y)) dP]) rfl (by omega) H ?_ ?_
 ·intro again y w4 _ hy H aM
  refine ite_true (by simp; omega) ?_
  refine dw 0 5 (fun x w'=>ak w [] w' [.av b0 (cP a) dP,.av b1 (cP fX) dP,.av b2 (cP (BV a y (pi a y) x)) dP]) rfl (by omega) H ?_ ?_
  ·intro again x w5 _ hx H aM
   have hp:=BU x y
   have hq:=BU (x+3 * y) x
   refine ite_true (by simp; omega) ?_
   refine aB (AS x y (by omega) (by omega) _) ?_
   rintro _ _ ⟨rfl,rfl⟩
   refine ey ⟨⟨by omega,by omega⟩,⟨by omega,by omega⟩,?_⟩
   refine aB (AS (x+3 * y) x (by omega) (by omega) _) ?_
   rintro _ _ ⟨rfl,rfl⟩
   refine ey ⟨⟨by omega,by unfold pl at hq; omega⟩,?_⟩
   refine H.rH 0 (i:=pl (x+3 * y) x) rfl (ad b0 _) (by omega) ⟨⟨by omega,by unfold pl at hp; omega⟩,?_⟩
   refine H.B6 2 (i:=pl x y) (g a (pl (x+3 * y) x)) rfl (ad b2 _) (by rw [Vt,Bn]; omega) rfl fun w6 H=>⟨⟨by omega,by omega⟩,?_⟩
   exact aM w6 (by rw [show BV a y (pi a y) (x+1)=Y1 a (BV a y (pi a y) x) x y from mq _ _ _]; exact H)
  ·intro again w5 H
   refine ite_false (by simp) ⟨⟨by omega,by omega⟩,?_⟩
   exact aM w5 (by rw [show pi a (y+1)=BV a y (pi a y) 5 from mq _ _ _]; exact H)
 ·intro again w4 H
  refine ite_false (by simp) ?_
  exact H.lN 2 rfl (Bn _ _) (H.tq 1 rfl (Bn _ _) rfl fun w6 H=>H.lN 1 rfl (Bn _ _) ⟨rfl,H.mod⟩)
def X3 (a b:List aI) (x y:Nat):List aI:=b.set (pl x y) (g b (pl x y) ^^^ (~~~ g a (pl (x+1) y) &&& g a (pl (x+2) y)))
def wX (a:List aI) (y:Nat) (b:List aI) (n:Nat):List aI:=up (fun b x=>X3 a b x y) b n
def pP (a:List aI) (n:Nat):List aI:=up (fun b y=>wX a y b 5) a n
theorem Vl (a:List aI) (y:Nat) (b:List aI) (n:Nat):(wX a y b n).length=b.length:=yP _ (fun _ _=>List.length_set) _ _
theorem PO (a:List aI) (n:Nat):(pP a n).length=a.length:=yP _ (fun _ _=>Vl _ _ _ _) _ _
theorem afG (a:List aI) (ha:a.length=25) (w:World):Ok Pr NI [.agg ⟨cP a⟩] w fun v w'=>v=.agg ⟨cP (pP a 5)⟩∧Mod [] w w':=by
 refine aei ?_
 unfold NP
 rw [zE]
 have hc:∀ n,(pP a n).length=25:=fun n=>(PO a n).trans ha
 refine (ak.start w).nw fun b0 w1 H _=>H.nw fun b1 w2 H _=>H.lN 0 rfl ha (H.nw fun b2 w3 H _=>H.tq 2 rfl ha rfl fun w4 H=>?_)
 refine dw 0 5 (fun y w'=>ak w [] w' [.av b0 (cP a) dP,.av b1 (cP fX) dP,.av b2 (cP (pP a y)) dP]) rfl (by omega) H ?_ ?_
 ·intro again y w4 _ hy H aM
  refine ite_true (by simp; omega) ?_
  refine dw 0 5 (fun x w'=>ak w [] w' [.av b0 (cP a) dP,.av b1 (cP fX) dP,.av b2 (cP (wX a y (pP a y) x)) dP]) rfl (by omega) H ?_ ?_
  ·intro again x w5 _ hx H aM
   have hp:=BU x y
   have hq:=BU (x+1) y
   have hr:=BU (x+2) y
   have hl:(wX a y (pP a y) x).length=25:=by rw [Vl,hc]
   refine ite_true (by simp; omega) ⟨⟨by omega,by omega⟩,⟨by omega,by omega⟩,?_⟩
   refine aB (AS x y (by omega) (by omega) _) ?_
   rintro _ _ ⟨rfl,rfl⟩
   have H:=H.drew
   refine ey ⟨⟨by omega,by unfold pl at hp; omega⟩,H.rH 2 (i:=pl x y) rfl (ad b2 _) (by omega) ?_⟩
   refine aB (AS (x+1) y (by omega) (by omega) _) ?_
   rintro _ _ ⟨rfl,rfl⟩
   refine ey ⟨H.kept (Mod.refl _ _) 2 rfl (ad b2 (pl x y)) 1,⟨by omega,by unfold pl at hq; omega⟩,H.rH 0 (i:=pl (x+1) y) rfl (ad b0 _) (by omega) ?_⟩
   refine aB (AS (x+2) y (by omega) (by omega) _) ?_
   rintro _ _ ⟨rfl,rfl⟩
   refine ey ⟨H.kept (Mod.refl _ _) 0 rfl (ad b0 (pl (x+1) y)) 1,H.kept (Mod.refl _ _) 2 rfl (ad b2 (pl x y)) 1,⟨by omega,by unfold pl at hr; omega⟩,H.rH 0 (i:=pl (x+2) y) rfl (ad b0 _) (by omega) ⟨⟨by omega,by unfold pl at hp; omega⟩,?_⟩⟩
   refine H.B6 2 (i:=pl x y) (g (wX a y (pP a y) x) (pl x y) ^^^ (~~~ g a (pl (x+1) y) &&& g a (pl (x+2) y))) rfl (ad b2 _) (by omega) (by rw [ana,R7,zw]) fun w6 H=>⟨⟨by omega,by omega⟩,?_⟩
   exact aM w6 (by rw [show wX a y (pP a y) (x+1)=X3 a (wX a y (pP a y) x) x y from mq _ _ _]; exact H)
  ·intro again w5 H
   refine ite_false (by simp) ⟨⟨by omega,by omega⟩,?_⟩
   exact aM w5 (by rw [show pP a (y+1)=wX a y (pP a y) 5 from mq _ _ _]; exact H)
 ·intro again w4 H
  refine ite_false (by simp) ?_
  exact H.lN 2 rfl (hc _) (H.tq 1 rfl (hc _) rfl fun w6 H=>H.lN 1 rfl (hc _) ⟨rfl,H.mod⟩)
end Go.Proofs.YtgjoehgomjgckaaGreatDoor
end
section
set_option linter.unusedVariables false
set_option linter.unusedSimpArgs false
namespace Go.Proofs.YtgjoehgomjgckaaGreatDoor
open Go Go.Ev
def words:List aI:=[0x0000000000000001,0x0000000000008082,0x800000000000808A,0x8000000080008000,0x000000000000808B,0x0000000080000001,
 0x8000000080008081,0x8000000000008009,0x000000000000008A,0x0000000000000088,0x0000000080008009,0x000000008000000A,
 0x000000008000808B,0x800000000000008B,0x8000000000008089,0x8000000000008003,0x8000000000008002,0x8000000000000080,
 0x000000000000800A,0x800000008000000A,0x8000000080008081,0x8000000000008080,0x0000000080000001,0x8000000080008008]
def iota (a:List aI) (r:Nat):List aI:=a.set 0 (g a 0 ^^^ g words r)
def round (a:List aI) (r:Nat):List aI:=iota (pP (pi (cN (qy a 25)) 5) 5) r
def perms (a:List aI) (n:Nat):List aI:=up round a n
@[irreducible] def perm (a:List aI):List aI:=perms a 24
theorem X4 (a:List aI):perms a 24=perm a:=by unfold perm; rfl
theorem NR (a:List aI) (r:Nat) (_h:a.length=25):(round a r).length=25:=by
 unfold round iota
 rw [List.length_set,PO,Bn]
theorem Wa (a:List aI) (n:Nat):perms a (n+1)=round (perms a n) n:=mq _ _ _
theorem Vu (a:List aI) (ha:a.length=25) (n:Nat):(perms a n).length=25:=by
 induction n with
 | zero=>exact ha
 | succ n ih=>rw [Wa,NR _ _ ih]
theorem yC (a:List aI) (ha:a.length=25):(perm a).length=25:=X4 a ▸ Vu a ha 24
theorem aeZ (a:List aI) (ha:a.length=25) (r:Nat) (hr:r<24) (w:World):Ok Pr MT [.agg ⟨cP a⟩,.int .i64 (r:Int)] w fun v w'=>v=.agg ⟨cP (iota a r)⟩∧Mod [] w w':=by
 refine adG ?_
 unfold MX
 rw [zE,anX]
 refine (ak.start w).nw fun b0 w1 H _=>H.nw fun b1 w2 H _=>ite_false (by simp; omega) (H.nw fun b2 w3 H _=>?_)
 refine H.tq 2 (l:=words) rfl rfl rfl fun w4 H=>?_
 refine ⟨⟨by omega,by omega⟩,H.drew.rH 0 (i:=0) rfl (ad b0 _) (by omega) ⟨⟨by omega,by omega⟩,H.drew.rH 2 (i:=r) rfl (ad b2 _) (by show r<24; omega) ⟨⟨by omega,by omega⟩,?_⟩⟩⟩
 refine H.drew.B6 0 (i:=0) (g a 0 ^^^ g words r) rfl (ad b0 _) (by omega) (zw _ _) fun w5 H=>?_
 have hl:(iota a r).length=25:=by simp [iota,ha]
 exact H.lN 0 rfl hl (H.tq 1 rfl hl rfl fun w6 H=>H.lN 1 rfl hl ⟨rfl,H.mod⟩)
theorem ael (a:List aI) (ha:a.length=25) (r:Nat) (hr:r<24) (w:World):Ok Pr Mr [.agg ⟨cP a⟩,.int .i64 (r:Int)] w fun v w'=>v=.agg ⟨cP (round a r)⟩∧Mod [] w w':=by
 refine adl ?_
 unfold Mt
 rw [zE]
 have h1:(qy a 25).length=25:=(Dp _ _).trans ha
 have h2:(cN (qy a 25)).length=25:=(V9 _).trans h1
 have h3:(pi (cN (qy a 25)) 5).length=25:=Bn _ _
 have h4:(pP (pi (cN (qy a 25)) 5) 5).length=25:=(PO _ _).trans h3
 have h5:=NR a r ha
 refine (ak.start w).nw fun b0 w1 H _=>H.nw fun b1 w2 H _=>H.lN 0 rfl ha ?_
 refine aB (aek a ha _) ?_
 rintro _ w3 ⟨rfl,m⟩
 have H:=H.frame m
 refine yI (aB (afF _ h1 _) ?_)
 rintro _ w4 ⟨rfl,m⟩
 have H:=H.frame m
 refine yI (aB (agE _ h2 _) ?_)
 rintro _ w5 ⟨rfl,m⟩
 have H:=H.frame m
 refine yI (aB (afG _ h3 _) ?_)
 rintro _ w6 ⟨rfl,m⟩
 have H:=H.frame m
 refine yI (aB (aeZ _ h4 r hr _) ?_)
 rintro _ w7 ⟨rfl,m⟩
 have H:=H.frame m
 exact yI (H.tq 1 (l:=round a r) rfl h5 rfl fun w6 H=>H.lN 1 rfl h5 ⟨rfl,H.mod⟩)
theorem adn (a:List aI) (ha:a.length=25) (w:World):Ok Pr Lz [.agg ⟨cP a⟩] w fun v w'=>v=.agg ⟨cP (perm a)⟩∧Mod [] w w':=by
 refine acC ?_
 unfold LB
 rw [zE]
 have hl:=Vu a ha
 refine (ak.start w).nw fun b0 w1 H _=>H.nw fun b1 w2 H _=>?_
 refine dw 0 24 (fun i w'=>ak w [] w' [.av b0 (cP (perms a i)) dP,.av b1 (cP fX) dP]) rfl (by omega) H ?_ ?_
 ·intro again i w3 _ hi H aM
  refine ite_true (by simp; omega) (H.lN 0 rfl (hl i) (aB (ael _ (hl i) i hi _) ?_))
  rintro _ w4 ⟨rfl,m⟩
  have H:=H.frame m
  refine yI (H.tq 0 rfl (NR _ _ (hl i)) (hl i) fun w5 H=>⟨⟨by omega,by omega⟩,?_⟩)
  exact aM w5 (by rw [Wa]; exact H)
 ·intro again w3 H
  have hp:=hl 24
  rw [X4] at H hp
  refine ite_false (by simp) ?_
  refine H.lN 0 rfl hp ?_
  refine H.tq 1 rfl hp rfl fun w6 H=>?_
  refine H.lN 1 rfl hp ?_
  refine ⟨rfl,H.mod⟩
end Go.Proofs.YtgjoehgomjgckaaGreatDoor
end
section
set_option linter.unusedVariables false
set_option linter.unusedSimpArgs false
namespace Go.Proofs.YtgjoehgomjgckaaGreatDoor
open Go Go.Ev
set_option maxRecDepth 100000
def alF (r:aI) (_i:Nat):aI:=if (r <<< 1) &&& 256=0 then r <<< 1 else (r <<< 1) ^^^ 256 ^^^ 1 ^^^ 16 ^^^ 32 ^^^ 64
def rcs (n:Nat):aI:=up alF 1 n
def rc (t:Nat):aI:=rcs (t % 255) &&& 1
end Go.Proofs.YtgjoehgomjgckaaGreatDoor
end
section
set_option linter.unusedVariables false
set_option linter.unusedSimpArgs false
namespace Go.Ev
open Go Go.RowKit
variable {P:Program}
theorem nc {a:Addr} {K:Addr→Prop} (h:K a):bw (some a) K:=h
theorem WD {t:TypeId} {v:Value} {K:Bool→Prop} (h:K false):fB (.iface t v) K:=h
theorem kK {y:Int} {A:Prop} (h:0≤y) (hA:A):gT y A:=by
 unfold gT; split
 ·exact hA
 ·exact ⟨h,hA⟩
theorem Y2 {y:Int} {A:Prop} (h:0<y) (hA:A):pos y A:=by
 unfold pos; split
 ·exact hA
 ·exact ⟨h,hA⟩
def aD.no:aD where
 fp:=[]
 ok _:=True
 kD _ _ _ _:=trivial
 lt _ _ b hb:=by cases hb
section
variable {w0 w:World} {S:List Nat} {L:List aD}
theorem ak.alG (H:ak w0 S w L) (k:Nat) {r:aD} (hk:L[k]? = some r):ak w0 S w (L.set k .no):=
 H.iM (T:=[]) k hk (Mod.refl _ _) (fun b hb=>by cases hb) trivial fun b hb=>by cases hb
theorem ak.fresh (H:ak w0 S w L) (k:Nat) {e:TypeId} {sz:Nat} {s:ah} {vs:List Value} (hk:L[k]? = some (.row e sz s vs)) (hS:∀ b∈s.row,b∉S):Own w w0.heap.size e sz s vs:=by
 obtain ⟨hl,h1 | ⟨g,cap,cur,h1,h2,h3⟩⟩:=H.qE k hk
 ·exact ⟨hl,.inl h1⟩
 ·refine ⟨hl,.inr ⟨g,cap,cur,h1,?_,h3⟩⟩
  have hg:g∈s.row:=by
   obtain ⟨a,n,c⟩:=s
   simp only [ah.v,Value.slice.injEq] at h1
   obtain ⟨rfl,-⟩:=h1
   simp [ah.row]
  exact (H.own k _ hk g hg).resolve_left (hS g hg)
theorem ak.fN (H:ak w0 [] w L) (k:Nat) {e:TypeId} {sz:Nat} {s:ah} {vs:List Value} (hk:L[k]? = some (.row e sz s vs)):Own w w0.heap.size e sz s vs:=H.fresh k hk (fun b _=>by simp)
theorem ak.cF {w':World} (H:ak w0 S w L) (m:Mod [] w w') {e:TypeId} {sz:Nat} {s:ah} {vs:List Value} (h:Own w' w.heap.size e sz s vs):ak w0 S w' (L ++ [.row e sz s vs]):=
 H.push m h.lo fun b hb=>(Own.D7 h b hb).1
theorem ak.Y3 {w':World} (H:ak w0 S w L) (m:Mod [] w w') {b:Nat} {cs:List Value} {t:TypeId} (h:bW w' b cs t) (hb:w.heap.size≤b):ak w0 S w' (L ++ [.av b cs t]):=
 H.push m h (by simp [aD.av,hb])
theorem ak.fI (H:ak w0 S w L) (k:Nat) {e:TypeId} {sz:Nat} {s:ah} {vs:List Value} (hk:L[k]? = some (.row e sz s vs)):Sl w s sz vs:=(H.qE k hk).sl
theorem bW.sl {b:Nat} {cs:List Value} {t:TypeId} (h:bW w b cs t) (sz n c:Nat) (hn:n * sz≤cs.length) (hc:n≤c):Sl w ⟨some ⟨b,0,none⟩,n,c⟩ sz (cs.take (n * sz)):=by
 refine ⟨by simp only [List.length_take]; omega,hc,fun _=>rfl,fun i v hv=>?_⟩
 show w.cell? (Addr.add ⟨b,0,none⟩ i)=some v
 rw [au,h.cell]
 rw [List.getElem?_take] at hv
 split at hv
 ·exact hv
 ·cases hv
theorem bW.own {b:Nat} {cs:List Value} {t:TypeId} (h:bW w b cs t) (sz n c:Nat) (hl:cs.length=c * sz) (hc:n≤c) (hm:c≤maxLen):Own w 0 t sz ⟨some ⟨b,0,none⟩,n,c⟩ (cs.take (n * sz)):=by
 have:=Nat.mul_le_mul_right sz hc
 exact ⟨by simp only [List.length_take]; omega,.inr ⟨b,c,⟨cs⟩,rfl,Nat.zero_le _,h,hc,hm,hl,rfl⟩⟩
theorem ak.rz (H:ak w0 S w L) (k:Nat) {b:Nat} {cs:List Value} {t:TypeId} (sz n c:Nat) (hk:L[k]? = some (.av b cs t)) (hl:cs.length=c * sz) (hc:n≤c) (hm:c≤maxLen) :
  ak w0 S w (L.set k (.row t sz ⟨some ⟨b,0,none⟩,n,c⟩ (cs.take (n * sz)))):=
 H.iM (T:=[]) k hk (Mod.refl _ _) (fun b hb=>by cases hb) ((H.av k hk).own sz n c hl hc hm) fun b hb=>.inl hb
theorem ak.B7 (H:ak w0 S w L) (k:Nat) {t ty e t1:TypeId} {sz bytes:Nat} {s:ah} {vs us:List Value} {K:ah→World→Prop} (cA:e6 P t e sz bytes) (hk:L[k]? = some (.row e sz s vs)) (hl:us.length=sz)
  (h1:∀ u∈us,ek u=true) (hb:(s.n+1) * bytes≤140737488355328) (hm:s.n+1≤9223372036854775807)
  (h:∀ s' w',ak w0 S w' (L.set k (.row e sz s' (vs ++ us)))→s'.n=s.n+1→K s' w'):Ev.nw t1 us w fun p w5=>cH P [t,t] ty [.slice s.a s.n s.c,.slice (some p) 1 1] w5 K:=by
 refine H.nw fun b w5 H5 _=>?_
 have bM:k<L.length:=(List.getElem?_eq_some_iff.1 hk).1
 have hk5:(L ++ [aD.av b us t1])[k]? = some (.row e sz s vs):=by rw [List.getElem?_append_left bM]; exact hk
 have hb5:=H5.av (cs:=us) (b:=b) (t:=t1) L.length (by simp)
 have dS:=hb5.sl sz 1 1 (by omega) (Nat.le_refl _)
 rw [Nat.one_mul,← hl,List.take_length] at dS
 subst hl
 refine H5.app (x:=⟨some ⟨b,0,none⟩,1,1⟩) k cA hk5 dS h1 hb hm fun s' w' H' hn=>h s' w' ?_ hn
 have:=H'.take L.length
 rw [List.set_append_left _ _ bM,List.take_append_of_le_length (by simp),List.take_of_length_le (by simp)] at this
 exact this
theorem ak.qz (H:ak w0 S w L) (k:Nat) {e:TypeId} {sz:Nat} {s:ah} {vs:List Value} {i:Nat} {a:Addr} {v:Value} {K:World→Prop} (hk:L[k]? = some (.row e sz s vs)) (ha:a=Addr.add (base s.a) i) (hi:i<vs.length) (h1:ek v=true)
  (h:∀ w',ak w0 S w' (L.set k (.row e sz s (vs.set i v)))→K w'):Ev.st a v w K:=by
 subst ha
 have ho:=H.qE k hk
 obtain ⟨sa,sn,sc⟩:=s
 obtain ⟨hl,hv | ⟨g,cap,cur,hv,h2,hg,Cz,vA,jm,BT⟩⟩:=ho
 ·rw [hv.2] at hl; omega
 ·simp only [ah.v,Value.slice.injEq] at hv
  obtain ⟨rfl,-,rfl⟩:=hv
  have anY:bW w g cur.toList e:=hg
  have hic:i<cur.toList.length:=by
   have:vs.length≤cur.toList.length:=by rw [← BT,List.length_take]; exact Nat.min_le_right _ _
   omega
  show Ev.st (Addr.add ⟨g,0,none⟩ i) v w K
  rw [au]
  refine RE anY hic h1 fun w' h3 h4 _=>h w' (H.iM k hk h4 (fun b hb=>.inl (by simpa [aD.row,ah.row] using hb)) ?_ fun b hb=>.inl hb)
  refine ⟨by simpa using hl,.inr ⟨g,sc,⟨cur.toList.set i v⟩,rfl,h2,h3,Cz,vA,by simpa using jm,?_⟩⟩
  show (cur.toList.set i v).take (sn * sz)=vs.set i v
  rw [← BT,List.take_set]
theorem ak.anZ (H:ak w0 S w L) (k:Nat) {b n:Nat} {a:Addr} {cs:List Value} {t:TypeId} {K:List Value→Prop} (hk:L[k]? = some (.av b cs t)) (ha:a=⟨b,0,none⟩) (hn:n≤cs.length) (h:K (cs.take n)):Ev.iy n a w K:=by
 subst ha; exact X0 (H.av k hk) hn h
theorem ak.an0 (H:ak w0 S w L) (k:Nat) {b n:Nat} {a:Addr} {l cs:List Value} {t:TypeId} {K:World→Prop} (hk:L[k]? = some (.av b cs t)) (ha:a=⟨b,0,none⟩) (hl:l.length=n) (hn:n≤cs.length) (h1:∀ v∈l,ek v=true)
  (h:∀ w',ak w0 S w' (L.set k (.av b (l ++ cs.drop n) t))→K w'):Ev.kQ n a l w K:=by
 subst ha
 exact XZ (H.av k hk) hl hn h1 fun w' h2 h3 _=>h w' (H.iM k hk h3 (fun c hc=>.inl hc) h2 (fun c hc=>.inl hc))
theorem ak.Tn (H:ak w0 S w L) {t e:TypeId} {sz bytes:Nat} {l c:Nat} {x y:Int} {K:ah→World→Prop} (cA:e6 P t e sz bytes) (hx:x=(l:Int)) (hy:y=(c:Int)) (hlc:l≤c) (hc:c≤9223372036854775807) (hb:bytes * c≤281474976710656)
  (h:∀ b w',ak w0 S w' (L ++ [.row e sz ⟨some ⟨b,0,none⟩,l,c⟩ ((jW c (zc P e)).take (l * sz))])→w0.heap.size≤b→K ⟨some ⟨b,0,none⟩,l,c⟩ w'):j4 P e x y w K:=by
 subst hx hy
 obtain ⟨i,z,hi,hz,jN,oM,jO⟩:=cA.info
 have RF:bytesOf P e=bytes:=by unfold bytesOf; rw [hi]; exact oM
 have pQ:zc P e=z.cells.toList:=by unfold zc; rw [hi]; simp only [hz]
 have pT:(zc P e).length=sz:=by rw [pQ]; simpa using jO
 have iR:(jW c (zc P e)).length=c * sz:=by
  unfold jW
  rw [List.length_flatten,List.map_replicate,List.sum_replicate_nat,pT]
 refine ⟨⟨by omega,by omega,by omega,?_⟩,?_⟩
 ·rw [RF]
  have h1:((bytes:Int) * (c:Int))=((bytes * c:Nat):Int):=by rw [Int.natCast_mul]
  have h2:(2 ^ 48:Int)=281474976710656:=by decide
  rw [h1,h2]
  omega
 ·simp only [Int.toNat_natCast]
  have hm:Mod [] w (w.alloc (.cells ⟨jW c (zc P e)⟩ e)):=Mod.alloc _ _ _
  refine h w.heap.size _ (H.push hm ?_ (by simp [aD.row,ah.row])) H.mod.size
  exact (bW.new w (jW c (zc P e)) e).own sz l c iR hlc (by simp only [maxLen]; omega)
end
theorem Bytes.mod {w w':World} {s:ah} {l:List B8} (h:Bytes w s l) {S:List Nat} (m:Mod S w w') (ho:off S s):Bytes w' s l:=Sl.mod h m ho
theorem Bytes.aE {w w':World} {s:ah} {l:List B8} (h:Bytes w s l) (m:Mod [] w w'):Bytes w' s l:=Sl.aE h m
structure eY (w:World) (S:List Nat) (s:ah) (ls:List (List B8)):Prop where
 ex:∃ ss:List ah,Sl w s 1 (ss.map ah.v)∧off S s∧ss.length=ls.length∧∀ (i:Nat) (x:ah) (l:List B8),ss[i]? = some x→ls[i]? = some l→Bytes w x l∧off S x
theorem eY.mod {w w':World} {S:List Nat} {s:ah} {ls:List (List B8)} (h:eY w S s ls) (m:Mod S w w'):eY w' S s ls:=by
 obtain ⟨ss,h1,h2,h3,h4⟩:=h.ex
 exact ⟨ss,h1.mod m h2,h2,h3,fun i x l hx hl=>⟨(h4 i x l hx hl).1.mod m (h4 i x l hx hl).2,(h4 i x l hx hl).2⟩⟩
theorem eY.new {w:World} {S T:List Nat} {s:ah} {ls:List (List B8)} (h:eY w S s ls) (hT:∀ b∈T,b∈S∨w.heap.size≤b):eY w T s ls:=by
 obtain ⟨ss,h1,h2,h3,h4⟩:=h.ex
 have key:∀ {x:ah} {vs:List Value},Sl w x 1 vs→off S x→off T x:=fun {x vs} k1 k2 h0 a ha hb=>by
  rcases hT _ hb with h | h
  ·exact k2 h0 a ha h
  ·have:=k1.block (by omega) h0 ha; omega
 exact ⟨ss,h1,key h1 h2,h3,fun i x l hx hl=>⟨(h4 i x l hx hl).1,key (h4 i x l hx hl).1 (h4 i x l hx hl).2⟩⟩
theorem eY.len {w:World} {S:List Nat} {s:ah} {ls:List (List B8)} (h:eY w S s ls):s.n=ls.length:=by
 obtain ⟨ss,h1,h2,h3,h4⟩:=h.ex
 have:=h1.len
 simp only [List.length_map] at this
 omega
theorem eY.ld {w:World} {S:List Nat} {s:ah} {ls:List (List B8)} (h:eY w S s ls) {i:Nat} (hi:i<ls.length) {K:ah→Prop} (hk:∀ x,Bytes w x (ls.getD i [])→off S x→K x) :
  aQ s.a (i:Int) s.n (ax (Addr.add (base s.a) (Int.toNat (i:Int) * 1)) w K):=by
 have hn:=h.len
 obtain ⟨ss,h1,h2,h3,h4⟩:=h.ex
 refine ⟨⟨h1.pre (by omega),by omega,by omega⟩,ss[i]'(by omega),?_,?_⟩
 ·rw [Int.toNat_natCast,Nat.mul_one]
  exact h1.cell i _ (by simp [show i<ss.length by omega,ah.v])
 ·have:=h4 i (ss[i]'(by omega)) (ls.getD i []) (by simp [show i<ss.length by omega]) (by simp [hi])
  exact hk _ this.1 this.2
theorem eY.JF {w:World} {S:List Nat} {b:Nat} {x:ah} {l:List B8} {t:TypeId} (h:bW w b [x.v] t) (hb:b∉S) (hx:Bytes w x l) (ho:off S x):eY w S ⟨some ⟨b,0,none⟩,1,1⟩ [l]:=
 ⟨[x],by simpa using h.sl 1 1 1 (by simp) (by omega),fun _ a ha=>by simp only [Option.some.injEq] at ha; subst ha; exact hb,rfl,fun i y m hy hm=>by
  cases i with
  | zero=>
   simp only [List.getElem?_cons_zero,Option.some.injEq] at hy hm
   subst hy hm; exact ⟨hx,ho⟩
  | succ i=>simp at hy⟩
theorem Bytes.nil (w:World):Bytes w ⟨none,0,0⟩ []:=Sl.nil w 1
theorem Own.bytes {w:World} {lo:Nat} {e:TypeId} {s:ah} {l:List B8} (h:Own w lo e 1 s (bp l)):Bytes w s l:=h.sl
def IV (x s:ah):Prop:=x.n≤s.n∧∀ a,x.a=some a→∃ a0,s.a=some a0∧a.block=a0.block
theorem Sl.part {w:World} {s:ah} {sz:Nat} {vs:List Value} (h:Sl w s sz vs) (jN:0<sz) (l k:Nat) (hlk:l≤k) (hk:k≤s.n):Sl w ⟨sub s.a l s.c sz,k - l,s.c - l⟩ sz ((vs.drop (l * sz)).take ((k - l) * sz)):=by
 have hl:=h.len
 have hc:=h.cap
 have e1:k * sz≤s.n * sz:=Nat.mul_le_mul_right _ hk
 have e2:(k - l) * sz=k * sz - l * sz:=Nat.sub_mul _ _ _
 have e3:l * sz≤k * sz:=Nat.mul_le_mul_right _ hlk
 refine ⟨by simp only [List.length_take,List.length_drop]; omega,by show k - l≤s.c - l; omega,fun h0=>?_,fun i v hv=>?_⟩
 ·have h0:0<k - l:=h0
  have:=h.pre (by omega)
  unfold sub; split
  ·exact this
  ·simpa using this
 ·rw [List.getElem?_take] at hv
  split at hv
  ·rename_i hi
   rw [List.getElem?_drop] at hv
   have h1:=h.cell _ v hv
   have bM:l<k:=by
    rcases Nat.lt_or_ge l k with h | h
    ·exact h
    ·rw [show k - l=0 by omega,Nat.zero_mul] at hi; omega
   obtain ⟨a,ha⟩:=Option.isSome_iff_exists.1 (h.pre (by omega))
   have iJ:¬ s.c=l:=by omega
   have hb:base s.a=a:=by rw [ha]; rfl
   unfold sub
   rw [if_neg iJ,ha]
   show w.cell? ((a.add (l * sz)).add i)=some v
   rw [add_add,← hb]
   exact h1
  ·cases hv
theorem IV.part (s:ah) (l m sz n c:Nat) (hn:n≤s.n):IV ⟨sub s.a l m sz,n,c⟩ s:=by
 refine ⟨hn,fun a ha=>?_⟩
 unfold sub at ha
 simp only at ha
 split at ha
 ·exact ⟨a,ha,rfl⟩
 ·cases hs:s.a with
  | none=>rw [hs] at ha; cases ha
  | some a0=>
   rw [hs] at ha
   simp only [Option.map_some,Option.some.injEq] at ha
   subst ha
   exact ⟨a0,rfl,jH _ _⟩
theorem Sl.l {w:World} {s:ah} {sz:Nat} {vs:List Value} {K:ah→Prop} (h:Sl w s sz vs) (jN:0<sz) (l:Nat) {x:Int} (hx:x=(l:Int)) (hl:l≤s.n)
  (hK:∀ z:ah,z.n=s.n - l→Sl w z sz (vs.drop (l * sz))→IV z s→K z):jL sz s x K:=by
 subst hx
 refine ⟨⟨by omega,by omega⟩,?_⟩
 simp only [Int.toNat_natCast]
 have:=h.part jN l s.n hl (Nat.le_refl _)
 rw [List.take_of_length_le (by rw [List.length_drop,h.len,Nat.sub_mul]; exact Nat.le_refl _)] at this
 exact hK _ rfl this (IV.part _ _ _ _ _ _ (by omega))
theorem Ip (l:List B8) (n:Nat):(bp l).take n=bp (l.take n):=by simp [bp,List.map_take]
theorem Xh (l:List B8) (n:Nat):(bp l).drop n=bp (l.drop n):=by simp [bp,List.map_drop]
theorem akN (l:List B8) (i:Nat) (b:B8):(bp l).set i (.int .u8 (b.toNat:Int))=bp (l.set i b):=by simp [bp,u8,List.map_set]
theorem ak.bytes {w0 w:World} {S:List Nat} {L:List aD} (H:ak w0 S w L) (k:Nat) {e:TypeId} {s:ah} {bs:List B8} (hk:L[k]? = some (.row e 1 s (bp bs))):Bytes w s bs:=H.fI k hk
theorem Bytes.some {w:World} {s:ah} {bs:List B8} (h:Bytes w s bs) (h0:0<s.n):s.a.isSome=true:=h.pre h0
theorem ak.uV {P:Program} {w0 w:World} {S:List Nat} {L:List aD} (H:ak w0 S w L) (k:Nat) {t ty e:TypeId} {s x:ah} {vs us:List B8} {K:ah→World→Prop} (cA:e6 P t e 1 1) (hk:L[k]? = some (.row e 1 s (bp vs))) (hx:Bytes w x us)
  (hm:s.n+x.n≤100000000000000) (h:∀ s' w',ak w0 S w' (L.set k (.row e 1 s' (bp (vs ++ us))))→s'.n=s.n+x.n→K s' w'):cH P [t,t] ty [.slice s.a s.n s.c,.slice x.a x.n x.c] w K:=
 H.app k cA hk hx (W8 us) (by omega) (by omega) fun s' w' H' hn=>h s' w' (by rw [PN]; exact H') hn
theorem ak.Ro {P:Program} {w0 w:World} {S:List Nat} {L:List aD} (H:ak w0 S w L) (k:Nat) {t ty e t1:TypeId} {s:ah} {vs:List B8} {n:Int} {K:ah→World→Prop} (x:B8) (cA:e6 P t e 1 1) (hk:L[k]? = some (.row e 1 s (bp vs))) (hn:n=(x.toNat:Int))
  (hm:s.n≤100000000000000) (h:∀ s' w',ak w0 S w' (L.set k (.row e 1 s' (bp (vs ++ [x]))))→s'.n=s.n+1→K s' w'):Ev.nw t1 [.int .u8 n] w fun p w5=>cH P [t,t] ty [.slice s.a s.n s.c,.slice (some p) 1 1] w5 K:=by
 subst hn
 exact H.B7 k cA hk rfl (by simp [ek]) (by omega) (by omega) fun s' w' H' hn=>h s' w' (by rw [PN]; exact H') hn
theorem ak.mkB {P:Program} {w0 w:World} {S:List Nat} {L:List aD} (H:ak w0 S w L) {t e:TypeId} {sz bytes:Nat} {l c:Nat} {x y:Int} {K:ah→World→Prop} (cA:e6 P t e sz bytes) (hx:x=(l:Int)) (hy:y=(c:Int)) (hlc:l≤c) (hc:c≤9223372036854775807) (hb:bytes * c≤281474976710656)
  (h:∀ b w',ak w0 S w' (L ++ [.av b (jW c (zc P e)) e])→w0.heap.size≤b→(jW c (zc P e)).length=c * sz→K ⟨some ⟨b,0,none⟩,l,c⟩ w'):j4 P e x y w K:=by
 subst hx hy
 obtain ⟨i,z,hi,hz,jN,oM,jO⟩:=cA.info
 have RF:bytesOf P e=bytes:=by unfold bytesOf; rw [hi]; exact oM
 have pQ:zc P e=z.cells.toList:=by unfold zc; rw [hi]; simp only [hz]
 have pT:(zc P e).length=sz:=by rw [pQ]; simpa using jO
 have iR:(jW c (zc P e)).length=c * sz:=by
  unfold jW
  rw [List.length_flatten,List.map_replicate,List.sum_replicate_nat,pT]
 refine ⟨⟨by omega,by omega,by omega,?_⟩,?_⟩
 ·rw [RF]
  have h1:((bytes:Int) * (c:Int))=((bytes * c:Nat):Int):=by rw [Int.natCast_mul]
  have h2:(2 ^ 48:Int)=281474976710656:=by decide
  rw [h1,h2]
  omega
 ·simp only [Int.toNat_natCast]
  exact h w.heap.size _ (H.push (Mod.alloc _ _ _) (bW.new w (jW c (zc P e)) e) (by simp [aD.av])) H.mod.size iR
theorem ak.an1 {P:Program} {w0 w:World} {S:List Nat} {L:List aD} (H:ak w0 S w L) (k:Nat) {t ty e:TypeId} {sz bytes b n c:Nat} {x:ah} {cs us:List Value} {K:ah→World→Prop} (cA:e6 P t e sz bytes) (hk:L[k]? = some (.av b cs e))
  (jm:cs.length=c * sz) (oD:n+x.n≤c) (hx:Sl w x sz us) (h1:∀ u∈us,ek u=true)
  (h:∀ w',ak w0 S w' (L.set k (.av b (cs.take (n * sz) ++ us ++ cs.drop (n * sz+us.length)) e))→K ⟨some ⟨b,0,none⟩,n+x.n,c⟩ w'):cH P [t,t] ty [.slice (some ⟨b,0,none⟩) n c,.slice x.a x.n x.c] w K:=by
 obtain ⟨i,z,hi,hz,jN,oM,jO⟩:=cA.info
 have Cy:∀ u∈us,u.oneCell'=true:=fun u hu=>by
  have:=h1 u hu
  cases u <;> first | rfl | cases this
 have mD:=hx.len
 have hmul:n * sz+x.n * sz≤c * sz:=by rw [← Nat.add_mul]; exact Nat.mul_le_mul_right _ oD
 have hb:=H.av k hk
 obtain ⟨xa,xn,xc⟩:=x
 cases xa with
 | none=>
  have h0:xn=0:=by
   rcases Nat.eq_zero_or_pos xn with e | e
   ·exact e
   ·cases hx.pre e
  subst h0
  have hu:us=[]:=List.eq_nil_of_length_eq_zero (by simpa using mD)
  subst hu
  have hn:n≤c:=by simpa using oD
  have hr:(Builtin.append_ #[t,t] ty #[.slice (some ⟨b,0,none⟩) n c,.slice none 0 xc]).run P w=.ok (.slice (some ⟨b,0,none⟩) n c) w:=by
   simp [Builtin.append_,run_underlying cA.rW,Go.sizeOf,Go.typeInfo,hi,Builtin.lenOf,Builtin.firstCells,hn,storeCells]
  refine ⟨_,w,hr,⟨some ⟨b,0,none⟩,n,c⟩,rfl,h w ?_⟩
  have:=H.iM (T:=[]) (r':=.av b cs e) k hk (Mod.refl _ _) (fun b hb=>by cases hb) hb (fun c hc=>.inl hc)
  simpa using this
 | some xa=>
  subst jN
  have hr:=run_append_room (P:=P) w t ty e i cA.rW hi b n c ⟨cs⟩ hb xa xn xc us mD hx.cell Cy oD (by show n * i.size+us.length≤cs.length; rw [jm,mD]; exact hmul)
  refine ⟨_,_,hr,⟨some ⟨b,0,none⟩,n+xn,c⟩,rfl,h _ ?_⟩
  exact H.iM (T:=[b]) k hk ⟨rfl,rfl,rfl,by simp,fun j _ hj=>setRow_other w b j _ (fun e=>hj (by simp [e]))⟩ (fun c hc=>.inl hc) (setRow_heap w b _ _ e _ hb) (fun c hc=>.inl hc)
end Go.Ev
end
section
set_option linter.unusedVariables false
set_option linter.unusedSimpArgs false
namespace Go.Proofs.YtgjoehgomjgckaaGreatDoor
open Go Go.Ev
theorem iG:e6 Pr bJ bh 1 1:=e6.of (by kernel_rfl)
theorem Y4:IntKind.max .i64=9223372036854775807:=by decide
def R8 (az at_:Nat) (aR:B8) (dy:Bool):List Value:=[.int .i64 (az:Int),.int .u8 (aR.toNat:Int),.int .i64 (at_:Int),.bool dy]
def gW (ws:List aI) (az at_:Nat) (aR:B8) (dy:Bool):List Value:=cP ws ++ R8 az at_ aR dy
def flip (ws:List aI) (i:Nat) (b:B8):List aI:=ws.set (i / 8) (g ws (i / 8) ^^^ (b.setWidth 64 <<< (8 * (i % 8))))
theorem wA (ws:List aI) (i:Nat) (b:B8):(flip ws i b).length=ws.length:=by simp [flip]
theorem To (b i:Nat):Addr.add (Addr.add ⟨b,0,none⟩ 0) (i * 1)=⟨b,i,none⟩:=by rw [s8,ad]
theorem B9 (b:Nat):Addr.add ⟨b,0,none⟩ 0=⟨b,0,none⟩:=s8 _ _ _
section
variable {ws:List aI} {az at_:Nat} {aR:B8} {dy:Bool}
theorem Xj (fu:ws.length=25) (i:Nat) (hi:i<25):(gW ws az at_ aR dy)[i]? = some (.int .u64 ((g ws i).toNat:Int)):=by
 unfold gW
 rw [List.getElem?_append_left (by simp; omega)]
 exact QX ws i (by omega)
theorem QY (fu:ws.length=25):(gW ws az at_ aR dy)[25]? = some (.int .i64 (az:Int)):=by
 unfold gW; rw [List.getElem?_append_right (by simp; omega),yB,fu]; rfl
theorem akO (fu:ws.length=25):(gW ws az at_ aR dy)[26]? = some (.int .u8 (aR.toNat:Int)):=by
 unfold gW; rw [List.getElem?_append_right (by simp; omega),yB,fu]; rfl
theorem zl (fu:ws.length=25):(gW ws az at_ aR dy)[27]? = some (.int .i64 (at_:Int)):=by
 unfold gW; rw [List.getElem?_append_right (by simp; omega),yB,fu]; rfl
theorem WE (fu:ws.length=25):(gW ws az at_ aR dy)[28]? = some (.bool dy):=by
 unfold gW; rw [List.getElem?_append_right (by simp; omega),yB,fu]; rfl
theorem wF (fu:ws.length=25):(gW ws az at_ aR dy).length=29:=by simp [gW,R8,fu]
theorem HK (fu:ws.length=25) (n:Nat):(gW ws az at_ aR dy).set 27 (.int .i64 (n:Int))=gW ws az n aR dy:=by
 unfold gW; rw [List.set_append_right _ _ (by simp; omega),yB,fu]; rfl
theorem afH (fu:ws.length=25) (b:Bool):(gW ws az at_ aR dy).set 28 (.bool b)=gW ws az at_ aR b:=by
 unfold gW; rw [List.set_append_right _ _ (by simp; omega),yB,fu]; rfl
theorem agF (fu:ws.length=25) (i:Nat) (x:aI) (hi:i<25):(gW ws az at_ aR dy).set i (.int .u64 (x.toNat:Int))=gW (ws.set i x) az at_ aR dy:=by
 unfold gW; rw [List.set_append_left _ _ (by simp; omega),← W9]; rfl
theorem ajx (fu:ws.length=25):(gW ws az at_ aR dy).take 25=cP ws:=by
 unfold gW; rw [List.take_append_of_le_length (by simp; omega),List.take_of_length_le (by simp; omega)]
theorem ajy (fu:ws.length=25):(gW ws az at_ aR dy).drop 25=R8 az at_ aR dy:=by
 unfold gW; rw [List.drop_append_of_le_length (by simp; omega),List.drop_of_length_le (by simp; omega),List.nil_append]
end
abbrev uJ (w:World) (b:Nat) (ws:List aI) (az at_:Nat) (aR:B8) (dy:Bool):Prop:=bW w b (gW ws az at_ aR dy) LU
abbrev jB (b:Nat) (ws:List aI) (az at_:Nat) (aR:B8) (dy:Bool):aD:=.av b (gW ws az at_ aR dy) LU
def R9 (az:Int) (aR:B8):Bool:=decide (8≤az) && decide (az≤192) && decide (az % 8=0) && decide (1≤(aR.toNat:Int)) && decide ((aR.toNat:Int)≤127)
theorem anb (x:Int):decide (Int.tmod x 8=0)=decide (x % 8=0):=by
 have:Int.tmod x 8=0↔x % 8=0:=by rw [← Int.dvd_iff_tmod_eq_zero,Int.dvd_iff_emod_eq_zero]
 simp only [this]
theorem Vm (az:Nat) (aR:B8) (h:R9 az aR=true) (w:World):Ok Pr G9 [.int .i64 (az:Int),.int .u8 (aR.toNat:Int)] w fun v w'=>∃ b,v=.pointer (some ⟨b,0,none⟩)∧uJ w' b fX az 0 aR false∧w.heap.size≤b∧Mod [] w w':=by
 refine aeg ?_
 unfold NN
 rw [anb]
 refine ite_false ?_ (qv fun b w' hb h1 h2 _=>⟨b,rfl,h1,by omega,h2⟩)
 unfold R9 at h
 simp only [Bool.and_eq_true,decide_eq_true_eq] at h
 simp only [Bool.or_eq_false_iff,decide_eq_false_iff_not,Bool.not_eq_false',decide_eq_true_eq]
 omega
theorem Mv {ws:List aI} {az at_:Nat} {aR:B8} {dy:Bool} (fu:ws.length=25) (b i:Nat) (hi:i<200) (x:B8) (w:World) (h:uJ w b ws az at_ aR dy) :
  Ok Pr C0 [.pointer (some ⟨b,0,none⟩),.int .i64 (i:Int),.int .u8 (x.toNat:Int)] w fun v w'=>v=.tuple ⟨[]⟩∧uJ w' b (flip ws i x) az at_ aR dy∧Mod [b] w w':=by
 refine ab5 ?_
 unfold KN
 have H:=ak.D9 (r:=jB b ws az at_ aR dy) h
 refine ⟨⟨by omega,by rw [Y4]; omega⟩,⟨by omega,by omega⟩,H.drew.an 0 (i:=i / 8) rfl (To b (i / 8)) (Xj fu _ (by omega)) ⟨by omega,⟨by omega,by omega⟩,?_⟩⟩
 refine ⟨⟨by omega,by omega⟩,H.drew.st 0 (i:=i / 8) rfl (To b (i / 8)) (by rw [wF fu]; omega) rfl fun w1 H=>⟨rfl,?_,H.mod⟩⟩
 have H:=H.av 0 rfl
 rw [anW,show ((8:Int) * ((i:Int) % 8))=((8 * (i % 8):Nat):Int) by omega,I4,zw,agF fu _ _ (by omega)] at H
 exact H
def eD (az:Nat) (s:List aI×Nat):List aI×Nat:=if s.2=az then (perm s.1,0) else s
theorem UU {ws:List aI} {az at_:Nat} {aR:B8} {dy:Bool} (fu:ws.length=25) (b:Nat) (w:World) (h:uJ w b ws az at_ aR dy) :
  Ok Pr GF [.pointer (some ⟨b,0,none⟩)] w fun v w'=>v=.tuple ⟨[]⟩∧uJ w' b (eD az (ws,at_)).1 az (eD az (ws,at_)).2 aR dy∧Mod [b] w w':=by
 refine ab6 ?_
 unfold KO
 have H:=(ak.D9 (r:=jB b ws az at_ aR dy) h).drew
 refine H.an 0 (i:=27) rfl (au b 27) (zl fu) (H.an 0 (i:=25) rfl (au b 25) (QY fu) (bU (fun h1=>?_) (fun h1=>?_)))
 ·have h2:at_=az:=by have:=of_decide_eq_true h1; omega
  rw [eD,if_pos h2]
  refine H.anZ 0 rfl (B9 b) (by rw [wF fu]; omega) ?_
  rw [ajx fu]
  refine aB (adn ws fu _) ?_
  rintro _ w1 ⟨rfl,m⟩
  have H:=H.frame m
  refine yI (nc (H.an0 0 rfl (B9 b) (by rw [yB,yC ws fu]) (by rw [wF fu]; omega) (WA _) fun w2 H=>?_))
  rw [ajy fu] at H
  refine ak.st (L:=[jB b (perm ws) az at_ aR dy]) H 0 (i:=27) rfl (au b 27) (by rw [wF (yC ws fu)]; omega) rfl fun w3 H=>⟨rfl,?_,H.mod⟩
  have H:=H.av 0 rfl
  rw [show (.int .i64 (0:Int):Value)=.int .i64 ((0:Nat):Int) from rfl,HK (yC ws fu)] at H
  exact H
 ·have h2:¬ at_=az:=by have:=of_decide_eq_false h1; omega
  rw [eD,if_neg h2]
  exact ⟨rfl,H.av 0 rfl,H.mod⟩
end Go.Proofs.YtgjoehgomjgckaaGreatDoor
end
section
set_option linter.unusedVariables false
set_option linter.unusedSimpArgs false
namespace Go.Proofs.YtgjoehgomjgckaaGreatDoor
open Go Go.Ev
def qO (az:Nat) (s:List aI×Nat) (x:B8):List aI×Nat:=eD az (flip s.1 s.2 x,s.2+1)
def eu (az:Nat) (s:List aI×Nat) (l:List B8):List aI×Nat:=l.foldl (qO az) s
theorem wm (az:Nat) (s:List aI×Nat) (a b:List B8):eu az s (a ++ b)=eu az (eu az s a) b:=List.foldl_append
def Fits (az:Nat) (s:List aI×Nat):Prop:=s.1.length=25∧s.2<az
theorem Fits.qO {az:Nat} {s:List aI×Nat} (h:Fits az s) (x:B8):Fits az (qO az s x):=by
 unfold YtgjoehgomjgckaaGreatDoor.qO eD
 split
 ·exact ⟨yC _ ((wA _ _ _).trans h.1),Nat.lt_of_le_of_lt (Nat.zero_le _) h.2⟩
 ·rename_i hn
  have:=h.2
  exact ⟨(wA _ _ _).trans h.1,by dsimp only at hn ⊢; omega⟩
theorem Fits.eu {az:Nat}:∀ (l:List B8) {s:List aI×Nat},Fits az s→Fits az (eu az s l)
 | [],_,h=>h
 | x :: r,_,h=>Fits.eu r (h.qO x)
theorem kT {A:Type} (l:List A) (i:Nat) (h:i<l.length) (d:A):l.take (i+1)=l.take i ++ [l.getD i d]:=by
 rw [List.take_succ_eq_append_getElem h]
 simp [h]
theorem UM {s:List aI×Nat} {az:Nat} {aR:B8} (hr:az≤192) (hs:Fits az s) (b:Nat) (parts:ah) (ls:List (List B8)) (w:World) (h:uJ w b s.1 az s.2 aR false) (hp:eY w [b] parts ls)
  (Eh:parts.n<1000000∧∀ l∈ls,l.length<1000000000) :
  Ok Pr CY [.pointer (some ⟨b,0,none⟩),.slice parts.a parts.n parts.c] w fun v w'=>v=.nilIface∧uJ w' b (eu az s ls.flatten).1 az (eu az s ls.flatten).2 aR false∧Mod [b] w w':=by
 refine ab3 ?_
 unfold KM
 have H:=ak.D9 (r:=jB b s.1 az s.2 aR false) h
 refine ite_false rfl (nc (H.l5 0 (i:=28) rfl (au b 28) (WE hs.1) (ite_false rfl ?_)))
 have hn:=hp.len
 let st (j:Nat):=eu az s (ls.take j).flatten
 refine dw 0 ls.length (fun j w'=>ak w [b] w' [jB b (st j).1 az (st j).2 aR false]) rfl (by omega) H ?_ ?_
 ·intro again j w3 _ hj H aM
  refine ite_true (by rw [hn]; simpa using hj) ?_
  refine (hp.mod H.mod).ld hj fun x hx hxo=>?_
  have bT:=hx.len
  have jM:(ls.getD j []).length<1000000000:=Eh.2 _ (by simp [hj])
  have nO:Fits az (st j):=hs.eu _
  have H3:=ak.D9 (r:=jB b (st j).1 az (st j).2 aR false) (H.av 0 rfl)
  refine dw 0 (ls.getD j []).length (fun i w'=>ak w3 [b] w' [jB b (eu az (st j) ((ls.getD j []).take i)).1 az (eu az (st j) ((ls.getD j []).take i)).2 aR false]) rfl (by omega) H3 ?_ ?_
  ·intro again i w4 _ hi H4 aM
   have hf:Fits az (eu az (st j) ((ls.getD j []).take i)):=nO.eu _
   have hx4:Bytes w4 x (ls.getD j []):=hx.mod H4.mod hxo
   have Jq:=H4.av 0 rfl
   have CB:=hf.2
   refine ite_true (by rw [← bT]; simpa using hi) (hx4.ld hi (nc (H4.an 0 (i:=27) rfl (au b 27) (zl hf.1) ?_)))
   refine aB (Mv hf.1 b _ (by omega) _ _ Jq) ?_
   rintro _ w5 ⟨rfl,h5,m5⟩
   have H5:=H4.iM (r':=jB b _ az _ aR false) 0 rfl m5 (fun c hc=>.inl hc) h5 (fun c hc=>.inl hc)
   have JG:(flip (eu az (st j) ((ls.getD j []).take i)).1 (eu az (st j) ((ls.getD j []).take i)).2 ((ls.getD j []).getD i 0)).length=25:=(wA _ _ _).trans hf.1
   refine nc (H5.an 0 (i:=27) rfl (au b 27) (zl JG) ⟨⟨by omega,by omega⟩,nc (H5.st 0 (i:=27) rfl (au b 27) (by rw [wF JG]; omega) rfl fun w6 H6=>?_)⟩)
   have h6:=H6.av 0 rfl
   rw [show ((eu az (st j) ((ls.getD j []).take i)).2:Int)+1=(((eu az (st j) ((ls.getD j []).take i)).2+1:Nat):Int) by omega,HK JG] at h6
   refine aB (UU JG b _ h6) ?_
   rintro _ w7 ⟨rfl,h7,m7⟩
   refine ⟨⟨by omega,by omega⟩,aM w7 ?_⟩
   rw [kT _ _ hi 0,wm]
   exact H6.iM (r':=jB b _ az _ aR false) 0 rfl m7 (fun c hc=>.inl hc) h7 (fun c hc=>.inl hc)
  ·intro again w4 H4
   refine ite_false (by rw [← bT]; simp) ⟨⟨by omega,by omega⟩,?_⟩
   refine aM w4 ?_
   have e1:st (j+1)=eu az (st j) ((ls.getD j []).take (ls.getD j []).length):=by
    simp only [st]
    rw [kT _ _ hj [],List.flatten_append,wm,List.take_length]
    simp
   rw [e1]
   exact H.iM (r':=jB b _ az _ aR false) 0 rfl H4.mod (fun c hc=>.inl hc) (H4.av 0 rfl) (fun c hc=>.inl hc)
 ·intro again w3 H
  have e:ls.take ls.length=ls:=List.take_length
  refine ite_false (by rw [hn]; simp) ⟨rfl,?_,H.mod⟩
  have:=H.av 0 rfl
  simp only [st,e] at this
  exact this
def Ej (s:List aI×Nat):B8:=(g s.1 (s.2 / 8) >>> (8 * (s.2 % 8))).setWidth 8
def zF (az:Nat) (x:List B8×(List aI×Nat)) (_i:Nat):List B8×(List aI×Nat):=(x.1 ++ [Ej (eD az x.2)],((eD az x.2).1,(eD az x.2).2+1))
def cL (az:Nat) (s:List aI×Nat) (n:Nat):List B8×(List aI×Nat):=up (zF az) ([],s) n
theorem AU (az:Nat) (s:List aI×Nat) (n:Nat):cL az s (n+1)=zF az (cL az s n) n:=mq _ _ _
def tr (az:Nat) (s:List aI×Nat):Prop:=s.1.length=25∧s.2≤az
theorem tr.eD {az:Nat} (hr:0<az) {s:List aI×Nat} (h:tr az s):Fits az (eD az s):=by
 unfold YtgjoehgomjgckaaGreatDoor.eD
 split
 ·exact ⟨yC _ h.1,hr⟩
 ·rename_i hn
  have:=h.2
  exact ⟨h.1,by omega⟩
theorem tr.cL {az:Nat} (hr:0<az) {s:List aI×Nat} (h:tr az s) (n:Nat):tr az (cL az s n).2:=by
 induction n with
 | zero=>exact h
 | succ n ih=>
  rw [AU]
  have:=ih.eD hr
  exact ⟨this.1,this.2⟩
theorem UW (az:Nat) (s:List aI×Nat) (n:Nat):(cL az s n).1.length=n:=by
 induction n with
 | zero=>rfl
 | succ n ih=>rw [AU]; simp [zF,ih]
def close (az:Nat) (aR:B8) (s:List aI×Nat):List aI×Nat:=(flip (flip s.1 s.2 aR) (az - 1) 128,az)
theorem ae0 (p:Option Addr) (n:Int) (hn:p=none∨n<1∨1048576<n) (w:World):Ok Pr CZ [.pointer p,.int .i64 n] w fun v w'=>v=.slice none 0 0∧w'=w:=by
 refine Us ?_
 unfold GH
 refine ite_true ?_ ⟨rfl,rfl⟩
 simp only [Bool.or_eq_true,decide_eq_true_eq]
 rcases hn with rfl | h | h
 ·exact .inl (.inl rfl)
 ·exact .inl (.inr h)
 ·exact .inr h
def ready (az:Nat) (aR:B8) (dy:Bool) (s:List aI×Nat):List aI×Nat:=if dy then s else close az aR s
theorem ahW (n:Nat):(jW n (zc Pr bh)).take (0 * 1)=bp []:=by simp [bp]
theorem UX {s:List aI×Nat} {az:Nat} {aR:B8} {dy:Bool} (hr0:8≤az) (hr:az≤192) (hs:if dy then tr az s else Fits az s) (b:Nat) (n:Nat) (hn:1≤n) (hn':n≤1048576) (w:World) (h:uJ w b s.1 az s.2 aR dy) :
  Ok Pr CZ [.pointer (some ⟨b,0,none⟩),.int .i64 (n:Int)] w fun v w'=>∃ x:ah,v=.slice x.a x.n x.c∧Own w' w.heap.size bh 1 x (bp (cL az (ready az aR dy s) n).1)∧
   uJ w' b (cL az (ready az aR dy s) n).2.1 az (cL az (ready az aR dy s) n).2.2 aR true∧Mod [b] w w':=by
 refine Us ?_
 unfold GH
 refine ite_false (by simp; omega) (ku fun go bZ=>?_)
 have H:=ak.D9 (r:=jB b s.1 az s.2 aR dy) h
 have ES:∀ (s':List aI×Nat) (w1:World),s'=ready az aR dy s→tr az s'→ak w [b] w1 [jB b s'.1 az s'.2 aR true]→go w1:=by
  rintro s' w1 rfl hg H
  refine bZ w1 ?_
  refine H.Tn (l:=0) (c:=n) iG rfl rfl (Nat.zero_le _) (by omega) (by omega) fun c w2 H hc=>?_
  rw [ahW] at H
  generalize ready az aR dy s=r at *
  refine kX 0 n (fun i x w'=>ak w [b] w' [jB b (cL az r i).2.1 az (cL az r i).2.2 aR true,.row bh 1 x (bp (cL az r i).1)]∧x.n=i) rfl (by omega) ⟨H,rfl⟩ ?_ ?_
  ·rintro again i x w3 _ hi ⟨H,hx⟩ aM
   have hq:=hg.cL (by omega) i
   have hf:=hq.eD (by omega)
   have hfa:=hf.2
   refine ite_true (by simp; omega) (aB (UU hq.1 b _ (H.av 0 rfl)) ?_)
   rintro _ w4 ⟨rfl,h4,m4⟩
   have H4:=(H.iM (r':=jB b _ az _ aR true) 0 rfl m4 (fun c hc=>.inl hc) h4 (fun c hc=>.inl hc)).drew
   change ak w [b] _ [jB b (eD az (cL az r i).2).1 az (eD az (cL az r i).2).2 aR true,.row bh 1 x (bp (cL az r i).1)] at H4
   refine nc (H4.an 0 (i:=27) rfl (au b 27) (zl hf.1) ⟨⟨by omega,by rw [Y4]; omega⟩,nc ⟨⟨by omega,by omega⟩,?_⟩⟩)
   refine H4.an 0 (i:=(eD az (cL az r i).2).2 / 8) rfl (To b ((eD az (cL az r i).2).2 / 8)) (Xj hf.1 _ (by omega)) (nc (H4.an 0 (i:=27) rfl (au b 27) (zl hf.1) ⟨by omega,⟨by omega,by omega⟩,?_⟩))
   refine kK (by omega) ?_
   rw [show ((8:Int) * (((eD az (cL az r i).2).2:Int) % 8))=((8 * ((eD az (cL az r i).2).2 % 8):Nat):Int) by omega,zx,aak]
   refine H4.B7 1 iG rfl rfl (by simp [ek]) (by omega) (by omega) fun x' w6 H6 hx'=>?_
   change ak w [b] _ [jB b (eD az (cL az r i).2).1 az (eD az (cL az r i).2).2 aR true,.row bh 1 x' (bp (cL az r i).1 ++ [u8 (Ej (eD az (cL az r i).2))])] at H6
   refine nc (H6.an 0 (i:=27) rfl (au b 27) (zl hf.1) ⟨⟨by omega,by omega⟩,nc (H6.st 0 (i:=27) rfl (au b 27) (by rw [wF hf.1]; omega) rfl fun w7 H7=>⟨⟨by omega,by omega⟩,?_⟩)⟩)
   refine aM x' w7 ⟨?_,by omega⟩
   rw [show ((eD az (cL az r i).2).2:Int)+1=(((eD az (cL az r i).2).2+1:Nat):Int) by omega,HK hf.1] at H7
   rw [AU]
   have e:bp (zF az (cL az r i) i).1=bp (cL az r i).1 ++ [u8 (Ej (eD az (cL az r i).2))]:=by
    unfold zF; rw [PN]; rfl
   rw [e]
   exact H7
  ·rintro again x w3 ⟨H,hx⟩
   refine ite_false (by simp) ⟨x,rfl,H.fresh 1 rfl ?_,H.av 0 rfl,H.mod⟩
   intro c hc hcS
   exact H.apart 1 0 _ _ (by omega) rfl rfl c hc (by simpa [aD.av] using hcS)
 refine nc (H.l5 0 (i:=28) rfl (au b 28) (WE (by cases dy <;> exact hs.1)) ?_)
 cases dy with
 | true=>exact ite_false rfl (ES s w rfl hs H)
 | false=>
  have hs:Fits az s:=hs
  have hsa:=hs.2
  have H:=H.drew
  refine ite_true rfl (nc (H.an 0 (i:=27) rfl (au b 27) (zl hs.1) (nc (H.an 0 (i:=26) rfl (au b 26) (akO hs.1) (aB (Mv hs.1 b _ (by omega) _ _ (H.av 0 rfl)) ?_)))))
  rintro _ w3 ⟨rfl,h3,m3⟩
  have H3:=H.iM (r':=jB b _ az _ aR false) 0 rfl m3 (fun c hc=>.inl hc) h3 (fun c hc=>.inl hc)
  have l3:(flip s.1 s.2 aR).length=25:=(wA _ _ _).trans hs.1
  refine nc (H3.an 0 (i:=25) rfl (au b 25) (QY l3) ⟨⟨by omega,by omega⟩,?_⟩)
  rw [show ((az:Int) - 1)=((az - 1:Nat):Int) by omega]
  refine aB (Mv l3 b (az - 1) (by omega) 128 _ h3) ?_
  rintro _ w4 ⟨rfl,h4,m4⟩
  have H4:=H3.iM (r':=jB b _ az _ aR false) 0 rfl m4 (fun c hc=>.inl hc) h4 (fun c hc=>.inl hc)
  have l4:(flip (flip s.1 s.2 aR) (az - 1) 128).length=25:=(wA _ _ _).trans l3
  refine nc (H4.an 0 (i:=25) rfl (au b 25) (QY l4) (nc (H4.st 0 (i:=28) rfl (au b 28) (by rw [wF l4]; omega) rfl fun w5 H5=>?_)))
  rw [afH l4] at H5
  refine nc (H5.st 0 (i:=27) rfl (au b 27) (by show 27<(gW _ _ _ _ _).length; rw [wF l4]; omega) rfl fun w6 H6=>?_)
  refine ES (close az aR s) w6 rfl ⟨l4,Nat.le_refl _⟩ ?_
  rw [HK l4] at H6
  exact H6
end Go.Proofs.YtgjoehgomjgckaaGreatDoor
end
section
set_option linter.unusedVariables false
set_option linter.unusedSimpArgs false
namespace Go.Proofs.YtgjoehgomjgckaaGreatDoor
open Go Go.Ev
def xx (l:List B8) (a:List aI) (n:Nat):List aI:=up (fun a i=>flip a i (l.getD i 0)) a n
def mix (a:List aI) (l:List B8):List aI:=xx l a l.length
theorem ahb (l:List B8) (a:List aI) (n:Nat):(xx l a n).length=a.length:=yP _ (fun _ _=>wA _ _ _) _ _
def rJ (az:Nat) (l:List B8):List B8:=l ++ List.replicate ((az - l.length % az) % az) 0
theorem ajz {az:Nat} (hr:0<az) (l:List B8):(rJ az l).length % az=0:=by
 unfold rJ
 rw [List.length_append,List.length_replicate]
 have h1:=Nat.mod_lt l.length hr
 rcases Nat.eq_zero_or_pos (l.length % az) with h | h
 ·rw [h,Nat.sub_zero,Nat.mod_self,Nat.add_zero,h]
 ·rw [Nat.mod_eq_of_lt (by omega:az - l.length % az<az),Nat.add_mod,Nat.mod_eq_of_lt (by omega:az - l.length % az<az),show l.length % az+(az - l.length % az)=az by omega,Nat.mod_self]
def ru (az:Nat) (aR:B8) (l:List B8):List B8:=
 let p:=rJ az (l ++ [aR])
 p.set (p.length - 1) (p.getD (p.length - 1) 0 ^^^ 128)
def blocks (az:Nat) (p:List B8) (a:List aI) (m:Nat):List aI:=up (fun a j=>perm (mix a ((p.drop (az * j)).take az))) a m
theorem afI (az:Nat) (p:List B8) (m:Nat):(blocks az p fX m).length=25:=by
 induction m with
 | zero=>rfl
 | succ m ih=>
  rw [show blocks az p fX (m+1)=perm (mix (blocks az p fX m) ((p.drop (az * m)).take az)) from mq _ _ _]
  exact yC _ ((ahb _ _ _).trans ih)
def By (az:Nat) (x:List B8×List aI) (i:Nat):List B8×List aI:=
 let a:=if 0<i∧i % az=0 then perm x.2 else x.2
 (x.1 ++ [(g a (i % az / 8) >>> (8 * (i % 8))).setWidth 8],a)
def outs (az:Nat) (a:List aI) (n:Nat):List B8×List aI:=up (By az) ([],a) n
theorem HV (az:Nat) (a:List aI) (n:Nat):outs az a (n+1)=By az (outs az a n) n:=mq _ _ _
theorem ahc (az:Nat) (a:List aI) (ha:a.length=25) (n:Nat):(outs az a n).1.length=n∧(outs az a n).2.length=25:=by
 induction n with
 | zero=>exact ⟨rfl,ha⟩
 | succ n ih=>
  rw [HV]
  refine ⟨by simp [By,ih.1],?_⟩
  simp only [By]
  split
  ·exact yC _ ih.2
  ·exact ih.2
def BF (az:Nat) (aR:B8) (l:List B8) (n:Nat):List B8:=(outs az (blocks az (ru az aR l) fX ((ru az aR l).length / az)) n).1
theorem afJ (az:Nat) (aR:B8) (l:List B8) (n:Nat):(BF az aR l n).length=n:=by
 unfold BF
 exact (ahc _ _ (afI _ _ _) _).1
theorem afK (az:Nat) (aR:B8) (l:List B8):(ru az aR l).length=(rJ az (l ++ [aR])).length:=by simp [ru]
end Go.Proofs.YtgjoehgomjgckaaGreatDoor
end
section
set_option linter.unusedVariables false
set_option linter.unusedSimpArgs false
namespace Go.Proofs.YtgjoehgomjgckaaGreatDoor
open Go Go.Ev
theorem flip_flip (ws:List aI) (i:Nat) (x y:B8) (h:i / 8<ws.length):flip (flip ws i x) i y=flip ws i (x ^^^ y):=by
 unfold flip
 rw [List.set_set]
 congr 1
 have:g (ws.set (i / 8) (g ws (i / 8) ^^^ BitVec.setWidth 64 x <<< (8 * (i % 8)))) (i / 8)=g ws (i / 8) ^^^ BitVec.setWidth 64 x <<< (8 * (i % 8)):=by
  simp [g,h]
 rw [this,BitVec.xor_assoc,BitVec.setWidth_xor,BitVec.shiftLeft_xor_distrib]
theorem aiC (ws:List aI) (i:Nat):flip ws i 0=ws:=by
 unfold flip
 have h0:(BitVec.setWidth 64 (0:B8)) <<< (8 * (i % 8))=(0:aI):=by
  rw [show BitVec.setWidth 64 (0:B8)=(0:aI) from rfl]; exact BitVec.zero_shiftLeft _
 rw [h0,show g ws (i / 8) ^^^ (0:aI)=g ws (i / 8) from BitVec.xor_zero]
 rcases Nat.lt_or_ge (i / 8) ws.length with h | h
 ·have:g ws (i / 8)=ws[i / 8]:=by simp [g,h]
  rw [this,List.set_getElem_self]
 ·rw [List.set_eq_of_length_le h]
theorem agG (az:Nat) (a:List aI) (bl:List B8) (hb:bl.length=az) (k:Nat) (hk:k<az):eu az (a,0) (bl.take k)=(xx bl a k,k):=by
 induction k with
 | zero=>rfl
 | succ k ih=>
  rw [kT _ _ (by omega) 0,wm,ih (by omega)]
  show eD az (flip (xx bl a k) k (bl.getD k 0),k+1)=_
  unfold eD
  rw [if_neg (by show ¬ k+1=az; omega),show xx bl a (k+1)=flip (xx bl a k) k (bl.getD k 0) from mq _ _ _]
theorem afL (az:Nat) (hr:0<az) (a:List aI) (bl:List B8) (hb:bl.length=az):eu az (a,0) bl=(perm (mix a bl),0):=by
 obtain ⟨k,rfl⟩:∃ k,az=k+1:=⟨az - 1,by omega⟩
 have e:bl=bl.take k ++ [bl.getD k 0]:=by rw [← kT _ _ (by omega) 0,← hb,List.take_length]
 have h1:=agG (k+1) a bl hb k (by omega)
 have h2:mix a bl=flip (xx bl a k) k (bl.getD k 0):=by unfold mix; rw [hb]; exact mq _ _ _
 rw [h2]
 conv=>lhs; rw [e]
 rw [wm,h1]
 show eD (k+1) (flip (xx bl a k) k (bl.getD k 0),k+1)=_
 unfold eD
 rw [if_pos rfl]
theorem afM (az:Nat) (hr:0<az) (p:List B8) (m:Nat) (hm:az * m≤p.length):eu az (fX,0) (p.take (az * m))=(blocks az p fX m,0):=by
 induction m with
 | zero=>rfl
 | succ m ih=>
  rw [Nat.mul_add,Nat.mul_one] at hm
  have e:p.take (az * (m+1))=p.take (az * m) ++ (p.drop (az * m)).take az:=by rw [Nat.mul_add,Nat.mul_one,List.take_add]
  rw [e,wm,ih (by omega),afL az hr _ _ (by rw [List.length_take,List.length_drop]; omega)]
  rw [show blocks az p fX (m+1)=perm (mix (blocks az p fX m) ((p.drop (az * m)).take az)) from mq _ _ _]
theorem aiD (az:Nat) (hr:0<az) (l:List B8):∀ (s:List aI×Nat),s.2<az→(eu az s l).2=(s.2+l.length) % az:=by
 induction l with
 | nil=>intro s h; exact (Nat.mod_eq_of_lt h).symm
 | cons x r ih=>
  intro s h
  show (eu az (qO az s x) r).2=_
  have h1:(qO az s x).2<az∧(qO az s x).2 % az=(s.2+1) % az:=by
   unfold qO eD
   split
   ·rename_i e
    have e':s.2+1=az:=e
    exact ⟨hr,by rw [e',Nat.mod_self]; rfl⟩
   ·rename_i e
    have e':¬ s.2+1=az:=e
    exact ⟨by show s.2+1<az; omega,rfl⟩
  rw [ih _ h1.1,Nat.add_mod,h1.2,← Nat.add_mod,List.length_cons]
  congr 1; omega
theorem Vv (az:Nat) (ws:List aI):∀ (k at_:Nat),at_+k<az→eu az (ws,at_) (List.replicate k 0)=(ws,at_+k)
 | 0,at_,_=>rfl
 | k+1,at_,h=>by
  show eu az (qO az (ws,at_) 0) (List.replicate k 0)=_
  have e:qO az (ws,at_) 0=(ws,at_+1):=by
   unfold qO eD
   rw [if_neg (by show ¬ at_+1=az; omega)]
   show (flip ws at_ 0,at_+1)=_
   rw [aiC]
  rw [e,Vv az ws k (at_+1) (by omega)]
  congr 1; omega
theorem aiE (az:Nat) (hr:8≤az) (CC:az≤192) (aR:B8) (l:List B8) :
  eu az (fX,0) (ru az aR l)=(perm (close az aR (eu az (fX,0) l)).1,0):=by
 have CB:=aiD az (by omega) l (fX,0) (by show 0<az; omega)
 have hf:Fits az (eu az (fX,0) l):=Fits.eu l ⟨rfl,by show 0<az; omega⟩
 rw [Nat.zero_add] at CB
 rcases hs:eu az (fX,0) l with ⟨ws,at_⟩
 rw [hs] at CB hf
 have CB:at_=l.length % az:=CB
 have bX:at_<az:=hf.2
 have fu:ws.length=25:=hf.1
 obtain ⟨k,hk,hak⟩:∃ k,(az - (l.length+1) % az) % az=k∧at_+1+k=az:=by
  refine ⟨_,rfl,?_⟩
  have h1:(l.length+1) % az=(at_+1) % az:=by rw [CB,Nat.add_mod,Nat.mod_eq_of_lt (by omega:1<az)]
  rcases Nat.lt_or_ge (at_+1) az with h | h
  ·rw [h1,Nat.mod_eq_of_lt h,Nat.mod_eq_of_lt (by omega:az - (at_+1)<az)]; omega
  ·rw [h1,show at_+1=az by omega,Nat.mod_self,Nat.sub_zero,Nat.mod_self]; omega
 have hz:rJ az (l ++ [aR])=l ++ ([aR] ++ List.replicate k 0):=by
  unfold rJ
  rw [List.length_append,List.length_cons,List.length_nil,hk,List.append_assoc]
 have hp:ru az aR l=l ++ ([aR] ++ List.replicate k 0).set k (([aR] ++ List.replicate k 0).getD k 0 ^^^ 128):=by
  show (rJ az (l ++ [aR])).set ((rJ az (l ++ [aR])).length - 1) ((rJ az (l ++ [aR])).getD ((rJ az (l ++ [aR])).length - 1) 0 ^^^ 128)=_
  have hlen:(rJ az (l ++ [aR])).length - 1=l.length+k:=by rw [hz]; simp
  rw [hlen,hz,List.set_append_right _ _ (by omega),Nat.add_sub_cancel_left]
  congr 3
  rw [List.getD_eq_getElem?_getD,List.getD_eq_getElem?_getD,List.getElem?_append_right (by omega),Nat.add_sub_cancel_left]
 rw [hp,wm,hs]
 unfold close
 cases k with
 | zero=>
  show eD az (flip ws at_ (aR ^^^ 128),at_+1)=_
  unfold eD
  rw [if_pos (by show at_+1=az; omega)]
  rw [show az - 1=at_ by omega,flip_flip _ _ _ _ (by rw [fu]; omega)]
 | succ k=>
  have e:([aR] ++ List.replicate (k+1) 0).set (k+1) (([aR] ++ List.replicate (k+1) 0).getD (k+1) 0 ^^^ 128)=[aR] ++ List.replicate k 0 ++ [128]:=by
   have h1:([aR] ++ List.replicate (k+1) (0:B8)).getD (k+1) 0=0:=by simp
   rw [h1,List.replicate_succ',← List.append_assoc,List.set_append_right _ _ (by simp)]
   have h2:k+1 - ([aR] ++ List.replicate k (0:B8)).length=0:=by simp
   rw [h2]
   rfl
  rw [e,wm,wm]
  have e1:eu az (ws,at_) [aR]=(flip ws at_ aR,at_+1):=by
   show eD az (flip ws at_ aR,at_+1)=_
   unfold eD
   rw [if_neg (by show ¬ at_+1=az; omega)]
  rw [e1,Vv az _ k (at_+1) (by omega)]
  show eD az (flip (flip ws at_ aR) (at_+1+k) 128,at_+1+k+1)=_
  unfold eD
  rw [if_pos (by show at_+1+k+1=az; omega)]
  rw [show at_+1+k=az - 1 by omega]
theorem agH (az:Nat) (hr:8≤az) (FA:az % 8=0) (a:List aI) (n:Nat) :
  (cL az (a,az) n).1=(outs az (perm a) n).1∧(cL az (a,az) n).2=(if n=0 then (a,az) else ((outs az (perm a) n).2,(n - 1) % az+1)):=by
 induction n with
 | zero=>exact ⟨rfl,rfl⟩
 | succ n ih=>
  obtain ⟨h1,h2⟩:=ih
  have anc:eD az (cL az (a,az) n).2=((outs az (perm a) (n+1)).2,n % az):=by
   rw [h2,HV]
   simp only [By]
   cases n with
   | zero=>
    rw [if_pos rfl,if_neg (by omega)]
    unfold eD
    rw [if_pos rfl,Nat.zero_mod]
    rfl
   | succ n=>
    rw [if_neg (by omega)]
    unfold eD
    have bX:=Nat.mod_lt n (show 0<az by omega)
    have hm:(n+1) % az=if n % az+1=az then 0 else n % az+1:=by
     rw [Nat.add_mod,Nat.mod_eq_of_lt (by omega:1<az)]
     split
     ·rename_i h; rw [h,Nat.mod_self]
     ·rw [Nat.mod_eq_of_lt (by omega)]
    simp only [Nat.add_sub_cancel]
    split
    ·rename_i h
     rw [if_pos h] at hm
     rw [if_pos ⟨by omega,hm⟩,hm]
    ·rename_i h
     rw [if_neg h] at hm
     rw [if_neg (by omega),hm]
  rw [AU]
  unfold zF
  rw [anc]
  refine ⟨?_,?_⟩
  ·show (cL az (a,az) n).1 ++ [Ej ((outs az (perm a) (n+1)).2,n % az)]=_
   rw [h1]
   conv=>rhs; rw [HV]
   rw [HV]
   simp only [By,Ej]
   rw [Nat.mod_mod_of_dvd n (Nat.dvd_of_mod_eq_zero FA)]
  ·rw [if_neg (by omega),Nat.add_sub_cancel]
theorem WG (az:Nat) (hr:8≤az) (CC:az≤192) (FA:az % 8=0) (aR:B8) (l:List B8) (n:Nat) :
  BF az aR l n=(cL az (close az aR (eu az (fX,0) l)) n).1:=by
 have hp:=aiE az hr CC aR l
 have hm:az * ((ru az aR l).length / az)=(ru az aR l).length:=by
  have h1:=Nat.div_add_mod (ru az aR l).length az
  have h2:=ajz (show 0<az by omega) (l ++ [aR])
  rw [← afK] at h2
  omega
 have hb:=afM az (by omega) (ru az aR l) ((ru az aR l).length / az) (by omega)
 rw [hm,List.take_length,hp] at hb
 unfold BF
 rw [← (Prod.mk.inj hb).1]
 exact (agH az hr FA _ n).1.symm
end Go.Proofs.YtgjoehgomjgckaaGreatDoor
end
section
set_option linter.unusedVariables false
set_option linter.unusedSimpArgs false
namespace Go.Proofs.YtgjoehgomjgckaaGreatDoor
open Go Go.Ev
def eZ (az:Nat) (aR:B8) (l:List B8) (n:Int):List B8:=if 1≤n∧n≤1048576 then BF az aR l n.toNat else []
theorem aiF (az:Nat) (aR:B8) (l:List B8) (n:Nat) (h:1≤n) (h2:n≤1048576):eZ az aR l (n:Int)=BF az aR l n:=by
 unfold eZ
 rw [if_pos (by omega),Int.toNat_natCast]
theorem NS (az:Nat) (hr:8≤az) (CC:az≤192) (FA:az % 8=0) (aR:B8) (hm:R9 az aR=true) (n:Int) (parts:ah) (ls:List (List B8)) (w:World) (hp:eY w [] parts ls)
  (Eh:parts.n<1000000∧∀ l∈ls,l.length<1000000000) :
  Ok Pr Dx [.int .i64 (az:Int),.int .u8 (aR.toNat:Int),.int .i64 n,.slice parts.a parts.n parts.c] w fun v w'=>∃ y:ah,v=.slice y.a y.n y.c∧Own w' w.heap.size bh 1 y (bp (eZ az aR ls.flatten n))∧Mod [] w w':=by
 refine aeS ?_
 unfold OQ
 refine aB (Vm az aR hm w) ?_
 rintro _ w1 ⟨b,rfl,h1,hb,m1⟩
 have H:=(ak.start w).Y3 m1 h1 hb
 have hp1:eY w1 [b] parts ls:=(hp.new (T:=[b]) fun c hc=>.inr (by simp only [List.mem_singleton] at hc; subst hc; exact hb)).mod m1.of_nil
 refine ZQ (aB (UM CC (s:=(fX,0)) ⟨rfl,by show 0<az; omega⟩ b parts ls _ h1 hp1 Eh) ?_)
 rintro _ w2 ⟨rfl,h2,m2⟩
 have hf:Fits az (eu az (fX,0) ls.flatten):=Fits.eu _ ⟨rfl,by show 0<az; omega⟩
 have H2:=H.iM (r':=jB b _ az _ aR false) 0 rfl m2 (fun c hc=>.inl hc) h2 (fun c hc=>.inl hc)
 rcases Decidable.em (1≤n∧n≤1048576) with hn | hn
 ·obtain ⟨k,rfl⟩:∃ k:Nat,n=(k:Int):=⟨n.toNat,by omega⟩
  refine aB (UX hr CC (dy:=false) (s:=eu az (fX,0) ls.flatten) hf b k (by omega) (by omega) _ h2) ?_
  rintro _ w3 ⟨x,rfl,hx,h3,m3⟩
  have Tp:Mod [] w w3:=H2.mod.trans' m3 fun c hc=>.inr (by simp only [List.mem_singleton] at hc; subst hc; exact hb)
  refine bV ⟨x,rfl,?_,Tp⟩
  unfold eZ
  rw [if_pos hn,Int.toNat_natCast,WG az hr CC FA]
  obtain ⟨hl,e1 | ⟨gg,cap,cur,e1,e2,e3⟩⟩:=hx
  ·exact ⟨hl,.inl e1⟩
  ·exact ⟨hl,.inr ⟨gg,cap,cur,e1,Nat.le_trans H2.mod.size e2,e3⟩⟩
 ·refine aB (ae0 _ n (.inr (by omega)) _) ?_
  rintro _ _ ⟨rfl,rfl⟩
  refine bV (s:=⟨none,0,0⟩) ⟨⟨none,0,0⟩,rfl,?_,H2.mod⟩
  unfold eZ
  rw [if_neg hn]
  exact Own.nil _ _ _ _
def nG (w w':World) (v:Value) (l:List B8):Prop:=∃ y:ah,v=.slice y.a y.n y.c∧Own w' w.heap.size bh 1 y (bp l)∧Mod [] w w'
def Small (parts:ah) (ls:List (List B8)):Prop:=parts.n<1000000∧∀ l∈ls,l.length<1000000000
theorem KY (n:Int) (parts:ah) (ls:List (List B8)) (w:World) (hp:eY w [] parts ls) (hs:Small parts ls):Ok Pr sN [.int .i64 n,.slice parts.a parts.n parts.c] w fun v w'=>nG w w' v (eZ 136 31 ls.flatten n):=by
 refine acn ?_
 unfold Lo
 refine aB (NS 136 (by omega) (by omega) rfl 31 rfl n parts ls w hp hs) ?_
 rintro _ w1 ⟨y,rfl,h1,h2⟩
 exact bV ⟨y,rfl,h1,h2⟩
theorem LC (parts:ah) (ls:List (List B8)) (w:World) (hp:eY w [] parts ls) (hs:Small parts ls):Ok Pr C4 [.slice parts.a parts.n parts.c] w fun v w'=>nG w w' v (eZ 136 6 ls.flatten 32):=by
 refine acT ?_
 unfold LW
 refine aB (NS 136 (by omega) (by omega) rfl 6 rfl 32 parts ls w hp hs) ?_
 rintro _ w1 ⟨y,rfl,h1,h2⟩
 exact bV ⟨y,rfl,h1,h2⟩
theorem LD (parts:ah) (ls:List (List B8)) (w:World) (hp:eY w [] parts ls) (hs:Small parts ls):Ok Pr C3 [.slice parts.a parts.n parts.c] w fun v w'=>nG w w' v (eZ 72 6 ls.flatten 64):=by
 refine acS ?_
 unfold LV
 refine aB (NS 72 (by omega) (by omega) rfl 6 rfl 64 parts ls w hp hs) ?_
 rintro _ w1 ⟨y,rfl,h1,h2⟩
 exact bV ⟨y,rfl,h1,h2⟩
def many (n:Int):Nat:=if 1≤n∧n≤1048576 then n.toNat else 0
theorem ajA {l m:List B8} (h:l.length=m.length) (he:∀ i,i<l.length→l.getD i 0=m.getD i 0):l=m:=by
 refine List.ext_getElem h fun i h1 h2=>?_
 have:=he i h1
 simpa [h1,h2] using this
theorem C1 (x y:ah) (l m:List B8) (w:World) (hx:Bytes w x l) (hy:Bytes w y m) (hl:l.length<1000000000000):Ok Pr yw [.slice x.a x.n x.c,.slice y.a y.n y.c] w fun v w'=>v=.bool (decide (l=m))∧Mod [] w w':=by
 refine acB ?_
 unfold LA
 have bT:=hx.len
 have jS:=hy.len
 refine bU (fun h=>?_) (fun h=>?_)
 ·have:l≠m:=fun e=>by
   have:l.length=m.length:=by rw [e]
   simp only [Bool.not_eq_true',decide_eq_false_iff_not] at h
   omega
  exact ⟨by rw [decide_eq_false this],Mod.refl _ _⟩
 ·have hlen:l.length=m.length:=by
   simp only [Bool.not_eq_false',decide_eq_true_eq] at h
   omega
  refine dw 0 l.length (fun i w'=>Mod [] w w'∧∀ j,j<i→l.getD j 0=m.getD j 0) rfl (by omega) ⟨Mod.refl _ _,fun j h=>by omega⟩ ?_ ?_
  ·rintro again i w1 _ hi ⟨hm,he⟩ aM
   have Fz:=hm.trans (Mod.drew [] w1)
   refine ite_true (by rw [← bT]; simpa using hi) ((hx.aE Fz).ld hi ((hy.aE Fz).ld (by omega) (bU (fun h=>?_) (fun h=>?_))))
   ·have:l≠m:=fun e=>by
     subst e
     simp at h
    exact ⟨by rw [decide_eq_false this],Fz⟩
   ·refine ⟨⟨by omega,by omega⟩,aM _ ⟨Fz,fun j hj=>?_⟩⟩
    rcases Nat.lt_or_ge j i with h1 | h1
    ·exact he j h1
    ·have:j=i:=by omega
     subst this
     simp only [Bool.not_eq_false',decide_eq_true_eq] at h
     exact toNat_eq.1 h
  ·rintro again w1 ⟨hm,he⟩
   refine ite_false (by rw [← bT]; simp) ⟨by rw [decide_eq_true (ajA hlen he)],hm⟩
end Go.Proofs.YtgjoehgomjgckaaGreatDoor
end
section
set_option linter.unusedVariables false
set_option linter.unusedSimpArgs false
namespace Go.Proofs.YtgjoehgomjgckaaGreatDoor
open Go Go.Ev
def Laid (w:World):Prop:=w.cell? ⟨0,0,none⟩=some (.iface acA (.agg #[.pointer (some ⟨1,akJ,none⟩)]))
theorem Laid.mod {w w':World} (h:Laid w) {S:List Nat} (m:Mod S w w') (h0:0∉S):Laid w':=m.cell h h0
theorem Laid.lU {w0 w:World} {S:List Nat} {L:List aD} (h:Laid w0) (H:ak w0 S w L) (h0:0∉S):Laid w:=h.mod H.mod h0
theorem Xk (w:World) (o1 o2 o3 o4:Obj) (p:Nat) (v:Value):Mod [p] w (((((w.alloc o1).alloc o2).alloc o3).alloc o4).setCell ⟨p,0,none⟩ v):=
 ((((Mod.alloc _ w o1).trans (Mod.alloc _ _ o2)).trans (Mod.alloc _ _ o3)).trans (Mod.alloc _ _ o4)).trans (Mod.setCell _ ⟨p,0,none⟩ v)
theorem Xl {w:World} {p:Nat} {u:Value} {t:TypeId} (h:bW w p [u] t) (o1 o2 o3 o4:Obj) (v:Value):bW (((((w.alloc o1).alloc o2).alloc o3).alloc o4).setCell ⟨p,0,none⟩ v) p [v] t:=
 ((((h.aE (Mod.alloc _ _ o1)).aE (Mod.alloc _ _ o2)).aE (Mod.alloc _ _ o3)).aE (Mod.alloc _ _ o4)).set 0 v
theorem aem (e:Addr) (p:Nat) (u:Value) (w:World) (hg:Laid w) (hp:bW w p [u] ju) :
  Ok Pr Hh [.iface ju (.pointer (some e)),.iface UK (.pointer (some ⟨p,0,none⟩))] w fun v w'=>v=.bool true∧Mod [p] w w'∧bW w' p [.pointer (some e)] ju:=by
 refine Calls.mono (alx e ⟨p,0,none⟩ u w hg ((hp.cell 0).trans rfl) (hp.frozen 0)) ?_
 rintro _ _ ⟨rfl,rfl⟩
 exact ⟨_,rfl,rfl,Xk _ _ _ _ _ _ _,Xl hp _ _ _ _ _⟩
theorem ae1 (b:Nat) (c:Int) (p:Nat) (u:Value) (w:World) (hg:Laid w) (hc:w.cell? ⟨b,0,none⟩=some (.int .i64 c)) (hp:bW w p [u] qq) :
  Ok Pr Hh [.iface ju (.pointer (some ⟨b,0,none⟩)),.iface Vj (.pointer (some ⟨p,0,none⟩))] w fun v w'=>v=.bool true∧Mod [p] w w'∧bW w' p [.int .i64 c] qq:=by
 refine Calls.mono (akB b c ⟨p,0,none⟩ u w hg hc ((hp.cell 0).trans rfl) (hp.frozen 0)) ?_
 rintro _ _ ⟨rfl,rfl⟩
 exact ⟨_,rfl,rfl,Xk _ _ _ _ _ _ _,Xl hp _ _ _ _ _⟩
theorem ae2 (b:Nat) (c:Int) (w:World) (hc:w.cell? ⟨b,0,none⟩=some (.int .i64 c)):Ok Pr AY [.iface ju (.pointer (some ⟨b,0,none⟩)),.iface qq (.int .i64 c)] w fun v w'=>v=.bool true∧w'=w:=by
 refine Calls.mono (XR b c w hc) ?_
 rintro _ _ ⟨rfl,rfl⟩
 exact ⟨_,rfl,rfl,rfl⟩
theorem akP:zc Pr qq=[.int .i64 0]:=by kernel_rfl
theorem an2:zc Pr ju=[.pointer none]:=by kernel_rfl
theorem VL (b:Nat) (c:Int) (w:World) (hg:Laid w) (hc:w.cell? ⟨b,0,none⟩=some (.int .i64 c)):Ok Pr DC [.iface ju (.pointer (some ⟨b,0,none⟩))] w fun v w'=>v=.int .i64 c∧Mod [] w w':=by
 refine afD ?_
 unfold PL
 rw [akP]
 refine (ak.start w).nw fun p w1 H hp=>?_
 refine WD (ite_false rfl (aB (ae1 b c p _ w1 (hg.lU H (by simp)) (H.mod.o8 hc) (H.av 0 rfl)) ?_))
 rintro _ w2 ⟨rfl,m2,h2⟩
 have H2:=H.iM (r':=.av p [.int .i64 c] qq) 0 rfl m2 (fun c hc=>.inl hc) h2 (fun c hc=>.inl hc)
 exact bk (ite_true rfl (H2.an 0 rfl rfl rfl ⟨rfl,H2.mod⟩))
theorem agI (w:World):Ok Pr yF [.nilIface] w fun v w'=>v=.int .i64 0∧w'=w:=by
 refine Vk ?_
 unfold HJ
 exact ⟨rfl,rfl⟩
theorem ahd (b:Nat) (c:Int) (s:ByteArray) (w:World) (hg:Laid w) (hb:bW w b [.int .i64 c,.string s] oW) (hc:c≠0):Ok Pr yF [.iface ju (.pointer (some ⟨b,0,none⟩))] w fun v w'=>v=.int .i64 c∧Mod [] w w':=by
 refine Vk ?_
 unfold HJ
 rw [an2]
 have CD:w.cell? ⟨b,0,none⟩=some (.int .i64 c):=(hb.cell 0).trans rfl
 refine WD (ite_false rfl ((ak.start w).nw fun p w1 H hp=>ku fun go bZ=>?_))
 have H:=H.drew
 refine aB (aem ⟨b,0,none⟩ p _ _ (hg.lU H (by simp)) (H.av 0 rfl)) ?_
 rintro _ w3 ⟨rfl,m3,h3⟩
 have H:=H.iM (r':=.av p [.pointer (some ⟨b,0,none⟩)] ju) 0 rfl m3 (fun c hc=>.inl hc) h3 (fun c hc=>.inl hc)
 have CE:w3.cell? (Addr.add ⟨b,0,none⟩ 0)=some (.int .i64 c):=by rw [B9]; exact H.mod.o8 CD
 refine bk (H.l6 0 rfl rfl rfl (H.l6 0 rfl rfl rfl (ite_false rfl (nc ⟨c,CE,H.l6 0 rfl rfl rfl (ite_false (decide_eq_false hc) (nc ⟨c,CE,?_⟩))⟩))))
 refine aB (ae2 b c _ (by rw [← B9]; exact CE)) ?_
 rintro _ _ ⟨rfl,rfl⟩
 refine bk (H.l6 0 rfl rfl rfl (ite_false rfl (nc ⟨c,CE,?_⟩)))
 refine aB (VL b c _ (hg.lU H (by simp)) (by rw [← B9]; exact CE)) ?_
 rintro _ w5 ⟨rfl,m5⟩
 refine ey ⟨yT m5 CE,H.kept m5 0 rfl rfl 1,ite_false (by simp) (bZ w5 ?_)⟩
 have H:=H.frame m5
 refine H.l6 0 rfl rfl rfl (nc ⟨c,?_,rfl,H.mod⟩)
 rw [B9]; exact H.mod.o8 CD
end Go.Proofs.YtgjoehgomjgckaaGreatDoor
end
section
set_option linter.unusedVariables false
set_option linter.unusedSimpArgs false
namespace Go.Proofs.YtgjoehgomjgckaaGreatDoor
open Go Go.Ev Go.ChangeShapes Go.WideShapes Go.ChangeAt Go.RowKit
theorem own:ownKnob Tryz.prog.godebug=none:=by kernel_rfl
theorem laidOut:laidOutB Tryz.prog=true:=by kernel_rfl
theorem et:Tryz.prog.globalNamed "errors.errorType"=some 0:=by kernel_rfl
theorem rt:(Tryz.prog.cutTypes.find? (·.1 == "internal/reflectlite.rtype")).map (·.2)=some 183:=by kernel_rfl
theorem alH:((List.range 352).filter fun t=>Tryz.prog.rowNamed t [101,114,114,111,114])=[41]:=by kernel_rfl
theorem ane:Tryz.prog.types.size=352:=by kernel_rfl
theorem akQ {W:World} (h:laidMetH Tryz.prog [("errors.errorType",Rows.laid_errors_errorType)] W):Laid W:=by
 have h':laidMet Tryz.prog [] W∧handlesMet Tryz.prog [("errors.errorType",Rows.laid_errors_errorType)] W:=h
 obtain ⟨name,u,ty,e1,e2,e3,e4,e5⟩:=h'.2 _ (List.mem_singleton.2 rfl)
 have en:name=[101,114,114,111,114]:=(Option.some.inj e1).symm
 subst en
 obtain rfl:=Option.some.inj (rt.symm.trans e2)
 have hm:ty∈(List.range 352).filter fun t=>Tryz.prog.rowNamed t [101,114,114,111,114]:=List.mem_filter.2 ⟨List.mem_range.2 (by rw [← ane]; exact e3),e4⟩
 rw [alH] at hm
 obtain rfl:=List.mem_singleton.1 hm
 have hh:typeHandle Tryz.prog 41=.pointer (some ⟨1,41,none⟩):=by kernel_rfl
 rw [hh] at e5
 have:=World.var?_cell et e5 0
 simpa [Laid] using this
noncomputable def QC (os:Os):World:=
 let w0:=World.holding Tryz.prog os ⟨#[],#[],[]⟩
 { w0 with heap:=w0.heap.modify 0 fun
   | .cells _ t frozen=>.cells #[.iface 183 (.agg #[.pointer (some ⟨1,41,none⟩)])] t frozen
   | o=>o }
theorem afN (os:Os) (args:Array Value):laidMetH Tryz.prog [("errors.errorType",Rows.laid_errors_errorType)] ((QC os).forCall (fun _ _=>0) ⟨#[],args,[]⟩).memory:=
 laidMetH_of_parts (laidMet_nil _ _) (by kernel_rfl)
end Go.Proofs.YtgjoehgomjgckaaGreatDoor
end
section
set_option linter.unusedVariables false
set_option linter.unusedSimpArgs false
namespace Go.Ev
open Go Go.RowKit Go.ChangeShapes Go.WideShapes Go.ChangeAt Go.Deep
variable {H:Type} {enc:TypeId×Value→H} {P:Program} {w:World} {held:Bool}
theorem Y5 {k:IntKind} {n:Int} (h:(Lit.int k n).wf=true):k.min≤n∧n≤k.max:=by
 simpa [Lit.wf] using h
theorem afO {s:ah} {xs:List Int} (h:aah w s .u8 xs):Bytes w s (xs.map (BitVec.ofInt 8)):=by
 have e:bp (xs.map (BitVec.ofInt 8))=xs.map (Value.int .u8):=by
  unfold bp
  rw [List.map_map]
  refine List.map_congr_left fun x hx=>?_
  have h1:=h.2 x hx
  have e1:IntKind.min .u8=0:=by decide
  have e2:IntKind.max .u8=255:=by decide
  rw [e1,e2] at h1
  show Value.int .u8 _=_
  congr 1
  rw [BitVec.toNat_ofInt]
  omega
 unfold Bytes
 rw [e]
 exact h.1
end Go.Ev
end
section
set_option linter.unusedVariables false
set_option linter.unusedSimpArgs false
namespace Go.Ev
open Go Go.RowKit
theorem ajB {A1 A2 A3 A4:Type} {mk:A1→A2→A3→A4→Fr} {body:(A1→A2→A3→A4→World→Prop)→A1→A2→A3→A4→World→Prop} {y1:A1} {y2:A2} {y3:A3} {y4:A4} {v:World} (I:A1→A2→A3→A4→World→Prop) (μ:A1→A2→A3→A4→World→Nat) (hi:I y1 y2 y3 y4 v)
  (hb:∀ (again:A1→A2→A3→A4→World→Prop) x1 x2 x3 x4 w,I x1 x2 x3 x4 w→(∀ gU jR mC FB w',I gU jR mC FB w'→μ gU jR mC FB w'<μ x1 x2 x3 x4 w→again gU jR mC FB w')→body again x1 x2 x3 x4 w):I2 mk body y1 y2 y3 y4 v:=by
 intro X hX
 suffices ∀ n x1 x2 x3 x4 w,μ x1 x2 x3 x4 w<n→I x1 x2 x3 x4 w→X (mk x1 x2 x3 x4) w from this _ y1 y2 y3 y4 v (Nat.lt_succ_self _) hi
 intro n
 induction n with
 | zero=>intro x1 x2 x3 x4 w h; omega
 | succ n ih=>intro x1 x2 x3 x4 w hn hI; exact hX x1 x2 x3 x4 w (hb _ x1 x2 x3 x4 w hI fun gU jR mC FB w' h1 h2=>ih gU jR mC FB w' (by omega) h1)
theorem Xm {A1 A2 A3:Type} {mk:A1→A2→A3→Int→Fr} {body:(A1→A2→A3→Int→World→Prop)→A1→A2→A3→Int→World→Prop} {v:World} {z1:A1} {z2:A2} {z3:A3} {y:Int} (lo hi:Nat) (I:Nat→A1→A2→A3→World→Prop) (hy:y=(lo:Int)) (hle:lo≤hi) (h0:I lo z1 z2 z3 v)
  (step:∀ (again:A1→A2→A3→Int→World→Prop) (i:Nat) x1 x2 x3 w,lo≤i→i<hi→I i x1 x2 x3 w→(∀ gU jR mC w',I (i+1) gU jR mC w'→again gU jR mC ((i:Int)+1) w')→body again x1 x2 x3 (i:Int) w)
  (done:∀ (again:A1→A2→A3→Int→World→Prop) x1 x2 x3 w,I hi x1 x2 x3 w→body again x1 x2 x3 (hi:Int) w):I2 mk body z1 z2 z3 y v:=by
 subst hy
 refine ajB (fun x1 x2 x3 x w=>∃ i:Nat,x=(i:Int)∧lo≤i∧i≤hi∧I i x1 x2 x3 w) (fun _ _ _ x _=>hi - x.toNat) ⟨lo,rfl,Nat.le_refl _,hle,h0⟩ ?_
 rintro again x1 x2 x3 x w ⟨i,rfl,h1,h2,h3⟩ aM
 rcases Nat.lt_or_ge i hi with h | h
 ·exact step again i x1 x2 x3 w h1 h h3 fun gU jR mC w' h4=>aM gU jR mC _ w' ⟨i+1,by simp,by omega,by omega,h4⟩ (by omega)
 ·have:i=hi:=by omega
  subst this
  exact done again x1 x2 x3 w h3
theorem ajC {A1 A2 A3:Type} {mk:A1→A2→A3→Fr} {rest:A1→A2→A3→World→Prop} {first:(A1→A2→A3→World→Prop)→Prop} (h:∀ go:A1→A2→A3→World→Prop,(∀ x1 x2 x3 w,rest x1 x2 x3 w→go x1 x2 x3 w)→first go):ZM mk rest first:=
 fun _ hK=>h _ fun x1 x2 x3 w hw=>hK x1 x2 x3 w hw
end Go.Ev
end
section
set_option linter.unusedVariables false
set_option linter.unusedSimpArgs false
namespace Go.Ev
open Go Go.RowKit
variable {P:Program}
def i64 (n:Int):Value:=.int .i64 n
def cr (l:List Int):List Value:=l.map i64
theorem aiG (l:List Int):∀ v∈cr l,ek v=true:=by
 intro v hv
 obtain ⟨b,-,rfl⟩:=List.mem_map.1 hv
 rfl
@[simp] theorem VM (l:List Int):(cr l).length=l.length:=by simp [cr]
theorem DA (a b:List Int):cr (a ++ b)=cr a ++ cr b:=by simp [cr]
theorem ajD (l:List Int) (i:Nat) (x:Int):(cr l).set i (.int .i64 x)=cr (l.set i x):=by simp [cr,i64,List.map_set]
theorem ajE (l:List Int) (i:Nat) (h:i<l.length):(cr l)[i]? = some (.int .i64 (l.getD i 0)):=by simp [cr,i64,h]
theorem WH (l:List Int) (n:Nat):(cr l).take n=cr (l.take n):=by simp [cr,List.map_take]
theorem aiH (l:List Int) (n:Nat):(cr l).drop n=cr (l.drop n):=by simp [cr,List.map_drop]
def dQ (w:World) (s:ah) (l:List Int):Prop:=Sl w s 1 (cr l)
theorem dQ.len {w:World} {s:ah} {l:List Int} (h:dQ w s l):l.length=s.n:=by simpa using Sl.len h
theorem dQ.aE {w w':World} {s:ah} {l:List Int} (h:dQ w s l) (m:Mod [] w w'):dQ w' s l:=Sl.aE h m
theorem dQ.some {w:World} {s:ah} {l:List Int} (h:dQ w s l) (h0:0<s.n):s.a.isSome=true:=h.pre h0
theorem dQ.ld {w:World} {s:ah} {l:List Int} (h:dQ w s l) {i:Nat} (hi:i<l.length) {x:Int} (hx:x=(i:Int)) {K:Int→Prop} (hk:K (l.getD i 0)) :
  aQ s.a x s.n (an .i64 (Addr.add (base s.a) (Int.toNat x * 1)) w K):=by
 subst hx
 have hl:=h.len
 refine ⟨⟨h.pre (by omega),by omega,by omega⟩,_,?_,hk⟩
 rw [Int.toNat_natCast,Nat.mul_one]
 exact h.cell i _ (ajE l i hi)
theorem Own.dH {w:World} {lo:Nat} {e:TypeId} {s:ah} {l:List Int} (h:Own w lo e 1 s (cr l)):dQ w s l:=h.sl
section
variable {w0 w:World} {S:List Nat} {L:List aD}
theorem ak.dH (H:ak w0 S w L) (k:Nat) {e:TypeId} {s:ah} {l:List Int} (hk:L[k]? = some (.row e 1 s (cr l))):dQ w s l:=H.fI k hk
theorem ak.rX (H:ak w0 S w L) (k:Nat) {e:TypeId} {s:ah} {l:List Int} {i:Nat} {x n:Int} {K:World→Prop} (hk:L[k]? = some (.row e 1 s (cr l))) (hi:i<l.length) (hx:x=(i:Int))
  (h:∀ w',ak w0 S w' (L.set k (.row e 1 s (cr (l.set i n))))→K w'):aQ s.a x s.n (Ev.st (Addr.add (base s.a) (Int.toNat x * 1)) (.int .i64 n) w K):=by
 subst hx
 have hl:=(H.dH k hk).len
 refine ⟨⟨(H.dH k hk).pre (by omega),by omega,by omega⟩,?_⟩
 refine H.qz k hk (i:=i) (by rw [Int.toNat_natCast,Nat.mul_one]) (by simpa using hi) rfl fun w' H'=>h w' ?_
 rw [← ajD]; exact H'
theorem ak.an3 (H:ak w0 S w L) (k:Nat) {t ty e:TypeId} {s x:ah} {vs us:List Int} {K:ah→World→Prop} (cA:e6 P t e 1 8) (hk:L[k]? = some (.row e 1 s (cr vs))) (hx:dQ w x us)
  (hm:s.n+x.n≤10000000000000) (h:∀ s' w',ak w0 S w' (L.set k (.row e 1 s' (cr (vs ++ us))))→s'.n=s.n+x.n→K s' w'):cH P [t,t] ty [.slice s.a s.n s.c,.slice x.a x.n x.c] w K:=
 H.app k cA hk hx (aiG us) (by omega) (by omega) fun s' w' H' hn=>h s' w' (by rw [DA]; exact H') hn
theorem ak.Sj (H:ak w0 S w L) (k:Nat) {t ty e t1:TypeId} {s:ah} {vs:List Int} {n:Int} {K:ah→World→Prop} (cA:e6 P t e 1 8) (hk:L[k]? = some (.row e 1 s (cr vs)))
  (hm:s.n≤10000000000000) (h:∀ s' w',ak w0 S w' (L.set k (.row e 1 s' (cr (vs ++ [n]))))→s'.n=s.n+1→K s' w'):Ev.nw t1 [.int .i64 n] w fun p w5=>cH P [t,t] ty [.slice s.a s.n s.c,.slice (some p) 1 1] w5 K:=
 H.B7 k cA hk rfl (by simp [ek]) (by omega) (by omega) fun s' w' H' hn=>h s' w' (by rw [DA]; exact H') hn
theorem Xn (n:Nat) (v:Value):jW n [v]=List.replicate n v:=by
 unfold jW
 induction n with
 | zero=>rfl
 | succ n ih=>rw [List.replicate_succ,List.flatten_cons,ih]; rfl
theorem VN (n:Nat):jW n [.int .i64 0]=cr (List.replicate n 0):=by rw [Xn]; simp [cr,i64]
theorem ahX (n:Nat):jW n [.int .u8 0]=bp (List.replicate n 0):=by rw [Xn]; simp [bp,u8]
theorem ak.JH (H:ak w0 S w L) {t e:TypeId} {n:Nat} {x y:Int} {K:ah→World→Prop} (cA:e6 P t e 1 8) (hz:zc P e=[.int .i64 0]) (hx:x=(n:Int)) (hy:y=(n:Int)) (hn:n≤1000000000)
  (h:∀ s w',ak w0 S w' (L ++ [.row e 1 s (cr (List.replicate n 0))])→s.n=n→K s w'):j4 P e x y w K:=by
 refine H.Tn cA hx hy (Nat.le_refl n) (by omega) (by omega) fun b w' H' _=>h _ w' ?_ rfl
 rw [hz,VN,Nat.mul_one,List.take_of_length_le (by simp)] at H'
 exact H'
theorem ak.tR (H:ak w0 S w L) {t e:TypeId} {n:Nat} {x y:Int} {K:ah→World→Prop} (cA:e6 P t e 1 1) (hz:zc P e=[.int .u8 0]) (hx:x=(n:Int)) (hy:y=(n:Int)) (hn:n≤1000000000)
  (h:∀ s w',ak w0 S w' (L ++ [.row e 1 s (bp (List.replicate n 0))])→s.n=n→K s w'):j4 P e x y w K:=by
 refine H.Tn cA hx hy (Nat.le_refl n) (by omega) (by omega) fun b w' H' _=>h _ w' ?_ rfl
 rw [hz,ahX,Nat.mul_one,List.take_of_length_le (by simp)] at H'
 exact H'
end
theorem wrap_i64 {n:Int} (h1:-9223372036854775808≤n) (h2:n<9223372036854775808):IntKind.wrap .i64 n=n:=by
 have e:IntKind.wrap .i64 n=if n % 18446744073709551616 ≥ 9223372036854775808 then n % 18446744073709551616 - 18446744073709551616 else n % 18446744073709551616:=by
  simp [IntKind.wrap,IntKind.signed,IntKind.bits]
 rw [e]
 split <;> omega
theorem SI {a b:Nat} (ha:a<9223372036854775808) (hb:b<9223372036854775808):iu .i64 (a:Int) (b:Int)=((a &&& b:Nat):Int):=by
 unfold iu
 have e:(BitVec.ofInt (IntKind.bits .i64) (a:Int) &&& BitVec.ofInt (IntKind.bits .i64) (b:Int)).toNat=a &&& b:=by
  rw [BitVec.toNat_and]
  show (BitVec.ofInt 64 (a:Int)).toNat &&& (BitVec.ofInt 64 (b:Int)).toNat=_
  rw [BitVec.toNat_ofInt,BitVec.toNat_ofInt]
  congr 1 <;> omega
 rw [e]
 have:a &&& b≤a:=Nat.and_le_left
 exact wrap_i64 (by omega) (by omega)
theorem orN {a b:Nat} (ha:a<9223372036854775808) (hb:b<9223372036854775808):rV .i64 (a:Int) (b:Int)=((a ||| b:Nat):Int):=by
 unfold rV
 have e:(BitVec.ofInt (IntKind.bits .i64) (a:Int) ||| BitVec.ofInt (IntKind.bits .i64) (b:Int)).toNat=a ||| b:=by
  rw [BitVec.toNat_or]
  show (BitVec.ofInt 64 (a:Int)).toNat ||| (BitVec.ofInt 64 (b:Int)).toNat=_
  rw [BitVec.toNat_ofInt,BitVec.toNat_ofInt]
  congr 1 <;> omega
 rw [e]
 have:a ||| b<2 ^ 63:=Nat.or_lt_two_pow (by omega) (by omega)
 exact wrap_i64 (by omega) (by omega)
theorem Ch {a k:Nat} (hk:k≤64) (h:a * 2 ^ k<9223372036854775808):shl .i64 (a:Int) (k:Int)=((a * 2 ^ k:Nat):Int):=by
 unfold shl
 rw [Int.toNat_natCast,show IntKind.bits .i64=64 from rfl,Nat.min_eq_left hk]
 have e:((a:Int) * 2 ^ k)=((a * 2 ^ k:Nat):Int):=by rw [Int.natCast_mul,Int.natCast_pow]; rfl
 rw [e]
 exact wrap_i64 (by omega) (by omega)
theorem ET {a k:Nat} (ha:a<9223372036854775808):shr .i64 (a:Int) (k:Int)=((a / 2 ^ k:Nat):Int):=by
 unfold shr
 rw [show IntKind.bits .i64=64 from rfl,Int.toNat_natCast,Int.fdiv_eq_ediv_of_nonneg _ (by exact Int.le_of_lt (Int.pow_pos (by decide)))]
 have e:a / 2 ^ k=a / 2 ^ (min k 64):=by
  rcases Nat.le_total k 64 with h | h
  ·rw [Nat.min_eq_left h]
  ·rw [Nat.min_eq_right h,Nat.div_eq_of_lt (Nat.lt_of_lt_of_le (show a<2 ^ 64 by omega) (Nat.pow_le_pow_right (by decide) h)),Nat.div_eq_of_lt (by omega)]
 rw [e,Int.natCast_ediv,Int.natCast_pow]
 rfl
def num:List B8→Nat
 | []=>0
 | b :: r=>b.toNat+256 * num r
theorem Wc (l m:List B8):num (l ++ m)=num l+2 ^ (8 * l.length) * num m:=by
 induction l with
 | nil=>simp [num]
 | cons a r ih=>
  simp only [List.cons_append,num,ih,List.length_cons,Nat.mul_add,Nat.mul_one,Nat.pow_add]
  rw [show (2:Nat) ^ 8=256 from rfl]
  generalize 2 ^ (8 * r.length)=p
  have:256 * (p * num m)=p * 256 * num m:=by rw [Nat.mul_comm p 256,Nat.mul_assoc]
  omega
theorem Y6 (l:List B8):num l<2 ^ (8 * l.length):=by
 induction l with
 | nil=>simp [num]
 | cons a r ih=>
  simp only [num,List.length_cons,Nat.mul_add,Nat.mul_one,Nat.pow_add]
  rw [show (2:Nat) ^ 8=256 from rfl]
  have:=a.isLt
  generalize 2 ^ (8 * r.length)=p at *
  omega
theorem afP (l:List B8) (k:Nat) (h:k<l.length):num (l.take (k+1))=num (l.take k)+2 ^ (8 * k) * (l.getD k 0).toNat:=by
 rw [List.take_succ_eq_append_getElem h,Wc,List.length_take,Nat.min_eq_left (by omega)]
 simp [num,h]
theorem ajF (l:List B8) (k:Nat) (h:k≤l.length):num l=num (l.take k)+2 ^ (8 * k) * num (l.drop k):=by
 have:=Wc (l.take k) (l.drop k)
 rw [List.take_append_drop,List.length_take,Nat.min_eq_left h] at this
 exact this
theorem Y7 (a r c p d:Nat) (h:p+d≤c):(a+2 ^ c * r) / 2 ^ p % 2 ^ d=a / 2 ^ p % 2 ^ d:=by
 obtain ⟨e,rfl⟩:=Nat.exists_eq_add_of_le h
 have e1:2 ^ (p+d+e) * r=2 ^ p * (2 ^ d * (2 ^ e * r)):=by rw [Nat.pow_add,Nat.pow_add]; simp only [Nat.mul_assoc]
 rw [e1,Nat.add_mul_div_left _ _ (Nat.pow_pos (by decide)),Nat.add_mul_mod_self_left]
def tS (N d i:Nat):Nat:=N / 2 ^ (d * i) % 2 ^ d
theorem ajG (l:List B8) (k d i:Nat) (hk:k≤l.length) (h:d * (i+1)≤8 * k):tS (num (l.take k)) d i=tS (num l) d i:=by
 unfold tS
 rw [ajF l k hk,Y7 _ _ _ _ _ (by rw [Nat.mul_succ] at h; exact h)]
theorem Y8 (N d i:Nat):tS N d i<2 ^ d:=Nat.mod_lt _ (Nat.pow_pos (by decide))
def unpack (d:Nat) (l:List B8):List Int:=(List.range (8 * l.length / d)).map fun i=>((tS (num l) d i:Nat):Int)
theorem akR (x d:Nat):x &&& (2 ^ d - 1)=x % 2 ^ d:=Nat.and_two_pow_sub_one_eq_mod x d
theorem X5 {x n y:Nat} (h:x<2 ^ n):x ||| (y * 2 ^ n)=x+y * 2 ^ n:=by
 rw [Nat.mul_comm y,Nat.or_comm,← Nat.two_pow_add_eq_or_of_lt h,Nat.add_comm]
end Go.Ev
end
section
set_option linter.unusedVariables false
set_option linter.unusedSimpArgs false
namespace Go.Ev
open Go Go.RowKit
theorem ak.add {w0 w:World} {S:List Nat} {L:List aD} {r:aD} (H:ak w0 S w L) (hr:r.ok w) (ho:∀ b∈r.fp,b∈S∨w0.heap.size≤b) (hd:∀ (k:Nat) (s:aD),L[k]? = some s→∀ b∈s.fp,b∉r.fp):ak w0 S w (L ++ [r]):=by
 have e:∀ {k:Nat} {s:aD},(L ++ [r])[k]? = some s→(L[k]? = some s∧k<L.length)∨(s=r∧k=L.length):=fun {k s} h=>by
  rcases Nat.lt_or_ge k L.length with hk | hk
  ·rw [List.getElem?_append_left hk] at h; exact .inl ⟨h,hk⟩
  ·rw [List.getElem?_append_right hk] at h
   rcases Nat.eq_zero_or_pos (k - L.length) with e | e
   ·rw [e] at h; simp at h; exact .inr ⟨h.symm,by omega⟩
   ·rw [List.getElem?_eq_none (by simp; omega)] at h; cases h
 refine ⟨H.mod,fun k s hs=>?_,fun k s hs b hb=>?_,fun j k s t k9 hs ht b hb iK=>?_⟩
 ·rcases e hs with ⟨h,_⟩ | ⟨rfl,_⟩
  ·exact H.ok k s h
  ·exact hr
 ·rcases e hs with ⟨h,_⟩ | ⟨rfl,_⟩
  ·exact H.own k s h b hb
  ·exact ho b hb
 ·rcases e hs with ⟨h,_⟩ | ⟨rfl,hj⟩
  ·rcases e ht with ⟨h',_⟩ | ⟨rfl,_⟩
   ·exact H.apart j k s t k9 h h' b hb iK
   ·exact hd j s h b hb iK
  ·rcases e ht with ⟨h',_⟩ | ⟨rfl,hk⟩
   ·exact hd k t h' b iK hb
   ·omega
theorem ak.anf {w0 w w':World} {S:List Nat} {L:List aD} {r s:aD} (H:ak w0 S w L) (m:Mod [] w w') (hr:r.ok w') (hs:s.ok w') (hrf:∀ b∈r.fp,w.heap.size≤b) (hsf:∀ b∈s.fp,w.heap.size≤b) (hd:∀ b∈r.fp,b∉s.fp):ak w0 S w' (L ++ [r,s]):=by
 have H1:=H.push m hr hrf
 have H2:=H1.add hs (fun b hb=>.inr (Nat.le_trans H.mod.size (hsf b hb))) fun k t ht b hb iK=>by
  rcases Nat.lt_or_ge k L.length with hk | hk
  ·rw [List.getElem?_append_left hk] at ht
   have:=t.lt w (H.ok k t ht) b hb
   have:=hsf b iK
   omega
  ·rw [List.getElem?_append_right hk] at ht
   rcases Nat.eq_zero_or_pos (k - L.length) with e | e
   ·rw [e] at ht; simp at ht; subst ht; exact hd b hb iK
   ·rw [List.getElem?_eq_none (by simp; omega)] at ht; cases ht
 rw [List.append_assoc] at H2
 exact H2
theorem ak.clone {P:Program} {w0 w:World} {S:List Nat} {L:List aD} (H:ak w0 S w L) {t ty e:TypeId} {sz bytes:Nat} {x:ah} {us:List Value} {K:ah→World→Prop} (cA:e6 P t e sz bytes) (hx:Sl w x sz us) (h1:∀ u∈us,ek u=true) (hm:x.n * bytes≤140737488355328) (tN:x.n≤9223372036854775807)
  (h:∀ s' w',ak w0 S w' (L ++ [.row e sz s' us])→s'.n=x.n→K s' w'):cH P [t,t] ty [.slice none 0 0,.slice x.a x.n x.c] w K:=by
 have H1:=H.iZ e sz
 refine H1.app (s:=⟨none,0,0⟩) (vs:=[]) L.length cA (by simp) hx h1 (by rw [Nat.zero_add]; exact hm) (by rw [Nat.zero_add]; exact tN) fun s' w' H' hn=>h s' w' ?_ (by rw [hn]; exact Nat.zero_add _)
 rw [List.set_append_right _ _ (Nat.le_refl _),Nat.sub_self,List.nil_append] at H'
 exact H'
theorem ak.RG {P:Program} {w0 w:World} {S:List Nat} {L:List aD} (H:ak w0 S w L) {t ty e:TypeId} {x:ah} {us:List B8} {K:ah→World→Prop} (cA:e6 P t e 1 1) (hx:Bytes w x us) (hm:x.n≤10000000000000)
  (h:∀ s' w',ak w0 S w' (L ++ [.row e 1 s' (bp us)])→s'.n=x.n→K s' w'):cH P [t,t] ty [.slice none 0 0,.slice x.a x.n x.c] w K:=
 H.clone cA hx (W8 us) (by omega) (by omega) h
end Go.Ev
namespace Go.Proofs.YtgjoehgomjgckaaGreatDoor
open Go Go.Ev
def gm (w:World) (e:Value) (c:Int):Prop:=(e=.nilIface∧c=0)∨∃ b s,e=.iface ju (.pointer (some ⟨b,0,none⟩))∧bW w b [.int .i64 c,.string s] oW∧c≠0
def EU:Value→List Nat
 | .iface _ (.pointer (some a))=>[a.block]
 | _=>[]
def aD.err (e:Value) (c:Int):aD where
 fp:=EU e
 ok w:=gm w e c
 kD w w' h k:=by
  rcases k with k | ⟨b,s,rfl,hb,hc⟩
  ·exact .inl k
  ·exact .inr ⟨b,s,rfl,(h b (by simp [EU])).trans hb,hc⟩
 lt w h b hb:=by
  rcases h with ⟨rfl,_⟩ | ⟨a,s,rfl,h,_⟩
  ·cases hb
  ·simp only [EU,List.mem_singleton] at hb; subst hb; exact h.lt
def cO (w w':World) (e:Value) (c:Int):Prop:=gm w' e c∧∀ b∈EU e,w.heap.size≤b
theorem cO.zero (w w':World):cO w w' .nilIface 0:=⟨.inl ⟨rfl,rfl⟩,fun b hb=>by cases hb⟩
theorem cO.mk {w w':World} {b:Nat} {c:Int} {s:ByteArray} (h:bW w' b [.int .i64 c,.string s] oW) (hb:w.heap.size≤b) (hc:c≠0):cO w w' (.iface ju (.pointer (some ⟨b,0,none⟩))) c:=
 ⟨.inr ⟨b,s,rfl,h,hc⟩,fun a ha=>by simp only [EU,List.mem_singleton] at ha; subst ha; exact hb⟩
theorem cO.from {w0 w w':World} {e:Value} {c:Int} (h:cO w w' e c) (hs:w0.heap.size≤w.heap.size):cO w0 w' e c:=⟨h.1,fun b hb=>Nat.le_trans hs (h.2 b hb)⟩
theorem gm.mod {w w':World} {e:Value} {c:Int} (h:gm w e c) (m:Mod [] w w'):gm w' e c:=by
 rcases h with k | ⟨b,s,rfl,hb,hc⟩
 ·exact .inl k
 ·exact .inr ⟨b,s,rfl,hb.aE m,hc⟩
theorem gm.isNil {w:World} {e:Value} {c:Int} (h:gm w e c) {K:Bool→Prop} (hk:K (decide (c=0))):fB e K:=by
 rcases h with ⟨rfl,rfl⟩ | ⟨b,s,rfl,_,hc⟩
 ·exact hk
 ·rw [decide_eq_false hc] at hk; exact hk
theorem NT (e:Value) (c:Int) (w:World) (hg:Laid w) (h:gm w e c):Ok Pr yF [e] w fun v w'=>v=.int .i64 c∧Mod [] w w':=by
 rcases h with ⟨rfl,rfl⟩ | ⟨b,s,rfl,hb,hc⟩
 ·refine (agI w).mono ?_
  rintro _ _ ⟨rfl,rfl⟩
  exact ⟨rfl,Mod.refl _ _⟩
 ·exact ahd b c s w hg hb hc
def jy (e:TypeId) (sz:Nat) (w w':World) (v:Value) (vs:List Value) (c:Int):Prop:=
 ∃ (y:ah) (er:Value),v=.tuple ⟨[.slice y.a y.n y.c,er]⟩∧Own w' w.heap.size e sz y vs∧cO w w' er c∧(c≠0→y=⟨none,0,0⟩)∧Mod [] w w'
theorem jy.no {e:TypeId} {sz:Nat} {w w':World} {er:Value} {c:Int} (h:cO w w' er c) (m:Mod [] w w'):jy e sz w w' (.tuple ⟨[.slice none 0 0,er]⟩) [] c:=
 ⟨⟨none,0,0⟩,er,rfl,Own.nil _ _ _ _,h,fun _=>rfl,m⟩
theorem jy.yes {e:TypeId} {sz:Nat} {w w':World} {y:ah} {vs:List Value} (h:Own w' w.heap.size e sz y vs) (m:Mod [] w w'):jy e sz w w' (.tuple ⟨[.slice y.a y.n y.c,.nilIface]⟩) vs 0:=
 ⟨y,.nilIface,rfl,h,cO.zero _ _,fun h=>absurd rfl h,m⟩
theorem _root_.Go.Ev.ak.SJ {w0 w w':World} {S:List Nat} {L:List aD} (H:ak w0 S w L) {e:TypeId} {sz:Nat} {y:ah} {er:Value} {vs:List Value} {c:Int} (m:Mod [] w w') (hy:Own w' w.heap.size e sz y vs) (he:cO w w' er c) (hn:c≠0→y=⟨none,0,0⟩) :
  ak w0 S w' (L ++ [.row e sz y vs,aD.err er c]):=
 ak.anf H m hy.lo he.1 (fun b hb=>(Own.D7 hy b hb).1) he.2 fun b hb iK=>by
  rcases he.1 with ⟨rfl,_⟩ | ⟨_,_,_,_,hc⟩
  ·cases iK
  ·rw [hn hc] at hb; cases hb
theorem _root_.Go.Ev.ak.err {w0 w:World} {S:List Nat} {L:List aD} (H:ak w0 S w L) (k:Nat) {e:Value} {c:Int} (hk:L[k]? = some (aD.err e c)):gm w e c:=H.ok k _ hk
theorem _root_.Go.Ev.ak.gG {w0 w w':World} {S:List Nat} {L:List aD} (H:ak w0 S w L) {er:Value} {c:Int} (m:Mod [] w w') (he:cO w w' er c):ak w0 S w' (L ++ [aD.err er c]):=H.push m he.1 he.2
theorem Bu:e6 Pr e9 bG 1 8:=e6.of (by kernel_rfl)
end Go.Proofs.YtgjoehgomjgckaaGreatDoor
end
section
set_option linter.unusedVariables false
set_option linter.unusedSimpArgs false
namespace Go.Ev
open Go Go.RowKit
theorem ak.alI {w0 w w':World} {S T:List Nat} {L:List aD} (H:ak w0 S w L) (k:Nat) {r r' n:aD} (hk:L[k]? = some r) (m:Mod T w w') (hT:∀ b∈T,b∈r.fp) (hr:r'.ok w') (hf:∀ b∈r'.fp,b∈r.fp) (hn:n.ok w') (Tq:∀ b∈n.fp,w.heap.size≤b) :
  ak w0 S w' (L.set k r' ++ [n]):=by
 have H':=H.iM k hk m (fun b hb=>.inl (hT b hb)) hr (fun b hb=>.inl (hf b hb))
 have old:∀ (j:Nat) (s:aD),(L.set k r')[j]? = some s→∀ b∈s.fp,b<w.heap.size:=by
  intro j s hs b hb
  rw [List.getElem?_set] at hs
  split at hs
  ·split at hs
   ·obtain rfl:=Option.some.inj hs
    exact r.lt w (H.ok k r hk) b (hf b hb)
   ·cases hs
  ·exact s.lt w (H.ok j s hs) b hb
 have e:∀ {j:Nat} {s:aD},(L.set k r' ++ [n])[j]? = some s→((L.set k r')[j]? = some s∧j<(L.set k r').length)∨(s=n∧j=(L.set k r').length):=fun {j s} h=>by
  rcases Nat.lt_or_ge j (L.set k r').length with hj | hj
  ·rw [List.getElem?_append_left hj] at h; exact .inl ⟨h,hj⟩
  ·rw [List.getElem?_append_right hj] at h
   rcases Nat.eq_zero_or_pos (j - (L.set k r').length) with e | e
   ·rw [e] at h; simp at h; exact .inr ⟨h.symm,by omega⟩
   ·rw [List.getElem?_eq_none (by simp at e ⊢; omega)] at h; cases h
 refine ⟨H'.mod,fun j s hs=>?_,fun j s hs b hb=>?_,fun i j s t Ap hs ht b hb iK=>?_⟩
 ·rcases e hs with ⟨h,_⟩ | ⟨rfl,_⟩
  ·exact H'.ok j s h
  ·exact hn
 ·rcases e hs with ⟨h,_⟩ | ⟨rfl,_⟩
  ·exact H'.own j s h b hb
  ·exact .inr (Nat.le_trans H.mod.size (Tq b hb))
 ·rcases e hs with ⟨h,hi⟩ | ⟨rfl,hi⟩
  ·rcases e ht with ⟨h',_⟩ | ⟨rfl,_⟩
   ·exact H'.apart i j s t Ap h h' b hb iK
   ·have:=old i s h b hb; have:=Tq b iK; omega
  ·rcases e ht with ⟨h',_⟩ | ⟨rfl,hj⟩
   ·have:=old j t h' b iK; have:=Tq b hb; omega
   ·omega
theorem eY.ofs {w:World} {S:List Nat} {b:Nat} {ss:List ah} {ls:List (List B8)} {t:TypeId} (h:bW w b (ss.map ah.v) t) (hb:b∉S) (hl:ss.length=ls.length) (hx:∀ (i:Nat) (x:ah) (l:List B8),ss[i]? = some x→ls[i]? = some l→Bytes w x l∧off S x) :
  eY w S ⟨some ⟨b,0,none⟩,ss.length,ss.length⟩ ls:=
 ⟨ss,(by
  have:=h.sl 1 ss.length ss.length (by simp) (by omega)
  rw [Nat.mul_one,List.take_of_length_le (by simp)] at this
  exact this),fun _ a ha=>by simp only [Option.some.injEq] at ha; subst ha; exact hb,hl,hx⟩
theorem eY.zG {w:World} {S:List Nat} {b:Nat} {x y:ah} {l m:List B8} {t:TypeId} (h:bW w b [x.v,y.v] t) (hb:b∉S) (hx:Bytes w x l) (ox:off S x) (hy:Bytes w y m) (oy:off S y):eY w S ⟨some ⟨b,0,none⟩,2,2⟩ [l,m]:=
 eY.ofs (ss:=[x,y]) h hb rfl fun i z k hz hk=>by
  match i with
  | 0=>
   simp only [List.getElem?_cons_zero,Option.some.injEq] at hz hk
   subst hz hk; exact ⟨hx,ox⟩
  | 1=>
   simp only [List.getElem?_cons_succ,List.getElem?_cons_zero,Option.some.injEq] at hz hk
   subst hz hk; exact ⟨hy,oy⟩
  | i+2=>simp at hz
theorem eY.ld0 {w0 w:World} {S:List Nat} {s:ah} {ls:List (List B8)} (h:eY w0 S s ls) (m:Mod S w0 w) {i:Nat} (hi:i<ls.length) {K:ah→Prop} (hk:∀ x,Bytes w0 x (ls.getD i [])→off S x→K x) :
  aQ s.a (i:Int) s.n (ax (Addr.add (base s.a) (Int.toNat (i:Int) * 1)) w K):=by
 have hn:=h.len
 obtain ⟨ss,h1,h2,h3,h4⟩:=h.ex
 have Cy:=h1.mod m h2
 refine ⟨⟨h1.pre (by omega),by omega,by omega⟩,ss[i]'(by omega),?_,?_⟩
 ·rw [Int.toNat_natCast,Nat.mul_one]
  exact Cy.cell i _ (by simp [show i<ss.length by omega,ah.v])
 ·have:=h4 i (ss[i]'(by omega)) (ls.getD i []) (by simp [show i<ss.length by omega]) (by simp [hi])
  exact hk _ this.1 this.2
theorem ang {w w':World} {a:Addr} {v:Value} (h:w.cell? a=some v) (h':w'.cell? a=some v):kept a 1 w w':=fun j hj=>by
 have:j=0:=by omega
 subst this
 have e:a.add 0=a:=by unfold Addr.add; split <;> simp_all
 rw [e,h,h']
theorem ak.only {w0 w:World} {S:List Nat} {L:List aD} (H:ak w0 S w L) (k:Nat) {r:aD} (hk:L[k]? = some r):ak w0 S w [r]:=
 ⟨H.mod,fun j s hs=>by
  match j with
  | 0=>simp at hs; subst hs; exact H.ok k _ hk
  | j+1=>simp at hs,fun j s hs=>by
  match j with
  | 0=>simp at hs; subst hs; exact H.own k _ hk
  | j+1=>simp at hs,fun i j s t Ap hs ht=>by
  match i,j with
  | 0,0=>exact absurd rfl Ap
  | 0,j+1=>simp at ht
  | i+1,_=>simp at hs⟩
theorem ak.two {w0 w:World} {S:List Nat} {L:List aD} (H:ak w0 S w L) (k l:Nat) {r s:aD} (hk:L[k]? = some r) (hl:L[l]? = some s) (bM:k≠l):ak w0 S w [r,s]:=
 (H.only k hk).add (H.ok l _ hl) (H.own l _ hl) fun j u hj b hb=>by
  match j with
  | 0=>
   simp at hj; subst hj
   exact H.apart k l _ _ bM hk hl b hb
  | j+1=>simp at hj
theorem ak.QZ {w0 w:World} {S:List Nat} {L:List aD} (H:ak w0 S w L) (k:Nat) {b:Nat} {l:List B8} {t:TypeId} (hk:L[k]? = some (.av b (bp l) t)):Bytes w ⟨some ⟨b,0,none⟩,l.length,l.length⟩ l:=by
 have:=(H.av k hk).sl 1 l.length l.length (by simp) (Nat.le_refl _)
 rw [Nat.mul_one,List.take_of_length_le (by simp)] at this
 exact this
theorem UD {P:Program} (w:World) (t ti ty e:TypeId) (i:TypeInfo) (z:Value) {k:IntKind} (ht:P.underlying t=some (.slice e)) (qP:P.underlying ti=some (.int k)) (hi:P.info? e=some i) (hz:i.zero=some z)
  (g tH Jr m:Nat) (cur:Array Value) (hg:w.heap[g]? = some (.cells cur e (0,0))) (hs:i.size=1) (v:Value) (pQ:z.cells=#[v]) (hv:v.oneCell'=true) (hm:m * i.bytes≤281474976710656) (tN:m<9223372036854775808)
  (oD:tH+m≤Jr) (Js:tH+m≤cur.size) :
  (Builtin.append_ #[t,ti] ty #[.slice (some ⟨g,0,none⟩) tH Jr,.int .i64 (m:Int)]).run P w =
   .ok (.slice (some ⟨g,0,none⟩) (tH+m) Jr) (w.setRow g (cur.toList.take tH ++ List.replicate m v ++ cur.toList.drop (tH+m)).toArray):=by
 have FC:IntKind.wrap .i64 (m:Int)=(m:Int):=wrap_i64 (by omega) (by omega)
 have hle:¬ ((m:Int) * (i.bytes:Int) > 2 ^ 48):=by
  have e1:((m:Int) * (i.bytes:Int))=((m * i.bytes:Nat):Int):=by rw [Int.natCast_mul]
  rw [e1,show (2:Int) ^ 48=281474976710656 by decide]
  omega
 have an4:¬ (281474976710656<(m:Int) * (i.bytes:Int)):=fun h=>hle (by rw [show (2:Int) ^ 48=281474976710656 by decide]; exact h)
 have jO:(Builtin.zeroCells z.cells m).toList=List.replicate m v:=by
  unfold Builtin.zeroCells
  rw [pQ]
  refine List.ext_getElem (by simp) fun j h1 h2=>?_
  simp [Nat.mod_one]
 have nO:=run_storeCells_at (P:=P) g (tH * i.size) e (List.replicate m v) 0 cur w hg (by rw [hs,List.length_replicate]; omega) fun u hu=>by rw [List.eq_of_mem_replicate hu]; exact hv
 simp only [Nat.add_zero,hs,Nat.mul_one,List.length_replicate] at nO
 rcases Nat.eq_zero_or_pos m with rfl | h0
 ·have qF:(w.setRow g (cur.toList.take tH ++ List.replicate 0 v ++ cur.toList.drop (tH+0)).toArray)=w:=by
   have:=setRow_self w g cur e (0,0) hg
   simpa using this
  rw [qF]
  simp [Builtin.append_,run_underlying ht,run_underlying qP,Go.sizeOf,Go.typeInfo,hi,asInt,asIntOf,show tH≤Jr by omega,storeCells,show IntKind.wrap .i64 0=0 by decide]
 ·have iJ:¬ m * i.size=0:=by rw [hs]; omega
  simp [Builtin.append_,run_underlying ht,run_underlying qP,Go.sizeOf,Go.typeInfo,hi,asInt,asIntOf,FC,show ¬ ((m:Int)<0) by omega,an4,oD,hs,zeroValue,hz,jO,Addr.add_lit,nO,show ¬ m=0 by omega]
theorem ak.an5 {P:Program} {w0 w:World} {S:List Nat} {L:List aD} (H:ak w0 S w L) (k:Nat) {t ti ty e:TypeId} {q:IntKind} {bytes b n c m:Nat} {x:Int} {v:Value} {cs:List Value} {K:ah→World→Prop} (cA:e6 P t e 1 bytes) (qP:P.underlying ti=some (.int q)) (hz:zc P e=[v]) (hv:ek v=true)
  (hk:L[k]? = some (.av b cs e)) (hx:x=(m:Int)) (jm:cs.length=c) (oD:n+m≤c) (hm:m * bytes≤281474976710656) (tN:m<9223372036854775808)
  (h:∀ w',ak w0 S w' (L.set k (.av b (cs.take n ++ List.replicate m v ++ cs.drop (n+m)) e))→K ⟨some ⟨b,0,none⟩,n+m,c⟩ w'):cH P [t,ti] ty [.slice (some ⟨b,0,none⟩) n c,.int .i64 x] w K:=by
 subst hx
 obtain ⟨i,z,hi,CF,jN,oM,jO⟩:=cA.info
 have pQ:z.cells=#[v]:=by
  have:z.cells.toList=[v]:=by
   have h2:zc P e=z.cells.toList:=by unfold zc; rw [hi]; simp only [CF]
   rw [← h2]; exact hz
  rw [← Array.toArray_toList (xs:=z.cells),this]
 have j6:v.oneCell'=true:=by cases v <;> first | rfl | cases hv
 have hr:=UD (P:=P) w t ti ty e i z cA.rW qP hi CF b n c m ⟨cs⟩ (H.av k hk) jN v pQ j6 (by rw [oM]; exact hm) tN oD (by show n+m≤cs.length; omega)
 refine ⟨_,_,hr,⟨some ⟨b,0,none⟩,n+m,c⟩,rfl,h _ ?_⟩
 exact H.iM (T:=[b]) k hk ⟨rfl,rfl,rfl,by simp,fun j _ hj=>setRow_other w b j _ (fun e=>hj (by simp [e]))⟩ (fun c hc=>.inl hc) (setRow_heap w b _ _ e _ (H.av k hk)) (fun c hc=>.inl hc)
end Go.Ev
namespace Go.Proofs.YtgjoehgomjgckaaGreatDoor
open Go Go.Ev
set_option linter.unusedVariables false
theorem ahe {az:Nat} {aR:B8} {dy:Bool} {s:List aI×Nat} (h:if dy then tr az s else Fits az s):tr az (ready az aR dy s):=by
 cases dy with
 | true=>exact h
 | false=>exact ⟨(wA _ _ _).trans ((wA _ _ _).trans h.1),Nat.le_refl _⟩
theorem RH {parts:ah} {l:List B8} (hn:parts.n=1) (hl:l.length≤1000000):Small parts [l]:=⟨by omega,fun m hm=>by rw [List.mem_singleton.1 hm]; omega⟩
theorem sV (az:Nat) (aR:B8) (l:List B8) (n:Nat) (h:n≤1048576):(eZ az aR l (n:Int)).length=n:=by
 unfold eZ
 split
 ·rw [Int.toNat_natCast,afJ]
 ·simp only [List.length_nil]; omega
theorem OZ (az:Nat) (s:List aI×Nat) (m n:Nat):cL az s (m+n)=((cL az s m).1 ++ (cL az (cL az s m).2 n).1,(cL az (cL az s m).2 n).2):=by
 induction n with
 | zero=>simp [cL,akL]
 | succ n ih=>
  rw [← Nat.add_assoc,AU,ih,AU]
  simp [zF,List.append_assoc]
theorem _root_.Go.Ev.ak.alJ {w0 w:World} {S:List Nat} {L:List aD} (H:ak w0 S w L) (k:Nat) {b az:Nat} {s:List aI×Nat} {aR:B8} (hk:L[k]? = some (jB b s.1 az s.2 aR false)) (hr:az≤192) (hs:Fits az s) {parts:ah} {ls:List (List B8)}
  (hp:eY w [b] parts ls) (Eh:Small parts ls) {K:Value→World→Prop} (h:∀ w',Mod [b] w w'→ak w0 S w' (L.set k (jB b (eu az s ls.flatten).1 az (eu az s ls.flatten).2 aR false))→K .nilIface w') :
  ay Pr CY [.pointer (some ⟨b,0,none⟩),.slice parts.a parts.n parts.c] w K:=by
 refine aB (UM hr hs b parts ls _ (H.av k hk) hp Eh) ?_
 rintro _ w1 ⟨rfl,h1,m1⟩
 exact h w1 m1 (H.iM k hk m1 (fun c hc=>.inl hc) h1 (fun c hc=>.inl hc))
theorem ZR {az:Nat} (h:8≤az):Fits az ((fX,0):List aI×Nat):=⟨rfl,by show 0<az; omega⟩
def rY (az:Nat) (aR:B8) (s:List aI×Nat) (m:Nat):List aI×Nat:=if m=0 then s else (cL az (close az aR s) m).2
def vF (m:Nat):Bool:=decide (0<m)
theorem aiI (az:Nat) (aR:B8) (s:List aI×Nat) (m:Nat):ready az aR (vF m) (rY az aR s m)=(cL az (close az aR s) m).2:=by
 unfold rY vF ready
 rcases Nat.eq_zero_or_pos m with rfl | h
 ·rfl
 ·rw [if_pos (by simp; omega),if_neg (by omega)]
theorem alK {az:Nat} {aR:B8} {s:List aI×Nat} (hr:8≤az) (hs:Fits az s) (m:Nat):if vF m=true then tr az (rY az aR s m) else Fits az (rY az aR s m):=by
 unfold rY vF
 rcases Nat.eq_zero_or_pos m with rfl | h
 ·simpa using hs
 ·rw [if_neg (show ¬ m=0 by omega),if_pos (by simp [h])]
  exact (ahe (dy:=false) hs).cL (by omega) m
theorem akS {parts:ah} {ls:List (List B8)} (hn:parts.n<1000000) (h:∀ l∈ls,l.length≤1000000):Small parts ls:=⟨hn,fun l hl=>by have:=h l hl; omega⟩
theorem y7 {parts:ah} {l m:List B8} (hn:parts.n=2) (hl:l.length≤1000000) (hm:m.length≤1000000):Small parts [l,m]:=akS (by omega) fun k hk=>by
 simp only [List.mem_cons,List.not_mem_nil,or_false] at hk
 rcases hk with rfl | rfl <;> omega
theorem yD (n:Int):IntKind.wrap .u8 n=((BitVec.ofInt 8 n).toNat:Int):=by
 rw [wrap_u8,BitVec.toNat_ofInt]
 omega
end Go.Proofs.YtgjoehgomjgckaaGreatDoor
end
section
set_option linter.unusedVariables false
set_option linter.unusedSimpArgs false
namespace Go.Ev
open Go
set_option maxRecDepth 20000
set_option linter.unusedVariables false
theorem ak.join {w0 w w':World} {S:List Nat} {L L2:List aD} (H:ak w0 S w L) (H2:ak w [] w' L2):ak w0 S w' (L ++ L2):=by
 have HF:=H.frame H2.mod
 have SL:∀ (k:Nat) (r:aD),L2[k]? = some r→∀ b∈r.fp,w.heap.size≤b:=fun k r hk b hb=>(H2.own k r hk b hb).resolve_left (by simp)
 have lt1:∀ (k:Nat) (r:aD),L[k]? = some r→∀ b∈r.fp,b<w.heap.size:=fun k r hk b hb=>r.lt w (H.ok k r hk) b hb
 have split:∀ (k:Nat) (r:aD),(L ++ L2)[k]? = some r→(k<L.length∧L[k]? = some r)∨(L.length≤k∧L2[k - L.length]? = some r):=fun k r hk=>by
  rcases Nat.lt_or_ge k L.length with h | h
  ·rw [List.getElem?_append_left h] at hk; exact .inl ⟨h,hk⟩
  ·rw [List.getElem?_append_right h] at hk; exact .inr ⟨h,hk⟩
 refine ⟨HF.mod,fun k r hk=>?_,fun k r hk b hb=>?_,fun j k r s k9 hj hk b hb xO=>?_⟩
 ·rcases split k r hk with ⟨_,h⟩ | ⟨_,h⟩
  ·exact HF.ok k r h
  ·exact H2.ok _ r h
 ·rcases split k r hk with ⟨_,h⟩ | ⟨_,h⟩
  ·exact HF.own k r h b hb
  ·exact .inr (Nat.le_trans H.mod.size (SL _ r h b hb))
 ·rcases split j r hj with ⟨h0,h⟩ | ⟨h0,h⟩ <;> rcases split k s hk with ⟨h1,h'⟩ | ⟨h1,h'⟩
  ·exact HF.apart j k r s k9 h h' b hb xO
  ·have:=lt1 j r h b hb
   have:=SL _ s h' b xO
   omega
  ·have:=lt1 k s h' b xO
   have:=SL _ r h b hb
   omega
  ·exact H2.apart _ _ r s (by omega) h h' b hb xO
theorem afQ {z:Value} {v:Value} (hz:z.cells=#[v]) (m:Nat):(Builtin.zeroCells z.cells m).toList=List.replicate m v:=by
 unfold Builtin.zeroCells
 rw [hz]
 refine List.ext_getElem (by simp) fun j h1 h2=>?_
 simp [Nat.mod_one]
section
variable {P:Program}
theorem ajH {t ti ty e:TypeId} {q:IntKind} {bytes lo m:Nat} {s:ah} {v:Value} {vs:List Value} {w:World} (cA:e6 P t e 1 bytes) (qP:P.underlying ti=some (.int q)) (hz:zc P e=[v]) (hv:ek v=true) (hs:Own w lo e 1 s vs)
  (hb:(s.n+m) * bytes≤140737488355328) (hm:s.n+m≤1000000000) (oK:lo≤w.heap.size) :
  ∃ s':ah,∃ w',(Builtin.append_ #[t,ti] ty #[s.v,.int .i64 (m:Int)]).run P w=.ok s'.v w'∧Own w' lo e 1 s' (vs ++ List.replicate m v)∧Mod s.row w w'∧s'.n=s.n+m∧(∀ b∈s'.row,b∈s.row∨w.heap.size≤b):=by
 obtain ⟨i,z,hi,CF,jN,oM,jO⟩:=cA.info
 have pQ:z.cells=#[v]:=by
  have:z.cells.toList=[v]:=by
   have h2:zc P e=z.cells.toList:=by unfold zc; rw [hi]; simp only [CF]
   rw [← h2]; exact hz
  rw [← Array.toArray_toList (xs:=z.cells),this]
 have j6:v.oneCell'=true:=by cases v <;> first | rfl | cases hv
 have FD:m * i.bytes≤281474976710656:=by
  rw [oM]
  have:m * bytes≤(s.n+m) * bytes:=Nat.mul_le_mul_right _ (by omega)
  omega
 obtain ⟨sa,sn,sc⟩:=s
 dsimp only at hb hm
 have grow:∀ (ba:Option Addr),sc<sn+m→0<m→vs.length=sn→(Builtin.firstCells i.size sn (.slice ba sn sc)).run P w.drew=.ok vs.toArray w.drew→∃ s':ah,∃ w',(Builtin.append_ #[t,ti] ty #[.slice ba sn sc,.int .i64 (m:Int)]).run P w=.ok s'.v w'∧Own w' lo e 1 s' (vs ++ List.replicate m v)∧Mod (ah.row ⟨sa,sn,sc⟩) w w'∧s'.n=sn+m∧(∀ b∈s'.row,b∈ah.row ⟨sa,sn,sc⟩∨w.heap.size≤b):=by
  intro ba hg h0 vB hold
  have hr:=Go.Lib.run_append_grow_zeros (P:=P) w t ti ty e i z .i64 q cA.rW qP hi CF ba sn sc vs hold m h0 (by omega) hg (by omega) FD (growslice_fits hg (by rw [oM]; exact hb))
  have vC:=grownCap_ge w (sn+m) sc e
  have vA:grownCap w (sn+m) sc e≤maxLen:=grownCap_le_maxLen w (sn+m) sc e (by simp only [maxLen]; omega)
  refine ⟨⟨some ⟨w.heap.size,0,none⟩,sn+m,grownCap w (sn+m) sc e⟩,_,hr,⟨?_,.inr ⟨w.heap.size,_,_,rfl,oK,heap_alloc_new w.drew _,vC,vA,?_,?_⟩⟩,(Mod.drew _ w).trans (Mod.alloc _ w.drew _),rfl,?_⟩
  ·rw [List.length_append,List.length_replicate]; show vs.length+m=(sn+m) * 1; omega
  ·simp only [Array.size_append,List.size_toArray,size_zeroCells,jO,vB]
   omega
  ·simp only [Array.toList_append,afQ pQ]
   rw [List.take_left' (by rw [List.length_append,List.length_replicate]; omega)]
  ·intro b hb
   simp only [ah.row,List.mem_singleton] at hb
   exact .inr (by omega)
 have vG:vs.length=sn:=by have:=hs.1; simpa using this
 rcases hs.2 with ⟨hv,hn⟩ | ⟨g,cap,cur,hv,hlg,hg,Cz,vA,jm,BT⟩
 ·simp only [ah.v,Value.slice.injEq] at hv
  obtain ⟨rfl,rfl,rfl⟩:=hv
  rcases Nat.eq_zero_or_pos m with rfl | h0
  ·refine ⟨⟨none,0,0⟩,w,?_,by simpa using hs,Mod.refl _ _,rfl,fun b hb=>.inl hb⟩
   simp [ah.v,Builtin.append_,run_underlying cA.rW,run_underlying qP,Go.sizeOf,Go.typeInfo,hi,asInt,asIntOf,show IntKind.wrap .i64 0=0 by decide]
  ·have vB:vs=[]:=List.eq_nil_of_length_eq_zero vG
   subst vB
   exact grow none (by omega) h0 rfl (run_firstCells_none w.drew i.size 0 0 0)
 ·simp only [ah.v,Value.slice.injEq] at hv
  obtain ⟨rfl,-,rfl⟩:=hv
  by_cases oD:sn+m≤sc
  ·have hr:=UD (P:=P) w t ti ty e i z cA.rW qP hi CF g sn sc m cur hg jN v pQ j6 FD (by omega) oD (by omega)
   refine ⟨⟨some ⟨g,0,none⟩,sn+m,sc⟩,_,hr,⟨by rw [List.length_append,List.length_replicate]; show vs.length+m=(sn+m) * 1; omega,.inr ⟨g,sc,_,rfl,hlg,setRow_heap w g cur _ e (0,0) hg,oD,vA,?_,?_⟩⟩,⟨rfl,rfl,rfl,by simp,fun j _ hj=>setRow_other w g j _ (fun e=>hj (by simp [ah.row,e]))⟩,rfl,fun b hb=>.inl hb⟩
   ·simp only [List.size_toArray,List.length_append,List.length_take,List.length_replicate,List.length_drop,Array.length_toList]
    omega
   ·rw [Nat.mul_one] at BT
    show ((cur.toList.take sn ++ List.replicate m v ++ cur.toList.drop (sn+m)).toArray.toList.take ((sn+m) * 1))=_
    rw [List.toList_toArray,BT,Nat.mul_one,List.take_left' (by rw [List.length_append,List.length_replicate]; omega)]
  ·have holds:∀ j u,vs[j]? = some u→w.cell? ((⟨g,0,none⟩:Addr).add j)=some u:=World.ownsRow.cells (g:=g) hs rfl
   have ars:sn≤sc:=Cz
   have hm0:0<m:=by omega
   exact grow (some ⟨g,0,none⟩) (by omega) hm0 vG (run_firstCells_some (P:=P) w.drew i.size sn ⟨g,0,none⟩ sn sc vs (by rw [jN,Nat.mul_one]; exact vG) (by simpa using holds))
theorem ak.anh {w0 w:World} {S:List Nat} {L:List aD} (H:ak w0 S w L) (k:Nat) {t ti ty e:TypeId} {q:IntKind} {bytes m:Nat} {s:ah} {x:Int} {v:Value} {vs:List Value} {K:ah→World→Prop} (cA:e6 P t e 1 bytes) (qP:P.underlying ti=some (.int q)) (hz:zc P e=[v]) (hv:ek v=true)
  (hk:L[k]? = some (.row e 1 s vs)) (hx:x=(m:Int)) (hb:(s.n+m) * bytes≤140737488355328) (hm:s.n+m≤1000000000)
  (h:∀ s' w',ak w0 S w' (L.set k (.row e 1 s' (vs ++ List.replicate m v)))→s'.n=s.n+m→K s' w'):cH P [t,ti] ty [.slice s.a s.n s.c,.int .i64 x] w K:=by
 subst hx
 obtain ⟨s',w',hr,h2,h3,h4,h5⟩:=ajH (ty:=ty) cA qP hz hv (H.qE k hk) hb hm (Nat.zero_le _)
 exact ⟨_,w',hr,s',rfl,h s' w' (H.iM k hk h3 (fun b hb=>.inl hb) h2 h5) h4⟩
end
end Go.Ev
namespace Go.Proofs.YtgjoehgomjgckaaGreatDoor
open Go Go.Ev
set_option linter.unusedVariables false
end Go.Proofs.YtgjoehgomjgckaaGreatDoor
end
section
set_option linter.unusedVariables false
set_option linter.unusedSimpArgs false
namespace Go.Proofs.YtgjoehgomjgckaaGreatDoor
open Go Go.Ev
set_option maxRecDepth 20000
set_option linter.unusedVariables false
theorem tu {A:Type} {x:A} {K:A→Prop} (h:K x):lt x K:=h
def pz (o:List Int) (x:Int):List Int:=if x<8380417∧o.length<256 then o ++ [x] else o
end Go.Proofs.YtgjoehgomjgckaaGreatDoor
end
section
set_option linter.unusedVariables false
set_option linter.unusedSimpArgs false
namespace Go.Proofs.YtgjoehgomjgckaaGreatDoor
open Go Go.Ev
theorem DV:e6 Pr e9 bG 1 8:=e6.of (by kernel_rfl)
theorem BG:zc Pr bG=[.int .i64 0]:=by kernel_rfl
theorem ahf (d x:Nat) (hd:d≤62) (hx:x<9223372036854775808) (w:World):Ok Pr PI [.int .i64 (d:Int),.int .i64 (x:Int)] w fun v w'=>v=.int .i64 ((x % 2 ^ d:Nat):Int)∧w'=w:=by
 refine afE ?_
 unfold PM
 have h2:2 ^ d≤2 ^ 62:=Nat.pow_le_pow_right (by decide) hd
 have h1:0<2 ^ d:=Nat.pow_pos (by decide)
 have e:shl .i64 (1:Int) (d:Int)=((2 ^ d:Nat):Int):=by
  have:=Ch (a:=1) (k:=d) (by omega) (by omega)
  rw [Nat.one_mul] at this
  exact this
 rw [e,show (((2 ^ d:Nat):Int) - 1)=((2 ^ d - 1:Nat):Int) by omega]
 refine ite_false (by simp; omega) (kK (by omega) ⟨⟨by omega,by omega⟩,?_,rfl⟩)
 rw [SI hx (by omega),akR]
theorem GR (d:Nat) (qQ:1≤d) (hd:d≤24) (x:ah) (l:List B8) (hl:l.length≤1000000) (w:World) (hx:Bytes w x l) :
  Ok Pr AJ [.int .i64 (d:Int),.slice x.a x.n x.c] w fun v w'=>∃ y:ah,v=.slice y.a y.n y.c∧Own w' w.heap.size bG 1 y (cr (unpack d l))∧Mod [] w w':=by
 refine adF ?_
 unfold MW
 have bT:=hx.len
 refine ite_false (by simp; omega) ?_
 have p32:∀ n,n≤32→2 ^ n≤4294967296:=fun n hn=>by
  have:=Nat.pow_le_pow_right (n:=2) (by decide) hn
  exact this
 let f (m:Nat):List Int:=(List.range m).map fun i=>((tS (num l) d i:Nat):Int)
 refine Xm 0 l.length (fun k (out:ah) (held n:Int) w'=>∃ m:Nat,d * m≤8 * k∧8 * k<d * (m+1)∧n=((8 * k - d * m:Nat):Int)∧held=((num (l.take k) / 2 ^ (d * m):Nat):Int)∧out.n=m∧ak w [] w' [.row bG 1 out (cr (f m))]) rfl (by omega)
  ⟨0,by omega,by omega,by simp,by simp [num],rfl,(ak.start w).iZ bG 1⟩ ?_ ?_
 ·rintro again k out held n w1 _ hk ⟨m,CG,tN,rfl,rfl,nN,H⟩ aM
  have hmd:m≤d * m:=Nat.le_mul_of_pos_left m (by omega)
  have aal:d * (m+1)=d * m+d:=Nat.mul_succ d m
  have hb:=(l.getD k 0).isLt
  have hN:=Y6 (l.take k)
  rw [List.length_take,Nat.min_eq_left (by omega)] at hN
  refine ite_true (by simp; omega) ((hx.aE H.mod).ld hk ⟨⟨by omega,by omega⟩,kK (by omega) ?_⟩)
  have Cj:num (l.take k) / 2 ^ (d * m)<2 ^ (8 * k - d * m):=by
   rw [Nat.div_lt_iff_lt_mul (Nat.pow_pos (by decide)),← Nat.pow_add,Nat.sub_add_cancel CG]
   exact hN
  have hp:=p32 (8 * k - d * m) (by omega)
  have hx2:(l.getD k 0).toNat * 2 ^ (8 * k - d * m)<4294967296:=by
   have h1:2 ^ (8+(8 * k - d * m))≤4294967296:=p32 _ (by omega)
   rw [Nat.pow_add] at h1
   have h2:(l.getD k 0).toNat * 2 ^ (8 * k - d * m)<2 ^ 8 * 2 ^ (8 * k - d * m):=Nat.mul_lt_mul_of_pos_right hb (Nat.pow_pos (by decide))
   omega
  rw [Ch (by omega) (by omega),orN (by omega) (by omega),X5 Cj]
  have eh:num (l.take k) / 2 ^ (d * m)+(l.getD k 0).toNat * 2 ^ (8 * k - d * m)=num (l.take (k+1)) / 2 ^ (d * m):=by
   rw [afP l k hk,show 8 * k=d * m+(8 * k - d * m) by omega,Nat.pow_add,Nat.mul_assoc,Nat.add_mul_div_left _ _ (Nat.pow_pos (by decide)),Nat.add_sub_cancel_left,Nat.mul_comm (2 ^ (8 * k - d * m))]
  rw [eh]
  unfold lt
  refine ⟨⟨by omega,by omega⟩,?_⟩
  refine Io (fun (out:ah) (held n:Int) w'=>∃ m:Nat,d * m≤8 * (k+1)∧n=((8 * (k+1) - d * m:Nat):Int)∧n≤40∧held=((num (l.take (k+1)) / 2 ^ (d * m):Nat):Int)∧out.n=m∧ak w [] w' [.row bG 1 out (cr (f m))])
   (fun _ _ n _=>n.toNat) ⟨m,by omega,by omega,by omega,rfl,nN,H⟩ ?_
  rintro mu out held n w2 ⟨m,CG,rfl,art,rfl,nN,H⟩ jz
  have hmd:m≤d * m:=Nat.le_mul_of_pos_left m (by omega)
  have aal:d * (m+1)=d * m+d:=Nat.mul_succ d m
  refine bU (fun h=>?_) (fun h=>?_)
  ·have h:=of_decide_eq_true h
   have hN:=Y6 (l.take (k+1))
   rw [List.length_take,Nat.min_eq_left (by omega)] at hN
   have Cj:num (l.take (k+1)) / 2 ^ (d * m)<2 ^ (8 * (k+1) - d * m):=by
    rw [Nat.div_lt_iff_lt_mul (Nat.pow_pos (by decide)),← Nat.pow_add,Nat.sub_add_cancel CG]
    exact hN
   have hp:2 ^ (8 * (k+1) - d * m)≤2 ^ 40:=Nat.pow_le_pow_right (by decide) (by omega)
   refine aB (ahf d _ (by omega) (by omega) _) ?_
   rintro _ _ ⟨rfl,rfl⟩
   refine ey (H.Sj 0 DV rfl (by omega) fun k5 w3 H aru=>kK (by omega) ⟨⟨by omega,by omega⟩,?_⟩)
   rw [ET (by omega)]
   refine jz _ _ _ w3 ⟨m+1,by omega,by omega,by omega,?_,by omega,?_⟩ (by omega)
   ·rw [Nat.div_div_eq_div_mul,← Nat.pow_add,aal]
   ·have e:f (m+1)=f m ++ [((tS (num l) d m:Nat):Int)]:=by simp [f,List.range_succ]
    rw [e]
    have e2:num (l.take (k+1)) / 2 ^ (d * m) % 2 ^ d=tS (num l) d m:=ajG l (k+1) d m (by omega) (by omega)
    rw [e2] at H
    exact H
  ·have h:=of_decide_eq_false h
   refine ⟨⟨by omega,by omega⟩,aM _ _ _ w2 ⟨m,by omega,by omega,rfl,rfl,nN,H⟩⟩
 ·rintro again out held n w1 ⟨m,CG,tN,rfl,rfl,nN,H⟩
  refine ite_false (by rw [bT]; simp) ⟨out,rfl,?_,H.mod⟩
  have:8 * l.length / d=m:=by
   rw [Nat.div_eq_iff (by omega)]
   have:d * (m+1)=d * m+d:=Nat.mul_succ d m
   rw [Nat.mul_comm m d]
   omega
  unfold unpack
  rw [this]
  exact H.fN 0 rfl
def bit (l:List B8) (k:Nat):Nat:=tS (num l) 1 k
theorem alL (l:List B8) (k:Nat):bit l k≤1:=by have:=Y8 (num l) 1 k; unfold bit; omega
end Go.Proofs.YtgjoehgomjgckaaGreatDoor
end
section
set_option linter.unusedVariables false
set_option linter.unusedSimpArgs false
namespace Go.Ev
open Go Go.RowKit
variable {P:Program}
def strOf (l:List B8):ByteArray:=⟨(l.map UInt8.ofBitVec).toArray⟩
def bOf (s:ByteArray):List B8:=s.data.toList.map UInt8.toBitVec
theorem WI (l:List B8):bOf (strOf l)=l:=by
 unfold bOf strOf
 simp only [List.map_map]
 exact List.map_id' l
theorem aiJ {l m:List B8}:strOf l=strOf m↔l=m:=⟨fun h=>by rw [← WI l,h,WI],fun h=>by rw [h]⟩
theorem Y9 {w:World} {x:ah} {l:List B8} {K:ByteArray→World→Prop} (hx:Bytes w x l) (h:K (strOf l) w):Jl P x w K:=by
 obtain ⟨xa,xn,xc⟩:=x
 have hl:=hx.len
 dsimp only at hl
 cases xa with
 | none=>
  have h0:xn=0:=by
   rcases Nat.eq_zero_or_pos xn with e | e
   ·exact e
   ·cases Sl.pre hx e
  have hu:l=[]:=List.eq_nil_of_length_eq_zero (by omega)
  subst hu
  exact ⟨_,w,rfl,_,rfl,h⟩
 | some a=>
  have hc:=run_loadCells_list (P:=P) w a ((l.map fun b=>(b.toNat:Int)).map (Value.int .u8)) (fun j v hj=>by
   refine Sl.cell hx j v ?_
   rw [← hj]
   congr 1
   simp [bp,u8])
  simp only [List.length_map] at hc
  have hr:=run_bytesToString (P:=P) w a l.length xc _ hc
  rw [hl] at hr
  refine ⟨_,w,hr,_,rfl,?_⟩
  have e:(l.map fun b=>(b.toNat:Int))=(l.map UInt8.ofBitVec).map (fun b=>(b.toNat:Int)):=by
   rw [List.map_map]
   rfl
  rw [e,foldl_push_byteCells]
  have:(⟨ByteArray.empty.data ++ (l.map UInt8.ofBitVec).toArray⟩:ByteArray)=strOf l:=by
   unfold strOf
   congr 1
   exact Array.empty_append
  rw [this]
  exact h
end Go.Ev
namespace Go.Ev
open Go Go.RowKit
variable {P:Program}
end Go.Ev
end
section
set_option linter.unusedVariables false
set_option linter.unusedSimpArgs false
namespace Go.Ev
open Go Go.RowKit
set_option linter.unusedVariables false
theorem ak.fW {w0 w:World} {S:List Nat} {L:List aD} (H:ak w0 S w L) (k:Nat) {b i:Nat} {a:Addr} {n:ByteArray} {cs:List Value} {t:TypeId} {K:ByteArray→Prop} (hk:L[k]? = some (.av b cs t)) (ha:a=⟨b,i,none⟩) (hv:cs[i]? = some (.string n)) (h:K n):fW a w K:=
 ⟨n,H.cell k hk ha hv,h⟩
end Go.Ev
namespace Go.Proofs.YtgjoehgomjgckaaGreatDoor
open Go Go.Ev
set_option linter.unusedVariables false
set_option linter.unusedSimpArgs false
@[reducible] def HL (c0:Int) (c1:Int) (c2:Int) (c3:Int) (c4:Int) (c5:Int) (c6:Int) (c7:Int) (c8:Int) (c9:Int) (jP:Int) (jQ:ByteArray) (gC:ah) (gD:ah):List Value:=[.int .i64 c0,.int .i64 c1,.int .i64 c2,.int .i64 c3,.int .i64 c4,.int .i64 c5,.int .i64 c6,.int .i64 c7,.int .i64 c8,.int .i64 c9,.int .i64 jP,.string jQ,.slice gC.a gC.n gC.c,.slice gD.a gD.n gD.c]
theorem Dh {a:Addr} {w:World} {c0:Int} {c1:Int} {c2:Int} {c3:Int} {c4:Int} {c5:Int} {c6:Int} {c7:Int} {c8:Int} {c9:Int} {jP:Int} {jQ:ByteArray} {gC:ah} {gD:ah} {K:Int→Int→Int→Int→Int→Int→Int→Int→Int→Int→Int→ByteArray→ah→ah→Prop} (h:∀ (i:Nat) (v:Value),(HL c0 c1 c2 c3 c4 c5 c6 c7 c8 c9 jP jQ gC gD)[i]? = some v→w.cell? (Addr.add a i)=some v) (hK:K c0 c1 c2 c3 c4 c5 c6 c7 c8 c9 jP jQ gC gD):iX a w K:=
 ⟨_,h 0 _ rfl,⟨_,h 1 _ rfl,⟨_,h 2 _ rfl,⟨_,h 3 _ rfl,⟨_,h 4 _ rfl,⟨_,h 5 _ rfl,⟨_,h 6 _ rfl,⟨_,h 7 _ rfl,⟨_,h 8 _ rfl,⟨_,h 9 _ rfl,⟨_,h 10 _ rfl,⟨_,h 11 _ rfl,⟨gC,h 12 _ rfl,⟨gD,h 13 _ rfl,hK⟩⟩⟩⟩⟩⟩⟩⟩⟩⟩⟩⟩⟩⟩
theorem _root_.Go.Ev.ak.iX {w0 w:World} {S:List Nat} {L:List aD} (H:ak w0 S w L) (k:Nat) {b:Nat} {t:TypeId} {c0:Int} {c1:Int} {c2:Int} {c3:Int} {c4:Int} {c5:Int} {c6:Int} {c7:Int} {c8:Int} {c9:Int} {jP:Int} {jQ:ByteArray} {gC:ah} {gD:ah} {K:Int→Int→Int→Int→Int→Int→Int→Int→Int→Int→Int→ByteArray→ah→ah→Prop} (hk:L[k]? = some (.av b (HL c0 c1 c2 c3 c4 c5 c6 c7 c8 c9 jP jQ gC gD) t)) (hK:K c0 c1 c2 c3 c4 c5 c6 c7 c8 c9 jP jQ gC gD):iX ⟨b,0,none⟩ w K:=
 Dh (fun i v hv=>H.cell k hk (au b i) hv) hK
theorem _root_.Go.Ev.ak.HI {w0 w:World} {S:List Nat} {L:List aD} (H:ak w0 S w L) (k:Nat) {b:Nat} {t:TypeId} {cs:List Value} {c0:Int} {c1:Int} {c2:Int} {c3:Int} {c4:Int} {c5:Int} {c6:Int} {c7:Int} {c8:Int} {c9:Int} {jP:Int} {jQ:ByteArray} {gC:ah} {gD:ah} {K:World→Prop} (hk:L[k]? = some (.av b cs t)) (hl:cs.length=14) (h:∀ w',ak w0 S w' (L.set k (.av b (HL c0 c1 c2 c3 c4 c5 c6 c7 c8 c9 jP jQ gC gD) t))→K w'):HI ⟨b,0,none⟩ c0 c1 c2 c3 c4 c5 c6 c7 c8 c9 jP jQ gC gD w K:=by
 have bM:k<L.length:=(List.getElem?_eq_some_iff.1 hk).1
 obtain ⟨u0,u1,u2,u3,u4,u5,u6,u7,u8,u9,JI,JJ,JK,JL,rfl⟩:∃ u0 u1 u2 u3 u4 u5 u6 u7 u8 u9 JI JJ JK JL,cs=[u0,u1,u2,u3,u4,u5,u6,u7,u8,u9,JI,JJ,JK,JL]:=by
  match cs,hl with
  | [u0,u1,u2,u3,u4,u5,u6,u7,u8,u9,JI,JJ,JK,JL],_=>exact ⟨u0,u1,u2,u3,u4,u5,u6,u7,u8,u9,JI,JJ,JK,JL,rfl⟩
 refine H.st k hk (au b 0) (by simp) rfl fun w0 H0=>?_
 simp only [List.set_set,List.set_cons_zero,List.set_cons_succ] at H0
 refine H0.st k (List.getElem?_set_self bM) (au b 1) (by simp) rfl fun w1 H1=>?_
 simp only [List.set_set,List.set_cons_zero,List.set_cons_succ] at H1
 refine H1.st k (List.getElem?_set_self bM) (au b 2) (by simp) rfl fun w2 H2=>?_
 simp only [List.set_set,List.set_cons_zero,List.set_cons_succ] at H2
 refine H2.st k (List.getElem?_set_self bM) (au b 3) (by simp) rfl fun w3 H3=>?_
 simp only [List.set_set,List.set_cons_zero,List.set_cons_succ] at H3
 refine H3.st k (List.getElem?_set_self bM) (au b 4) (by simp) rfl fun w4 H4=>?_
 simp only [List.set_set,List.set_cons_zero,List.set_cons_succ] at H4
 refine H4.st k (List.getElem?_set_self bM) (au b 5) (by simp) rfl fun w5 H5=>?_
 simp only [List.set_set,List.set_cons_zero,List.set_cons_succ] at H5
 refine H5.st k (List.getElem?_set_self bM) (au b 6) (by simp) rfl fun w6 H6=>?_
 simp only [List.set_set,List.set_cons_zero,List.set_cons_succ] at H6
 refine H6.st k (List.getElem?_set_self bM) (au b 7) (by simp) rfl fun w7 H7=>?_
 simp only [List.set_set,List.set_cons_zero,List.set_cons_succ] at H7
 refine H7.st k (List.getElem?_set_self bM) (au b 8) (by simp) rfl fun w8 H8=>?_
 simp only [List.set_set,List.set_cons_zero,List.set_cons_succ] at H8
 refine H8.st k (List.getElem?_set_self bM) (au b 9) (by simp) rfl fun w9 H9=>?_
 simp only [List.set_set,List.set_cons_zero,List.set_cons_succ] at H9
 refine H9.st k (List.getElem?_set_self bM) (au b 10) (by simp) rfl fun cJ JM=>?_
 simp only [List.set_set,List.set_cons_zero,List.set_cons_succ] at JM
 refine JM.st k (List.getElem?_set_self bM) (au b 11) (by simp) rfl fun cY JN=>?_
 simp only [List.set_set,List.set_cons_zero,List.set_cons_succ] at JN
 refine JN.st k (List.getElem?_set_self bM) (au b 12) (by simp) rfl fun fP JO=>?_
 simp only [List.set_set,List.set_cons_zero,List.set_cons_succ] at JO
 refine JO.st k (List.getElem?_set_self bM) (au b 13) (by simp) rfl fun fE H13=>?_
 simp only [List.set_set,List.set_cons_zero,List.set_cons_succ] at H13
 exact h _ H13
@[reducible] def agJ (c0:Int) (c1:Int) (c2:Int) (c3:Int) (c4:Int) (c5:Int) (c6:Int) (c7:Int) (c8:Int) (c9:Int) (jP:Int) (jQ:ByteArray) (gC:ah) (gD:ah) (vD:ah) (CA:Bool):List Value:=[.int .i64 c0,.int .i64 c1,.int .i64 c2,.int .i64 c3,.int .i64 c4,.int .i64 c5,.int .i64 c6,.int .i64 c7,.int .i64 c8,.int .i64 c9,.int .i64 jP,.string jQ,.slice gC.a gC.n gC.c,.slice gD.a gD.n gD.c,.slice vD.a vD.n vD.c,.bool CA]
theorem aen {a:Addr} {w:World} {c0:Int} {c1:Int} {c2:Int} {c3:Int} {c4:Int} {c5:Int} {c6:Int} {c7:Int} {c8:Int} {c9:Int} {jP:Int} {jQ:ByteArray} {gC:ah} {gD:ah} {vD:ah} {CA:Bool} {K:Int→Int→Int→Int→Int→Int→Int→Int→Int→Int→Int→ByteArray→ah→ah→ah→Bool→Prop} (h:∀ (i:Nat) (v:Value),(agJ c0 c1 c2 c3 c4 c5 c6 c7 c8 c9 jP jQ gC gD vD CA)[i]? = some v→w.cell? (Addr.add a i)=some v) (hK:K c0 c1 c2 c3 c4 c5 c6 c7 c8 c9 jP jQ gC gD vD CA):NK a w K:=
 ⟨_,h 0 _ rfl,⟨_,h 1 _ rfl,⟨_,h 2 _ rfl,⟨_,h 3 _ rfl,⟨_,h 4 _ rfl,⟨_,h 5 _ rfl,⟨_,h 6 _ rfl,⟨_,h 7 _ rfl,⟨_,h 8 _ rfl,⟨_,h 9 _ rfl,⟨_,h 10 _ rfl,⟨_,h 11 _ rfl,⟨gC,h 12 _ rfl,⟨gD,h 13 _ rfl,⟨vD,h 14 _ rfl,⟨_,h 15 _ rfl,hK⟩⟩⟩⟩⟩⟩⟩⟩⟩⟩⟩⟩⟩⟩⟩⟩
@[reducible] def kV (c0:Int) (c1:ah) (c2:ah) (c3:ah) (c4:ah) (c5:ah):List Value:=[.int .i64 c0,.slice c1.a c1.n c1.c,.slice c2.a c2.n c2.c,.slice c3.a c3.n c3.c,.slice c4.a c4.n c4.c,.slice c5.a c5.n c5.c]
theorem UN {a:Addr} {w:World} {c0:Int} {c1:ah} {c2:ah} {c3:ah} {c4:ah} {c5:ah} {K:Int→ah→ah→ah→ah→ah→Prop} (h:∀ (i:Nat) (v:Value),(kV c0 c1 c2 c3 c4 c5)[i]? = some v→w.cell? (Addr.add a i)=some v) (hK:K c0 c1 c2 c3 c4 c5):bN a w K:=
 ⟨_,h 0 _ rfl,⟨c1,h 1 _ rfl,⟨c2,h 2 _ rfl,⟨c3,h 3 _ rfl,⟨c4,h 4 _ rfl,⟨c5,h 5 _ rfl,hK⟩⟩⟩⟩⟩⟩
theorem _root_.Go.Ev.ak.bN {w0 w:World} {S:List Nat} {L:List aD} (H:ak w0 S w L) (k:Nat) {b:Nat} {t:TypeId} {c0:Int} {c1:ah} {c2:ah} {c3:ah} {c4:ah} {c5:ah} {K:Int→ah→ah→ah→ah→ah→Prop} (hk:L[k]? = some (.av b (kV c0 c1 c2 c3 c4 c5) t)) (hK:K c0 c1 c2 c3 c4 c5):bN ⟨b,0,none⟩ w K:=
 UN (fun i v hv=>H.cell k hk (au b i) hv) hK
theorem _root_.Go.Ev.ak.bI {w0 w:World} {S:List Nat} {L:List aD} (H:ak w0 S w L) (k:Nat) {b:Nat} {t:TypeId} {cs:List Value} {c0:Int} {c1:ah} {c2:ah} {c3:ah} {c4:ah} {c5:ah} {K:World→Prop} (hk:L[k]? = some (.av b cs t)) (hl:cs.length=6) (h:∀ w',ak w0 S w' (L.set k (.av b (kV c0 c1 c2 c3 c4 c5) t))→K w'):bI ⟨b,0,none⟩ c0 c1 c2 c3 c4 c5 w K:=by
 have bM:k<L.length:=(List.getElem?_eq_some_iff.1 hk).1
 obtain ⟨u0,u1,u2,u3,u4,u5,rfl⟩:∃ u0 u1 u2 u3 u4 u5,cs=[u0,u1,u2,u3,u4,u5]:=by
  match cs,hl with
  | [u0,u1,u2,u3,u4,u5],_=>exact ⟨u0,u1,u2,u3,u4,u5,rfl⟩
 refine H.st k hk (au b 0) (by simp) rfl fun w0 H0=>?_
 simp only [List.set_set,List.set_cons_zero,List.set_cons_succ] at H0
 refine H0.st k (List.getElem?_set_self bM) (au b 1) (by simp) rfl fun w1 H1=>?_
 simp only [List.set_set,List.set_cons_zero,List.set_cons_succ] at H1
 refine H1.st k (List.getElem?_set_self bM) (au b 2) (by simp) rfl fun w2 H2=>?_
 simp only [List.set_set,List.set_cons_zero,List.set_cons_succ] at H2
 refine H2.st k (List.getElem?_set_self bM) (au b 3) (by simp) rfl fun w3 H3=>?_
 simp only [List.set_set,List.set_cons_zero,List.set_cons_succ] at H3
 refine H3.st k (List.getElem?_set_self bM) (au b 4) (by simp) rfl fun w4 H4=>?_
 simp only [List.set_set,List.set_cons_zero,List.set_cons_succ] at H4
 refine H4.st k (List.getElem?_set_self bM) (au b 5) (by simp) rfl fun w5 H5=>?_
 simp only [List.set_set,List.set_cons_zero,List.set_cons_succ] at H5
 exact h _ H5
theorem iN {c0:Int} {c1:ah} {c2:ah} {c3:ah} {c4:ah} {c5:ah} {K:Int→ah→ah→ah→ah→ah→Prop} (hK:K c0 c1 c2 c3 c4 c5):dJ (.agg ⟨kV c0 c1 c2 c3 c4 c5⟩) K:=
 ⟨_,rfl,c0,rfl,c1,rfl,c2,rfl,c3,rfl,c4,rfl,c5,rfl,rfl,hK⟩
@[reducible] def dN (c0:Int) (c1:Int) (c2:ah) (c3:ah):List Value:=[.int .i64 c0,.int .i64 c1,.slice c2.a c2.n c2.c,.slice c3.a c3.n c3.c]
theorem aeo {a:Addr} {w:World} {c0:Int} {c1:Int} {c2:ah} {c3:ah} {K:Int→Int→ah→ah→Prop} (h:∀ (i:Nat) (v:Value),(dN c0 c1 c2 c3)[i]? = some v→w.cell? (Addr.add a i)=some v) (hK:K c0 c1 c2 c3):cz a w K:=
 ⟨_,h 0 _ rfl,⟨_,h 1 _ rfl,⟨c2,h 2 _ rfl,⟨c3,h 3 _ rfl,hK⟩⟩⟩⟩
theorem _root_.Go.Ev.ak.cz {w0 w:World} {S:List Nat} {L:List aD} (H:ak w0 S w L) (k:Nat) {b:Nat} {t:TypeId} {c0:Int} {c1:Int} {c2:ah} {c3:ah} {K:Int→Int→ah→ah→Prop} (hk:L[k]? = some (.av b (dN c0 c1 c2 c3) t)) (hK:K c0 c1 c2 c3):cz ⟨b,0,none⟩ w K:=
 aeo (fun i v hv=>H.cell k hk (au b i) hv) hK
theorem _root_.Go.Ev.ak.bF {w0 w:World} {S:List Nat} {L:List aD} (H:ak w0 S w L) (k:Nat) {b:Nat} {t:TypeId} {cs:List Value} {c0:Int} {c1:Int} {c2:ah} {c3:ah} {K:World→Prop} (hk:L[k]? = some (.av b cs t)) (hl:cs.length=4) (h:∀ w',ak w0 S w' (L.set k (.av b (dN c0 c1 c2 c3) t))→K w'):bF ⟨b,0,none⟩ c0 c1 c2 c3 w K:=by
 have bM:k<L.length:=(List.getElem?_eq_some_iff.1 hk).1
 obtain ⟨u0,u1,u2,u3,rfl⟩:∃ u0 u1 u2 u3,cs=[u0,u1,u2,u3]:=by
  match cs,hl with
  | [u0,u1,u2,u3],_=>exact ⟨u0,u1,u2,u3,rfl⟩
 refine H.st k hk (au b 0) (by simp) rfl fun w0 H0=>?_
 simp only [List.set_set,List.set_cons_zero,List.set_cons_succ] at H0
 refine H0.st k (List.getElem?_set_self bM) (au b 1) (by simp) rfl fun w1 H1=>?_
 simp only [List.set_set,List.set_cons_zero,List.set_cons_succ] at H1
 refine H1.st k (List.getElem?_set_self bM) (au b 2) (by simp) rfl fun w2 H2=>?_
 simp only [List.set_set,List.set_cons_zero,List.set_cons_succ] at H2
 refine H2.st k (List.getElem?_set_self bM) (au b 3) (by simp) rfl fun w3 H3=>?_
 simp only [List.set_set,List.set_cons_zero,List.set_cons_succ] at H3
 exact h _ H3
theorem nZ {c0:Int} {c1:Int} {c2:ah} {c3:ah} {K:Int→Int→ah→ah→Prop} (hK:K c0 c1 c2 c3):fF (.agg ⟨dN c0 c1 c2 c3⟩) K:=
 ⟨_,rfl,c0,rfl,c1,rfl,c2,rfl,c3,rfl,rfl,hK⟩
@[reducible] def dF (c0:Int) (c1:Int) (c2:Int) (c3:ah):List Value:=[.int .i64 c0,.int .i64 c1,.int .i64 c2,.slice c3.a c3.n c3.c]
theorem qn {a:Addr} {w:World} {c0:Int} {c1:Int} {c2:Int} {c3:ah} {K:Int→Int→Int→ah→Prop} (h:∀ (i:Nat) (v:Value),(dF c0 c1 c2 c3)[i]? = some v→w.cell? (Addr.add a i)=some v) (hK:K c0 c1 c2 c3):bu a w K:=
 ⟨_,h 0 _ rfl,⟨_,h 1 _ rfl,⟨_,h 2 _ rfl,⟨c3,h 3 _ rfl,hK⟩⟩⟩⟩
theorem _root_.Go.Ev.ak.bu {w0 w:World} {S:List Nat} {L:List aD} (H:ak w0 S w L) (k:Nat) {b:Nat} {t:TypeId} {c0:Int} {c1:Int} {c2:Int} {c3:ah} {K:Int→Int→Int→ah→Prop} (hk:L[k]? = some (.av b (dF c0 c1 c2 c3) t)) (hK:K c0 c1 c2 c3):bu ⟨b,0,none⟩ w K:=
 qn (fun i v hv=>H.cell k hk (au b i) hv) hK
theorem _root_.Go.Ev.ak.cD {w0 w:World} {S:List Nat} {L:List aD} (H:ak w0 S w L) (k:Nat) {b:Nat} {t:TypeId} {cs:List Value} {c0:Int} {c1:Int} {c2:Int} {c3:ah} {K:World→Prop} (hk:L[k]? = some (.av b cs t)) (hl:cs.length=4) (h:∀ w',ak w0 S w' (L.set k (.av b (dF c0 c1 c2 c3) t))→K w'):cD ⟨b,0,none⟩ c0 c1 c2 c3 w K:=by
 have bM:k<L.length:=(List.getElem?_eq_some_iff.1 hk).1
 obtain ⟨u0,u1,u2,u3,rfl⟩:∃ u0 u1 u2 u3,cs=[u0,u1,u2,u3]:=by
  match cs,hl with
  | [u0,u1,u2,u3],_=>exact ⟨u0,u1,u2,u3,rfl⟩
 refine H.st k hk (au b 0) (by simp) rfl fun w0 H0=>?_
 simp only [List.set_set,List.set_cons_zero,List.set_cons_succ] at H0
 refine H0.st k (List.getElem?_set_self bM) (au b 1) (by simp) rfl fun w1 H1=>?_
 simp only [List.set_set,List.set_cons_zero,List.set_cons_succ] at H1
 refine H1.st k (List.getElem?_set_self bM) (au b 2) (by simp) rfl fun w2 H2=>?_
 simp only [List.set_set,List.set_cons_zero,List.set_cons_succ] at H2
 refine H2.st k (List.getElem?_set_self bM) (au b 3) (by simp) rfl fun w3 H3=>?_
 simp only [List.set_set,List.set_cons_zero,List.set_cons_succ] at H3
 exact h _ H3
theorem oh {c0:Int} {c1:Int} {c2:Int} {c3:ah} {K:Int→Int→Int→ah→Prop} (hK:K c0 c1 c2 c3):qZ (.agg ⟨dF c0 c1 c2 c3⟩) K:=
 ⟨_,rfl,c0,rfl,c1,rfl,c2,rfl,c3,rfl,rfl,hK⟩
@[reducible] def uv (c0:Int) (c1:Int) (c2:Int) (c3:ah):List Value:=[.int .i64 c0,.int .i64 c1,.int .i64 c2,.slice c3.a c3.n c3.c]
theorem yq {a:Addr} {w:World} {c0:Int} {c1:Int} {c2:Int} {c3:ah} {K:Int→Int→Int→ah→Prop} (h:∀ (i:Nat) (v:Value),(uv c0 c1 c2 c3)[i]? = some v→w.cell? (Addr.add a i)=some v) (hK:K c0 c1 c2 c3):jt a w K:=
 ⟨_,h 0 _ rfl,⟨_,h 1 _ rfl,⟨_,h 2 _ rfl,⟨c3,h 3 _ rfl,hK⟩⟩⟩⟩
theorem _root_.Go.Ev.ak.jt {w0 w:World} {S:List Nat} {L:List aD} (H:ak w0 S w L) (k:Nat) {b:Nat} {t:TypeId} {c0:Int} {c1:Int} {c2:Int} {c3:ah} {K:Int→Int→Int→ah→Prop} (hk:L[k]? = some (.av b (uv c0 c1 c2 c3) t)) (hK:K c0 c1 c2 c3):jt ⟨b,0,none⟩ w K:=
 yq (fun i v hv=>H.cell k hk (au b i) hv) hK
theorem _root_.Go.Ev.ak.gx {w0 w:World} {S:List Nat} {L:List aD} (H:ak w0 S w L) (k:Nat) {b:Nat} {t:TypeId} {cs:List Value} {c0:Int} {c1:Int} {c2:Int} {c3:ah} {K:World→Prop} (hk:L[k]? = some (.av b cs t)) (hl:cs.length=4) (h:∀ w',ak w0 S w' (L.set k (.av b (uv c0 c1 c2 c3) t))→K w'):gx ⟨b,0,none⟩ c0 c1 c2 c3 w K:=by
 have bM:k<L.length:=(List.getElem?_eq_some_iff.1 hk).1
 obtain ⟨u0,u1,u2,u3,rfl⟩:∃ u0 u1 u2 u3,cs=[u0,u1,u2,u3]:=by
  match cs,hl with
  | [u0,u1,u2,u3],_=>exact ⟨u0,u1,u2,u3,rfl⟩
 refine H.st k hk (au b 0) (by simp) rfl fun w0 H0=>?_
 simp only [List.set_set,List.set_cons_zero,List.set_cons_succ] at H0
 refine H0.st k (List.getElem?_set_self bM) (au b 1) (by simp) rfl fun w1 H1=>?_
 simp only [List.set_set,List.set_cons_zero,List.set_cons_succ] at H1
 refine H1.st k (List.getElem?_set_self bM) (au b 2) (by simp) rfl fun w2 H2=>?_
 simp only [List.set_set,List.set_cons_zero,List.set_cons_succ] at H2
 refine H2.st k (List.getElem?_set_self bM) (au b 3) (by simp) rfl fun w3 H3=>?_
 simp only [List.set_set,List.set_cons_zero,List.set_cons_succ] at H3
 exact h _ H3
theorem wh {c0:Int} {c1:Int} {c2:Int} {c3:ah} {K:Int→Int→Int→ah→Prop} (hK:K c0 c1 c2 c3):uu (.agg ⟨uv c0 c1 c2 c3⟩) K:=
 ⟨_,rfl,c0,rfl,c1,rfl,c2,rfl,c3,rfl,rfl,hK⟩
@[reducible] def lD (c0:Int) (c1:Int) (c2:ah) (c3:Int) (c4:Int):List Value:=[.int .i64 c0,.int .i64 c1,.slice c2.a c2.n c2.c,.int .i64 c3,.int .u64 c4]
theorem UE {a:Addr} {w:World} {c0:Int} {c1:Int} {c2:ah} {c3:Int} {c4:Int} {K:Int→Int→ah→Int→Int→Prop} (h:∀ (i:Nat) (v:Value),(lD c0 c1 c2 c3 c4)[i]? = some v→w.cell? (Addr.add a i)=some v) (hK:K c0 c1 c2 c3 c4):MU a w K:=
 ⟨_,h 0 _ rfl,⟨_,h 1 _ rfl,⟨c2,h 2 _ rfl,⟨_,h 3 _ rfl,⟨_,h 4 _ rfl,hK⟩⟩⟩⟩⟩
theorem _root_.Go.Ev.ak.AK {w0 w:World} {S:List Nat} {L:List aD} (H:ak w0 S w L) (k:Nat) {b:Nat} {t:TypeId} {cs:List Value} {c0:Int} {c1:Int} {c2:ah} {c3:Int} {c4:Int} {K:World→Prop} (hk:L[k]? = some (.av b cs t)) (hl:cs.length=5) (h:∀ w',ak w0 S w' (L.set k (.av b (lD c0 c1 c2 c3 c4) t))→K w'):AK ⟨b,0,none⟩ c0 c1 c2 c3 c4 w K:=by
 have bM:k<L.length:=(List.getElem?_eq_some_iff.1 hk).1
 obtain ⟨u0,u1,u2,u3,u4,rfl⟩:∃ u0 u1 u2 u3 u4,cs=[u0,u1,u2,u3,u4]:=by
  match cs,hl with
  | [u0,u1,u2,u3,u4],_=>exact ⟨u0,u1,u2,u3,u4,rfl⟩
 refine H.st k hk (au b 0) (by simp) rfl fun w0 H0=>?_
 simp only [List.set_set,List.set_cons_zero,List.set_cons_succ] at H0
 refine H0.st k (List.getElem?_set_self bM) (au b 1) (by simp) rfl fun w1 H1=>?_
 simp only [List.set_set,List.set_cons_zero,List.set_cons_succ] at H1
 refine H1.st k (List.getElem?_set_self bM) (au b 2) (by simp) rfl fun w2 H2=>?_
 simp only [List.set_set,List.set_cons_zero,List.set_cons_succ] at H2
 refine H2.st k (List.getElem?_set_self bM) (au b 3) (by simp) rfl fun w3 H3=>?_
 simp only [List.set_set,List.set_cons_zero,List.set_cons_succ] at H3
 refine H3.st k (List.getElem?_set_self bM) (au b 4) (by simp) rfl fun w4 H4=>?_
 simp only [List.set_set,List.set_cons_zero,List.set_cons_succ] at H4
 exact h _ H4
@[reducible] def qY (c0:Int) (c1:Int) (c2:Int) (c3:Int) (c4:Int) (c5:Bool):List Value:=[.int .i64 c0,.int .i64 c1,.int .i64 c2,.int .i64 c3,.int .i64 c4,.bool c5]
theorem LY {a:Addr} {w:World} {c0:Int} {c1:Int} {c2:Int} {c3:Int} {c4:Int} {c5:Bool} {K:Int→Int→Int→Int→Int→Bool→Prop} (h:∀ (i:Nat) (v:Value),(qY c0 c1 c2 c3 c4 c5)[i]? = some v→w.cell? (Addr.add a i)=some v) (hK:K c0 c1 c2 c3 c4 c5):iF a w K:=
 ⟨_,h 0 _ rfl,⟨_,h 1 _ rfl,⟨_,h 2 _ rfl,⟨_,h 3 _ rfl,⟨_,h 4 _ rfl,⟨_,h 5 _ rfl,hK⟩⟩⟩⟩⟩⟩
theorem _root_.Go.Ev.ak.iF {w0 w:World} {S:List Nat} {L:List aD} (H:ak w0 S w L) (k:Nat) {b:Nat} {t:TypeId} {c0:Int} {c1:Int} {c2:Int} {c3:Int} {c4:Int} {c5:Bool} {K:Int→Int→Int→Int→Int→Bool→Prop} (hk:L[k]? = some (.av b (qY c0 c1 c2 c3 c4 c5) t)) (hK:K c0 c1 c2 c3 c4 c5):iF ⟨b,0,none⟩ w K:=
 LY (fun i v hv=>H.cell k hk (au b i) hv) hK
theorem _root_.Go.Ev.ak.om {w0 w:World} {S:List Nat} {L:List aD} (H:ak w0 S w L) (k:Nat) {b:Nat} {t:TypeId} {cs:List Value} {c0:Int} {c1:Int} {c2:Int} {c3:Int} {c4:Int} {c5:Bool} {K:World→Prop} (hk:L[k]? = some (.av b cs t)) (hl:cs.length=6) (h:∀ w',ak w0 S w' (L.set k (.av b (qY c0 c1 c2 c3 c4 c5) t))→K w'):om ⟨b,0,none⟩ c0 c1 c2 c3 c4 c5 w K:=by
 have bM:k<L.length:=(List.getElem?_eq_some_iff.1 hk).1
 obtain ⟨u0,u1,u2,u3,u4,u5,rfl⟩:∃ u0 u1 u2 u3 u4 u5,cs=[u0,u1,u2,u3,u4,u5]:=by
  match cs,hl with
  | [u0,u1,u2,u3,u4,u5],_=>exact ⟨u0,u1,u2,u3,u4,u5,rfl⟩
 refine H.st k hk (au b 0) (by simp) rfl fun w0 H0=>?_
 simp only [List.set_set,List.set_cons_zero,List.set_cons_succ] at H0
 refine H0.st k (List.getElem?_set_self bM) (au b 1) (by simp) rfl fun w1 H1=>?_
 simp only [List.set_set,List.set_cons_zero,List.set_cons_succ] at H1
 refine H1.st k (List.getElem?_set_self bM) (au b 2) (by simp) rfl fun w2 H2=>?_
 simp only [List.set_set,List.set_cons_zero,List.set_cons_succ] at H2
 refine H2.st k (List.getElem?_set_self bM) (au b 3) (by simp) rfl fun w3 H3=>?_
 simp only [List.set_set,List.set_cons_zero,List.set_cons_succ] at H3
 refine H3.st k (List.getElem?_set_self bM) (au b 4) (by simp) rfl fun w4 H4=>?_
 simp only [List.set_set,List.set_cons_zero,List.set_cons_succ] at H4
 refine H4.st k (List.getElem?_set_self bM) (au b 5) (by simp) rfl fun w5 H5=>?_
 simp only [List.set_set,List.set_cons_zero,List.set_cons_succ] at H5
 exact h _ H5
theorem UO {c0:Int} {c1:Int} {c2:Int} {c3:Int} {c4:Int} {c5:Bool} {K:Int→Int→Int→Int→Int→Bool→Prop} (hK:K c0 c1 c2 c3 c4 c5):NL (.agg ⟨qY c0 c1 c2 c3 c4 c5⟩) K:=
 ⟨_,rfl,c0,rfl,c1,rfl,c2,rfl,c3,rfl,c4,rfl,c5,rfl,rfl,hK⟩
@[reducible] def ko (c0:Int) (c1:Int) (c2:ByteArray):List Value:=[.int .i64 c0,.int .i64 c1,.string c2]
theorem C2 {a:Addr} {w:World} {c0:Int} {c1:Int} {c2:ByteArray} {K:Int→Int→ByteArray→Prop} (h:∀ (i:Nat) (v:Value),(ko c0 c1 c2)[i]? = some v→w.cell? (Addr.add a i)=some v) (hK:K c0 c1 c2):AL a w K:=
 ⟨_,h 0 _ rfl,⟨_,h 1 _ rfl,⟨_,h 2 _ rfl,hK⟩⟩⟩
theorem _root_.Go.Ev.ak.AM {w0 w:World} {S:List Nat} {L:List aD} (H:ak w0 S w L) (k:Nat) {b:Nat} {t:TypeId} {cs:List Value} {c0:Int} {c1:Int} {c2:ByteArray} {K:World→Prop} (hk:L[k]? = some (.av b cs t)) (hl:cs.length=3) (h:∀ w',ak w0 S w' (L.set k (.av b (ko c0 c1 c2) t))→K w'):AM ⟨b,0,none⟩ c0 c1 c2 w K:=by
 have bM:k<L.length:=(List.getElem?_eq_some_iff.1 hk).1
 obtain ⟨u0,u1,u2,rfl⟩:∃ u0 u1 u2,cs=[u0,u1,u2]:=by
  match cs,hl with
  | [u0,u1,u2],_=>exact ⟨u0,u1,u2,rfl⟩
 refine H.st k hk (au b 0) (by simp) rfl fun w0 H0=>?_
 simp only [List.set_set,List.set_cons_zero,List.set_cons_succ] at H0
 refine H0.st k (List.getElem?_set_self bM) (au b 1) (by simp) rfl fun w1 H1=>?_
 simp only [List.set_set,List.set_cons_zero,List.set_cons_succ] at H1
 refine H1.st k (List.getElem?_set_self bM) (au b 2) (by simp) rfl fun w2 H2=>?_
 simp only [List.set_set,List.set_cons_zero,List.set_cons_succ] at H2
 exact h _ H2
@[reducible] def Hf (c0:Int) (c1:Int) (c2:Int) (c3:Int) (c4:Int) (c5:Int) (c6:Int) (c7:Int) (c8:Int):List Value:=[.int .i64 c0,.int .i64 c1,.int .i64 c2,.int .i64 c3,.int .i64 c4,.int .i64 c5,.int .i64 c6,.int .i64 c7,.int .i64 c8]
theorem aep {a:Addr} {w:World} {c0:Int} {c1:Int} {c2:Int} {c3:Int} {c4:Int} {c5:Int} {c6:Int} {c7:Int} {c8:Int} {K:Int→Int→Int→Int→Int→Int→Int→Int→Int→Prop} (h:∀ (i:Nat) (v:Value),(Hf c0 c1 c2 c3 c4 c5 c6 c7 c8)[i]? = some v→w.cell? (Addr.add a i)=some v) (hK:K c0 c1 c2 c3 c4 c5 c6 c7 c8):oU a w K:=
 ⟨_,h 0 _ rfl,⟨_,h 1 _ rfl,⟨_,h 2 _ rfl,⟨_,h 3 _ rfl,⟨_,h 4 _ rfl,⟨_,h 5 _ rfl,⟨_,h 6 _ rfl,⟨_,h 7 _ rfl,⟨_,h 8 _ rfl,hK⟩⟩⟩⟩⟩⟩⟩⟩⟩
theorem _root_.Go.Ev.ak.oU {w0 w:World} {S:List Nat} {L:List aD} (H:ak w0 S w L) (k:Nat) {b:Nat} {t:TypeId} {c0:Int} {c1:Int} {c2:Int} {c3:Int} {c4:Int} {c5:Int} {c6:Int} {c7:Int} {c8:Int} {K:Int→Int→Int→Int→Int→Int→Int→Int→Int→Prop} (hk:L[k]? = some (.av b (Hf c0 c1 c2 c3 c4 c5 c6 c7 c8) t)) (hK:K c0 c1 c2 c3 c4 c5 c6 c7 c8):oU ⟨b,0,none⟩ w K:=
 aep (fun i v hv=>H.cell k hk (au b i) hv) hK
theorem _root_.Go.Ev.ak.qo {w0 w:World} {S:List Nat} {L:List aD} (H:ak w0 S w L) (k:Nat) {b:Nat} {t:TypeId} {cs:List Value} {c0:Int} {c1:Int} {c2:Int} {c3:Int} {c4:Int} {c5:Int} {c6:Int} {c7:Int} {c8:Int} {K:World→Prop} (hk:L[k]? = some (.av b cs t)) (hl:cs.length=9) (h:∀ w',ak w0 S w' (L.set k (.av b (Hf c0 c1 c2 c3 c4 c5 c6 c7 c8) t))→K w'):qo ⟨b,0,none⟩ c0 c1 c2 c3 c4 c5 c6 c7 c8 w K:=by
 have bM:k<L.length:=(List.getElem?_eq_some_iff.1 hk).1
 obtain ⟨u0,u1,u2,u3,u4,u5,u6,u7,u8,rfl⟩:∃ u0 u1 u2 u3 u4 u5 u6 u7 u8,cs=[u0,u1,u2,u3,u4,u5,u6,u7,u8]:=by
  match cs,hl with
  | [u0,u1,u2,u3,u4,u5,u6,u7,u8],_=>exact ⟨u0,u1,u2,u3,u4,u5,u6,u7,u8,rfl⟩
 refine H.st k hk (au b 0) (by simp) rfl fun w0 H0=>?_
 simp only [List.set_set,List.set_cons_zero,List.set_cons_succ] at H0
 refine H0.st k (List.getElem?_set_self bM) (au b 1) (by simp) rfl fun w1 H1=>?_
 simp only [List.set_set,List.set_cons_zero,List.set_cons_succ] at H1
 refine H1.st k (List.getElem?_set_self bM) (au b 2) (by simp) rfl fun w2 H2=>?_
 simp only [List.set_set,List.set_cons_zero,List.set_cons_succ] at H2
 refine H2.st k (List.getElem?_set_self bM) (au b 3) (by simp) rfl fun w3 H3=>?_
 simp only [List.set_set,List.set_cons_zero,List.set_cons_succ] at H3
 refine H3.st k (List.getElem?_set_self bM) (au b 4) (by simp) rfl fun w4 H4=>?_
 simp only [List.set_set,List.set_cons_zero,List.set_cons_succ] at H4
 refine H4.st k (List.getElem?_set_self bM) (au b 5) (by simp) rfl fun w5 H5=>?_
 simp only [List.set_set,List.set_cons_zero,List.set_cons_succ] at H5
 refine H5.st k (List.getElem?_set_self bM) (au b 6) (by simp) rfl fun w6 H6=>?_
 simp only [List.set_set,List.set_cons_zero,List.set_cons_succ] at H6
 refine H6.st k (List.getElem?_set_self bM) (au b 7) (by simp) rfl fun w7 H7=>?_
 simp only [List.set_set,List.set_cons_zero,List.set_cons_succ] at H7
 refine H7.st k (List.getElem?_set_self bM) (au b 8) (by simp) rfl fun w8 H8=>?_
 simp only [List.set_set,List.set_cons_zero,List.set_cons_succ] at H8
 exact h _ H8
theorem aeq {c0:Int} {c1:Int} {c2:Int} {c3:Int} {c4:Int} {c5:Int} {c6:Int} {c7:Int} {c8:Int} {K:Int→Int→Int→Int→Int→Int→Int→Int→Int→Prop} (hK:K c0 c1 c2 c3 c4 c5 c6 c7 c8):NM (.agg ⟨Hf c0 c1 c2 c3 c4 c5 c6 c7 c8⟩) K:=
 ⟨_,rfl,c0,rfl,c1,rfl,c2,rfl,c3,rfl,c4,rfl,c5,rfl,c6,rfl,c7,rfl,c8,rfl,rfl,hK⟩
@[reducible] def DF (c0:Int) (c1:Int) (c2:Int) (c3:Int) (c4:Int) (c5:Int) (c6:Int) (c7:Int) (c8:Int):List Value:=[.int .i64 c0,.int .i64 c1,.int .i64 c2,.int .i64 c3,.int .i64 c4,.int .i64 c5,.int .i64 c6,.int .i64 c7,.int .i64 c8]
theorem afR {a:Addr} {w:World} {c0:Int} {c1:Int} {c2:Int} {c3:Int} {c4:Int} {c5:Int} {c6:Int} {c7:Int} {c8:Int} {K:Int→Int→Int→Int→Int→Int→Int→Int→Int→Prop} (h:∀ (i:Nat) (v:Value),(DF c0 c1 c2 c3 c4 c5 c6 c7 c8)[i]? = some v→w.cell? (Addr.add a i)=some v) (hK:K c0 c1 c2 c3 c4 c5 c6 c7 c8):q8 a w K:=
 ⟨_,h 0 _ rfl,⟨_,h 1 _ rfl,⟨_,h 2 _ rfl,⟨_,h 3 _ rfl,⟨_,h 4 _ rfl,⟨_,h 5 _ rfl,⟨_,h 6 _ rfl,⟨_,h 7 _ rfl,⟨_,h 8 _ rfl,hK⟩⟩⟩⟩⟩⟩⟩⟩⟩
theorem _root_.Go.Ev.ak.q8 {w0 w:World} {S:List Nat} {L:List aD} (H:ak w0 S w L) (k:Nat) {b:Nat} {t:TypeId} {c0:Int} {c1:Int} {c2:Int} {c3:Int} {c4:Int} {c5:Int} {c6:Int} {c7:Int} {c8:Int} {K:Int→Int→Int→Int→Int→Int→Int→Int→Int→Prop} (hk:L[k]? = some (.av b (DF c0 c1 c2 c3 c4 c5 c6 c7 c8) t)) (hK:K c0 c1 c2 c3 c4 c5 c6 c7 c8):q8 ⟨b,0,none⟩ w K:=
 afR (fun i v hv=>H.cell k hk (au b i) hv) hK
theorem _root_.Go.Ev.ak.mQ {w0 w:World} {S:List Nat} {L:List aD} (H:ak w0 S w L) (k:Nat) {b:Nat} {t:TypeId} {cs:List Value} {c0:Int} {c1:Int} {c2:Int} {c3:Int} {c4:Int} {c5:Int} {c6:Int} {c7:Int} {c8:Int} {K:World→Prop} (hk:L[k]? = some (.av b cs t)) (hl:cs.length=9) (h:∀ w',ak w0 S w' (L.set k (.av b (DF c0 c1 c2 c3 c4 c5 c6 c7 c8) t))→K w'):mQ ⟨b,0,none⟩ c0 c1 c2 c3 c4 c5 c6 c7 c8 w K:=by
 have bM:k<L.length:=(List.getElem?_eq_some_iff.1 hk).1
 obtain ⟨u0,u1,u2,u3,u4,u5,u6,u7,u8,rfl⟩:∃ u0 u1 u2 u3 u4 u5 u6 u7 u8,cs=[u0,u1,u2,u3,u4,u5,u6,u7,u8]:=by
  match cs,hl with
  | [u0,u1,u2,u3,u4,u5,u6,u7,u8],_=>exact ⟨u0,u1,u2,u3,u4,u5,u6,u7,u8,rfl⟩
 refine H.st k hk (au b 0) (by simp) rfl fun w0 H0=>?_
 simp only [List.set_set,List.set_cons_zero,List.set_cons_succ] at H0
 refine H0.st k (List.getElem?_set_self bM) (au b 1) (by simp) rfl fun w1 H1=>?_
 simp only [List.set_set,List.set_cons_zero,List.set_cons_succ] at H1
 refine H1.st k (List.getElem?_set_self bM) (au b 2) (by simp) rfl fun w2 H2=>?_
 simp only [List.set_set,List.set_cons_zero,List.set_cons_succ] at H2
 refine H2.st k (List.getElem?_set_self bM) (au b 3) (by simp) rfl fun w3 H3=>?_
 simp only [List.set_set,List.set_cons_zero,List.set_cons_succ] at H3
 refine H3.st k (List.getElem?_set_self bM) (au b 4) (by simp) rfl fun w4 H4=>?_
 simp only [List.set_set,List.set_cons_zero,List.set_cons_succ] at H4
 refine H4.st k (List.getElem?_set_self bM) (au b 5) (by simp) rfl fun w5 H5=>?_
 simp only [List.set_set,List.set_cons_zero,List.set_cons_succ] at H5
 refine H5.st k (List.getElem?_set_self bM) (au b 6) (by simp) rfl fun w6 H6=>?_
 simp only [List.set_set,List.set_cons_zero,List.set_cons_succ] at H6
 refine H6.st k (List.getElem?_set_self bM) (au b 7) (by simp) rfl fun w7 H7=>?_
 simp only [List.set_set,List.set_cons_zero,List.set_cons_succ] at H7
 refine H7.st k (List.getElem?_set_self bM) (au b 8) (by simp) rfl fun w8 H8=>?_
 simp only [List.set_set,List.set_cons_zero,List.set_cons_succ] at H8
 exact h _ H8
theorem G4 {c0:Int} {c1:Int} {c2:Int} {c3:Int} {c4:Int} {c5:Int} {c6:Int} {c7:Int} {c8:Int} {K:Int→Int→Int→Int→Int→Int→Int→Int→Int→Prop} (hK:K c0 c1 c2 c3 c4 c5 c6 c7 c8):V8 (.agg ⟨DF c0 c1 c2 c3 c4 c5 c6 c7 c8⟩) K:=
 ⟨_,rfl,c0,rfl,c1,rfl,c2,rfl,c3,rfl,c4,rfl,c5,rfl,c6,rfl,c7,rfl,c8,rfl,rfl,hK⟩
@[reducible] def yJ (c0:ah) (c1:ah) (c2:ah) (c3:ah):List Value:=[.slice c0.a c0.n c0.c,.slice c1.a c1.n c1.c,.slice c2.a c2.n c2.c,.slice c3.a c3.n c3.c]
theorem afS {a:Addr} {w:World} {c0:ah} {c1:ah} {c2:ah} {c3:ah} {K:ah→ah→ah→ah→Prop} (h:∀ (i:Nat) (v:Value),(yJ c0 c1 c2 c3)[i]? = some v→w.cell? (Addr.add a i)=some v) (hK:K c0 c1 c2 c3):DE a w K:=
 ⟨c0,h 0 _ rfl,⟨c1,h 1 _ rfl,⟨c2,h 2 _ rfl,⟨c3,h 3 _ rfl,hK⟩⟩⟩⟩
theorem _root_.Go.Ev.ak.DE {w0 w:World} {S:List Nat} {L:List aD} (H:ak w0 S w L) (k:Nat) {b:Nat} {t:TypeId} {c0:ah} {c1:ah} {c2:ah} {c3:ah} {K:ah→ah→ah→ah→Prop} (hk:L[k]? = some (.av b (yJ c0 c1 c2 c3) t)) (hK:K c0 c1 c2 c3):DE ⟨b,0,none⟩ w K:=
 afS (fun i v hv=>H.cell k hk (au b i) hv) hK
theorem _root_.Go.Ev.ak.wE {w0 w:World} {S:List Nat} {L:List aD} (H:ak w0 S w L) (k:Nat) {b:Nat} {t:TypeId} {cs:List Value} {c0:ah} {c1:ah} {c2:ah} {c3:ah} {K:World→Prop} (hk:L[k]? = some (.av b cs t)) (hl:cs.length=4) (h:∀ w',ak w0 S w' (L.set k (.av b (yJ c0 c1 c2 c3) t))→K w'):wE ⟨b,0,none⟩ c0 c1 c2 c3 w K:=by
 have bM:k<L.length:=(List.getElem?_eq_some_iff.1 hk).1
 obtain ⟨u0,u1,u2,u3,rfl⟩:∃ u0 u1 u2 u3,cs=[u0,u1,u2,u3]:=by
  match cs,hl with
  | [u0,u1,u2,u3],_=>exact ⟨u0,u1,u2,u3,rfl⟩
 refine H.st k hk (au b 0) (by simp) rfl fun w0 H0=>?_
 simp only [List.set_set,List.set_cons_zero,List.set_cons_succ] at H0
 refine H0.st k (List.getElem?_set_self bM) (au b 1) (by simp) rfl fun w1 H1=>?_
 simp only [List.set_set,List.set_cons_zero,List.set_cons_succ] at H1
 refine H1.st k (List.getElem?_set_self bM) (au b 2) (by simp) rfl fun w2 H2=>?_
 simp only [List.set_set,List.set_cons_zero,List.set_cons_succ] at H2
 refine H2.st k (List.getElem?_set_self bM) (au b 3) (by simp) rfl fun w3 H3=>?_
 simp only [List.set_set,List.set_cons_zero,List.set_cons_succ] at H3
 exact h _ H3
theorem Vn {c0:ah} {c1:ah} {c2:ah} {c3:ah} {K:ah→ah→ah→ah→Prop} (hK:K c0 c1 c2 c3):PK (.agg ⟨yJ c0 c1 c2 c3⟩) K:=
 ⟨_,rfl,c0,rfl,c1,rfl,c2,rfl,c3,rfl,rfl,hK⟩
@[reducible] def DG (c0:Int) (c1:Int) (c2:Int) (c3:Int) (c4:Int):List Value:=[.int .i64 c0,.int .i64 c1,.int .i64 c2,.int .i64 c3,.int .i64 c4]
theorem afT {a:Addr} {w:World} {c0:Int} {c1:Int} {c2:Int} {c3:Int} {c4:Int} {K:Int→Int→Int→Int→Int→Prop} (h:∀ (i:Nat) (v:Value),(DG c0 c1 c2 c3 c4)[i]? = some v→w.cell? (Addr.add a i)=some v) (hK:K c0 c1 c2 c3 c4):mS a w K:=
 ⟨_,h 0 _ rfl,⟨_,h 1 _ rfl,⟨_,h 2 _ rfl,⟨_,h 3 _ rfl,⟨_,h 4 _ rfl,hK⟩⟩⟩⟩⟩
theorem _root_.Go.Ev.ak.mS {w0 w:World} {S:List Nat} {L:List aD} (H:ak w0 S w L) (k:Nat) {b:Nat} {t:TypeId} {c0:Int} {c1:Int} {c2:Int} {c3:Int} {c4:Int} {K:Int→Int→Int→Int→Int→Prop} (hk:L[k]? = some (.av b (DG c0 c1 c2 c3 c4) t)) (hK:K c0 c1 c2 c3 c4):mS ⟨b,0,none⟩ w K:=
 afT (fun i v hv=>H.cell k hk (au b i) hv) hK
theorem _root_.Go.Ev.ak.iY {w0 w:World} {S:List Nat} {L:List aD} (H:ak w0 S w L) (k:Nat) {b:Nat} {t:TypeId} {cs:List Value} {c0:Int} {c1:Int} {c2:Int} {c3:Int} {c4:Int} {K:World→Prop} (hk:L[k]? = some (.av b cs t)) (hl:cs.length=5) (h:∀ w',ak w0 S w' (L.set k (.av b (DG c0 c1 c2 c3 c4) t))→K w'):iY ⟨b,0,none⟩ c0 c1 c2 c3 c4 w K:=by
 have bM:k<L.length:=(List.getElem?_eq_some_iff.1 hk).1
 obtain ⟨u0,u1,u2,u3,u4,rfl⟩:∃ u0 u1 u2 u3 u4,cs=[u0,u1,u2,u3,u4]:=by
  match cs,hl with
  | [u0,u1,u2,u3,u4],_=>exact ⟨u0,u1,u2,u3,u4,rfl⟩
 refine H.st k hk (au b 0) (by simp) rfl fun w0 H0=>?_
 simp only [List.set_set,List.set_cons_zero,List.set_cons_succ] at H0
 refine H0.st k (List.getElem?_set_self bM) (au b 1) (by simp) rfl fun w1 H1=>?_
 simp only [List.set_set,List.set_cons_zero,List.set_cons_succ] at H1
 refine H1.st k (List.getElem?_set_self bM) (au b 2) (by simp) rfl fun w2 H2=>?_
 simp only [List.set_set,List.set_cons_zero,List.set_cons_succ] at H2
 refine H2.st k (List.getElem?_set_self bM) (au b 3) (by simp) rfl fun w3 H3=>?_
 simp only [List.set_set,List.set_cons_zero,List.set_cons_succ] at H3
 refine H3.st k (List.getElem?_set_self bM) (au b 4) (by simp) rfl fun w4 H4=>?_
 simp only [List.set_set,List.set_cons_zero,List.set_cons_succ] at H4
 exact h _ H4
theorem afU {c0:Int} {c1:Int} {c2:Int} {c3:Int} {c4:Int} {K:Int→Int→Int→Int→Int→Prop} (hK:K c0 c1 c2 c3 c4):uz (.agg ⟨DG c0 c1 c2 c3 c4⟩) K:=
 ⟨_,rfl,c0,rfl,c1,rfl,c2,rfl,c3,rfl,c4,rfl,rfl,hK⟩
end Go.Proofs.YtgjoehgomjgckaaGreatDoor
end
