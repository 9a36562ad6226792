/- REQUESTS: which may be, their bodies, which are the same: the program's and the document's. -/
import Derived.Test.YtoeedbljiocpdaaDoorCode
import Derived.Test.YtoeedbljiocpdaaDoorLay1
import Derived.Test.YtoeedbljiocpdaaDoorSt
import Derived.Test.YtoeedbljiocpdaaDoorVCa
import Derived.Test.YtoeedbljiocpdaaDoorVCl
namespace Go.Proofs.YtoeedbljiocpdaaDoor
open Go Go.Ev
set_option maxRecDepth 20000
set_option linter.unusedVariables false
/-- a request's cells -/
structure AskV where
  (n0 n1 n2 n3 n4 n5 n6 n7 n8 n9 n10 : Int)
  name : ByteArray
  (by_ tok : SlV)
@[reducible] def AskV.cells (q : AskV) : List Value := cs_api_Ask q.n0 q.n1 q.n2 q.n3 q.n4 q.n5 q.n6 q.n7 q.n8 q.n9 q.n10 q.name q.by_ q.tok
def AskV.nums (q : AskV) : List Int := [q.n0, q.n1, q.n2, q.n3, q.n4, q.n5, q.n6, q.n7, q.n8, q.n9, q.n10]
def AskV.rest (q : AskV) : List Int := [q.n3, q.n4, q.n5, q.n6, q.n7, q.n8, q.n9, q.n10]
def AskV.mv (q : AskV) : Value := .agg ⟨q.cells⟩
def within2 (lo hi n : Int) : Bool := decide (lo ≤ n) && decide (n ≤ hi)
def mayAsk (q : AskV) : Bool := within2 1 6 q.n0 && (within2 1 1099511627776 q.n1 && (within2 1 13 q.n2 && (q.rest.all (within2 0 1099511627776) && (decide (q.name.size ≤ 300) && (decide (q.by_.n ≤ 2000) && decide (q.tok.n ≤ 100))))))
theorem ask_fault_ok (c : Int) (hc : c ≠ 0) (w : World) : Ok Pr f_ask_fault [.int .i64 c] w fun v w' => IsErr w w' v c ∧ Mod [] w w' := by
  refine V_ask_fault_of ?_
  unfold V_ask_fault
  exact nw_blk fun b w' hb h1 h2 _ => ⟨IsErr.mk h1 (by omega) hc, h2⟩
theorem ask_in_ok (n lo hi : Int) (w : World) : Ok Pr f_ask_in [.int .i64 n, .int .i64 lo, .int .i64 hi] w fun v w' => v = .bool (within2 lo hi n) ∧ w' = w := by
  refine V_ask_in_of ?_
  unfold V_ask_in
  exact ⟨rfl, rfl⟩
theorem ask_May_1_ok (n : Int) (w : World) : Ok Pr f_ask_May_1 [.int .i64 n] w fun v w' => v = .bool (!within2 0 1099511627776 n) ∧ w' = w := by
  refine V_ask_May_1_of ?_
  unfold V_ask_May_1
  refine call_of (ask_in_ok n 0 1099511627776 w) ?_
  rintro _ w1 ⟨rfl, hw⟩
  subst hw
  exact asB_b ⟨rfl, rfl⟩
/-- slices.IndexFunc over numbers, of a function that only computes -/
theorem IndexFunc_int_ok (g : FuncId) (p : Int → Bool) (hb : bodied Pr g = true) (hg : ∀ n w, Ok Pr g [.int .i64 n] w fun v w' => v = .bool (p n) ∧ w' = w) (x : SlV) (l : List Int) (hl : l.length ≤ 1000000) (w : World) (hx : Nums w x l) :
    Ok Pr f_slices_IndexFunc_int_int [.slice x.a x.n x.c, .func (.func g) #[] #[]] w fun v w' => ∃ n : Int, v = .int .i64 n ∧ (decide (0 ≤ n) = l.any p) ∧ w' = w := by
  refine V_slices_IndexFunc_int_int_of ?_
  unfold V_slices_IndexFunc_int_int
  have hxl := hx.len
  refine loop1_up 0 l.length (fun i w' => w' = w ∧ (l.take i).any p = false) rfl (by omega) ⟨rfl, rfl⟩ ?_ ?_
  · rintro again i w1 _ hi ⟨hw1, ha⟩ hag
    have hx1 : Nums w1 x l := by rw [hw1]; exact hx
    refine ite_true (decide_eq_true (by omega)) (hx1.ld hi rfl ?_)
    have key : callK Pr g [.int .i64 (l.getD i 0)] w1 fun v w2 => asB v fun t16 => iteP t16 ((fun (v : Value) (w' : World) => ∃ n : Int, v = .int .i64 n ∧ (decide (0 ≤ n) = l.any p) ∧ w' = w) (.int .i64 (i : Int)) w2) (I64 ((i : Int) + 1) ∧ again ((i : Int) + 1) w2) := by
      refine call_of (hg _ _) ?_
      rintro _ w2 ⟨rfl, hw2⟩
      have hmem : l.getD i 0 ∈ l := by simp [hi]
      refine asB_b (ite_intro (fun h => ?_) (fun h => ?_))
      · refine ⟨_, rfl, ?_, hw2.trans hw1⟩
        rw [decide_eq_true (by omega)]
        exact (List.any_eq_true.2 ⟨_, hmem, h⟩).symm
      · refine ⟨⟨by omega, by omega⟩, hag _ ⟨hw2.trans hw1, ?_⟩⟩
        rw [take_succ_getD _ _ hi 0, List.any_append, ha, List.any_cons, h]
        rfl
    show cond (bodied Pr g) _ False
    rw [hb]
    exact key
  · rintro again w1 ⟨hw1, ha⟩
    rw [List.take_length] at ha
    exact ite_false (decide_eq_false (by omega)) ⟨_, rfl, by rw [ha]; rfl, hw1⟩
theorem ContainsFunc_int_ok (g : FuncId) (p : Int → Bool) (hb : bodied Pr g = true) (hg : ∀ n w, Ok Pr g [.int .i64 n] w fun v w' => v = .bool (p n) ∧ w' = w) (x : SlV) (l : List Int) (hl : l.length ≤ 1000000) (w : World) (hx : Nums w x l) :
    Ok Pr f_slices_ContainsFunc_int_int [.slice x.a x.n x.c, .func (.func g) #[] #[]] w fun v w' => v = .bool (l.any p) ∧ w' = w := by
  refine V_slices_ContainsFunc_int_int_of ?_
  unfold V_slices_ContainsFunc_int_int
  refine call_of (IndexFunc_int_ok g p hb hg x l hl w hx) ?_
  rintro _ w1 ⟨n, rfl, hn, hw⟩
  subst hw
  exact asI_i ⟨by rw [hn], rfl⟩
theorem ask_numbers_ok (q : AskV) (w : World) : Ok Pr f_ask_numbers [.agg ⟨q.cells⟩] w fun v w' => ∃ y : SlV, v = .slice y.a y.n y.c ∧ Own w' w.heap.size t_int 1 y (i64s q.nums) ∧ Mod [] w w' := by
  refine V_ask_numbers_of ?_
  unfold V_ask_numbers
  refine (Mine.start w).nw fun p w1 H _ => ?_
  refine H.ldI 0 rfl (ad1 p 0) rfl (H.ldI 0 rfl (ad1 p 1) rfl (H.ldI 0 rfl (ad1 p 2) rfl (H.ldI 0 rfl (ad1 p 3) rfl (H.ldI 0 rfl (ad1 p 4) rfl (H.ldI 0 rfl (ad1 p 5) rfl ?_)))))
  refine H.ldI 0 rfl (ad1 p 6) rfl (H.ldI 0 rfl (ad1 p 7) rfl (H.ldI 0 rfl (ad1 p 8) rfl (H.ldI 0 rfl (ad1 p 9) rfl (H.ldI 0 rfl (ad1 p 10) rfl (H.nw fun p1 w2 H _ => ?_)))))
  have H := H.asRow 1 1 11 11 rfl rfl (Nat.le_refl _) (by simp only [maxLen]; omega)
  exact ⟨⟨some ⟨p1, 0, none⟩, 11, 11⟩, rfl, H.fresh0 1 rfl, H.mod⟩
theorem bod_May_1 : bodied Pr f_ask_May_1 = true := by kernel_rfl
theorem ask_May_ok (q : AskV) (w : World) : Ok Pr f_ask_May [.agg ⟨q.cells⟩] w fun v w' => v = .bool (mayAsk q) ∧ Mod [] w w' := by
  refine V_ask_May_of ?_
  unfold V_ask_May
  refine (Mine.start w).nw fun p w1 H _ => ?_
  refine H.ldI 0 rfl (ad1 p 0) rfl (call_of (ask_in_ok _ _ _ _) ?_)
  rintro _ w2 ⟨rfl, hw⟩
  subst hw
  refine asB_b (H.ldI 0 rfl (ad1 p 1) rfl ?_)
  unfold mayAsk
  refine ite_intro (fun h1 => ?_) (fun h1 => ?_)
  · rw [h1, Bool.true_and]
    refine call_of (ask_in_ok _ _ _ _) ?_
    rintro _ w3 ⟨rfl, hw⟩
    subst hw
    refine asB_b (H.ldI 0 rfl (ad1 p 2) rfl ?_)
    refine ite_intro (fun h2 => ?_) (fun h2 => ?_)
    · rw [h2, Bool.true_and]
      refine call_of (ask_in_ok _ _ _ _) ?_
      rintro _ w4 ⟨rfl, hw⟩
      subst hw
      refine asB_b (H.ld_api_Ask 0 rfl ?_)
      refine ite_intro (fun h3 => ?_) (fun h3 => ?_)
      · rw [h3, Bool.true_and]
        refine call_of (ask_numbers_ok q _) ?_
        rintro _ w5 ⟨y, rfl, hy, m5⟩
        have H := H.got m5 hy
        have hyl := hy.nums.len
        refine asSl_s (Sl.l (H.nums 1 rfl) (by omega) 3 rfl (by rw [← hyl]; show 3 ≤ 11; omega) fun z hz hzs _ => ?_)
        have hzn : Nums w5 z q.rest := hzs
        refine call_of (ContainsFunc_int_ok f_ask_May_1 _ bod_May_1 ask_May_1_ok z q.rest (by show 8 ≤ 1000000; omega) _ hzn) ?_
        rintro _ w6 ⟨rfl, hw⟩
        subst hw
        refine asB_b (H.ldS 0 rfl (ad1 p 11) rfl (H.ldL 0 rfl (ad1 p 12) rfl (H.ldL 0 rfl (ad1 p 13) rfl ⟨?_, H.mod⟩)))
        congr 1
        have e : (!q.rest.any fun n => !within2 0 1099511627776 n) = q.rest.all (within2 0 1099511627776) := by
          rw [List.not_any_eq_all_not]
          simp
        rw [e]
        have e1 : ∀ a b : Nat, decide (((a : Nat) : Int) ≤ (b : Int)) = decide (a ≤ b) := fun a b => by simp
        have e300 := e1 q.name.size 300
        have e2000 := e1 q.by_.n 2000
        have e100 := e1 q.tok.n 100
        simp only [Bool.and_assoc]
        rw [← e300, ← e2000, ← e100]
        rfl
      · rw [h3, Bool.false_and]
        exact H.ldS 0 rfl (ad1 p 11) rfl (H.ldL 0 rfl (ad1 p 12) rfl (H.ldL 0 rfl (ad1 p 13) rfl ⟨rfl, H.mod⟩))
    · rw [h2, Bool.false_and]
      exact H.ld_api_Ask 0 rfl (H.ldS 0 rfl (ad1 p 11) rfl (H.ldL 0 rfl (ad1 p 12) rfl (H.ldL 0 rfl (ad1 p 13) rfl ⟨rfl, H.mod⟩)))
  · rw [h1, Bool.false_and]
    exact H.ldI 0 rfl (ad1 p 2) rfl (H.ld_api_Ask 0 rfl (H.ldS 0 rfl (ad1 p 11) rfl (H.ldL 0 rfl (ad1 p 12) rfl (H.ldL 0 rfl (ad1 p 13) rfl ⟨rfl, H.mod⟩))))
/-- a request's body -/
@[irreducible] def bodyAsk (q : AskV) (lb lt : List B8) : List B8 := bes q.nums ++ laid (bOf q.name) ++ laids [lb, lt]
def bodyC (q : AskV) : Int := if mayAsk q = true then 0 else 2
@[irreducible] def bodyL (q : AskV) (lb lt : List B8) : List B8 := if mayAsk q = true then bodyAsk q lb lt else []
theorem ask_Body_ok (q : AskV) (lb lt : List B8) (w : World) (hb : Bytes w q.by_ lb) (ht : Bytes w q.tok lt) : Ok Pr f_ask_Body [.agg ⟨q.cells⟩] w fun v w' => Gave2 t_uint8 1 w w' v (u8s (bodyL q lb lt)) (bodyC q) := by
  refine V_ask_Body_of ?_
  unfold V_ask_Body
  have hbl := hb.len
  have htl := ht.len
  refine (Mine.start w).nw fun p w1 H _ => H.ld_api_Ask 0 rfl (call_of (ask_May_ok q _) ?_)
  rintro _ w2 ⟨rfl, m2⟩
  have H := H.frame m2
  refine asB_b (ite_intro (fun hm => ?_) (fun hm => ?_))
  · have hm : mayAsk q = false := by simpa using hm
    have ec : bodyC q = 2 := by unfold bodyC; rw [hm]; rfl
    have el : bodyL q lb lt = [] := by unfold bodyL; rw [hm]; rfl
    rw [ec, el]
    refine call_of (ask_fault_ok 2 (by decide) _) ?_
    rintro e w3 ⟨h1, m1⟩
    exact Gave2.no (h1.from H.mod.size) (H.frame m1).mod
  · have hm : mayAsk q = true := by simpa using hm
    have ec : bodyC q = 0 := by unfold bodyC; rw [hm]; rfl
    have el : bodyL q lb lt = bes q.nums ++ laid (bOf q.name) ++ laids [lb, lt] := by unfold bodyL bodyAsk; rw [hm]; rfl
    rw [ec, el]
    have hsz : q.name.size ≤ 300 ∧ q.by_.n ≤ 2000 ∧ q.tok.n ≤ 100 := by
      unfold mayAsk at hm
      simp only [Bool.and_eq_true, decide_eq_true_eq] at hm
      exact hm.2.2.2.2
    have H := H.drew
    refine H.ld_api_Ask 0 rfl (H.ldS 0 rfl (ad1 p 11) rfl (H.ldL 0 rfl (ad1 p 12) rfl (H.ldL 0 rfl (ad1 p 13) rfl ?_)))
    have hbn : (bes q.nums).length = 88 := length_bes _
    have hn2 : (bes q.nums ++ laid (bOf q.name)).length ≤ 400 := by
      rw [List.length_append, hbn, laid, List.length_append, length_be, length_bOf]; omega
    -- the last call
    have last : ∀ {w' : World} {L : List Res} (i j : Nat) (y : SlV) (p1 : Nat), Mine w [] w' L → L[i]? = some (.row t_uint8 1 y (u8s (bes q.nums ++ laid (bOf q.name)))) → L[j]? = some (.blk p1 [q.by_.v, q.tok.v] t_s_uint8) →
        callK Pr f_code_Bytes [.slice y.a y.n y.c, .slice (some ⟨p1, 0, none⟩) 2 2] w' fun v w'' => asSl v fun t => Gave2 t_uint8 1 w w'' (.tuple ⟨[.slice t.a t.n t.c, .nilIface]⟩) (u8s (bes q.nums ++ laid (bOf q.name) ++ laids [lb, lt])) 0 := by
      intro w' L i j y p1 H hi hj
      refine call_of (code_Bytes_ok y _ ⟨some ⟨p1, 0, none⟩, 2, 2⟩ [lb, lt] (by omega) (by simp) (fun z hz => ?_) _ (H.bytes i hi) (Parts.of2b (H.blk j hj) (by simp) (hb.mod0 H.mod) (off_nil _) (ht.mod0 H.mod) (off_nil _))) ?_
      · simp only [List.mem_cons, List.not_mem_nil, or_false] at hz
        rcases hz with rfl | rfl <;> omega
      · rintro _ w'' ⟨u, rfl, hu, m⟩
        have H := H.got m hu
        exact asSl_s (Gave2.yes (H.fresh0 L.length (by simp)) H.mod)
    have nums : ∀ {w' : World} {L : List Res} {K : SlV → World → Prop}, Mine w [] w' L → (∀ y w'', Mine w [] w'' (L ++ [.row t_int 1 y (i64s q.nums)]) → K y w'') → callK Pr f_ask_numbers [.agg ⟨q.cells⟩] w' fun v w'' => asSl v fun t => K t w'' := by
      intro w' L K H hK
      refine call_of (ask_numbers_ok q _) ?_
      rintro _ w'' ⟨y, rfl, hy, m⟩
      exact asSl_s (hK y w'' (H.got m hy))
    have numb : ∀ {w' : World} {L : List Res} {K : SlV → World → Prop} (i : Nat) (y : SlV), Mine w [] w' L → L[i]? = some (.row t_int 1 y (i64s q.nums)) → (∀ z w'', Mine w [] w'' (L ++ [.row t_uint8 1 z (u8s (bes q.nums))]) → K z w'') → callK Pr f_code_Number [.slice none 0 0, .slice y.a y.n y.c] w' fun v w'' => asSl v fun t => K t w'' := by
      intro w' L K i y H hi hK
      refine call_of (code_Number_ok ⟨none, 0, 0⟩ [] y q.nums (by simp) (by show 11 ≤ 1000000; omega) _ (Bytes.nil _) (H.nums i hi)) ?_
      rintro _ w'' ⟨z, rfl, hz, m⟩
      exact asSl_s (hK z w'' (H.got m hz))
    have text : ∀ {w' : World} {L : List Res} {K : SlV → World → Prop} (i : Nat) (y : SlV), Mine w [] w' L → L[i]? = some (.row t_uint8 1 y (u8s (bes q.nums))) → (∀ z w'', Mine w [] w'' (L ++ [.row t_uint8 1 z (u8s (bes q.nums ++ laid (bOf q.name)))]) → K z w'') → callK Pr f_code_Text [.slice y.a y.n y.c, .string q.name] w' fun v w'' => asSl v fun t => K t w'' := by
      intro w' L K i y H hi hK
      refine call_of (code_Text_ok y _ q.name (by omega) (by omega) _ (H.bytes i hi)) ?_
      rintro _ w'' ⟨z, rfl, hz, m⟩
      exact asSl_s (hK z w'' (H.got m hz))
    have kp : ∀ {w' w'' : World} {L L' : List Res} {i n : Nat}, Mine w [] w' L → Mine w [] w'' L' → L[0]? = some (.blk p q.cells t_api_Ask) → L'[0]? = some (.blk p q.cells t_api_Ask) → kept (Addr.add ⟨p, 0, none⟩ i) n w' w'' := fun H H' h h' => keptB (H.blk 0 h) (H'.blk 0 h') (add_block _ _)
    have kp0 : ∀ {w' w'' : World} {L L' : List Res} {n : Nat}, Mine w [] w' L → Mine w [] w'' L' → L[0]? = some (.blk p q.cells t_api_Ask) → L'[0]? = some (.blk p q.cells t_api_Ask) → kept ⟨p, 0, none⟩ n w' w'' := fun H H' h h' => keptB (H.blk 0 h) (H'.blk 0 h') rfl
    refine ⟨?_, ?_⟩
    · refine nums H fun y w4 H4 => ⟨kp H H4 rfl rfl, kp H H4 rfl rfl, kp H H4 rfl rfl, ?_, ?_⟩
      · refine numb 1 y H4 rfl fun z w5 H5 => ⟨kp H4 H5 rfl rfl, kp H4 H5 rfl rfl, kp H4 H5 rfl rfl, ?_, ?_⟩
        · refine text 2 z H5 rfl fun u w6 H6 => ⟨kp H5 H6 rfl rfl, kp H5 H6 rfl rfl, H6.nw fun p1 w7 H7 _ => ⟨kp H6 H7 rfl rfl, kp0 H6 H7 rfl rfl, ?_⟩⟩
          exact last 3 4 u p1 H7 rfl rfl
        · refine H5.nw fun p1 w6 H6 _ => ⟨kp H5 H6 rfl rfl, kp0 H5 H6 rfl rfl, text 2 z H6 rfl fun u w7 H7 => ⟨kp H6 H7 rfl rfl, kp H6 H7 rfl rfl, ?_⟩⟩
          exact last 4 3 u p1 H7 rfl rfl
      · refine H4.nw fun p1 w5 H5 _ => ⟨kp H4 H5 rfl rfl, kp0 H4 H5 rfl rfl, numb 1 y H5 rfl fun z w6 H6 => ⟨kp H5 H6 rfl rfl, kp H5 H6 rfl rfl, kp H5 H6 rfl rfl, text 3 z H6 rfl fun u w7 H7 => ⟨kp H6 H7 rfl rfl, kp H6 H7 rfl rfl, ?_⟩⟩⟩
        exact last 4 2 u p1 H7 rfl rfl
    · refine H.nw fun p1 w4 H4 _ => ⟨kp H H4 rfl rfl, kp0 H H4 rfl rfl, nums H4 fun y w5 H5 => ⟨kp H4 H5 rfl rfl, kp H4 H5 rfl rfl, kp H4 H5 rfl rfl, numb 2 y H5 rfl fun z w6 H6 => ⟨kp H5 H6 rfl rfl, kp H5 H6 rfl rfl, kp H5 H6 rfl rfl, text 3 z H6 rfl fun u w7 H7 => ⟨kp H6 H7 rfl rfl, kp H6 H7 rfl rfl, ?_⟩⟩⟩⟩
      exact last 4 1 u p1 H7 rfl rfl
end Go.Proofs.YtoeedbljiocpdaaDoor
