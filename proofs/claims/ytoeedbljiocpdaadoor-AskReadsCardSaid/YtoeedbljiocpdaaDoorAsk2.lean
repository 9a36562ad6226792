/- REQUESTS: which are the same; the document's; a reading that is refused by its size. -/
import Derived.Test.YtoeedbljiocpdaaDoorAsk
namespace Go.Proofs.YtoeedbljiocpdaaDoor
open Go Go.Ev
set_option maxRecDepth 20000
set_option linter.unusedVariables false
theorem slices_Equal_int_ok (x y : SlV) (l m : List Int) (w : World) (hx : Nums w x l) (hy : Nums w y m) (hl : l.length < 1000000000000) : Ok Pr f_slices_Equal_int_int [.slice x.a x.n x.c, .slice y.a y.n y.c] w fun v w' => v = .bool (decide (l = m)) ∧ Mod [] w w' := by
  refine V_slices_Equal_int_int_of ?_
  unfold V_slices_Equal_int_int
  have hxl := hx.len
  have hyl := hy.len
  refine ite_intro (fun h => ?_) (fun h => ?_)
  · have : l ≠ m := fun e => by
      have : l.length = m.length := by rw [e]
      simp only [Bool.not_eq_true', decide_eq_false_iff_not] at h
      omega
    exact ⟨by rw [decide_eq_false this], Mod.refl _ _⟩
  · have hlen : l.length = m.length := by
      simp only [Bool.not_eq_false', decide_eq_true_eq] at h
      omega
    refine loop1_up 0 l.length (fun i w' => Mod [] w w' ∧ ∀ j, j < i → l.getD j 0 = m.getD j 0) rfl (by omega) ⟨Mod.refl _ _, fun j h => by omega⟩ ?_ ?_
    · rintro again i w1 _ hi ⟨hm, he⟩ hag
      have hm' := hm.trans (Mod.drew [] w1)
      refine ite_true (by rw [← hxl]; simpa using hi) ((hx.mod0 hm').ld hi rfl ((hy.mod0 hm').ld (by omega) rfl (ite_intro (fun h => ?_) (fun h => ?_))))
      · have : l ≠ m := fun e => by
          subst e
          simp at h
        exact ⟨by rw [decide_eq_false this], hm'⟩
      · refine ⟨⟨by omega, by omega⟩, hag _ ⟨hm', fun j hj => ?_⟩⟩
        rcases Nat.lt_or_ge j i with h1 | h1
        · exact he j h1
        · have : j = i := by omega
          subst this
          simpa using h
    · rintro again w1 ⟨hm, he⟩
      refine ite_false (by rw [← hxl]; simp) ⟨by rw [decide_eq_true (List.ext_getElem hlen fun i h1 h2 => by have := he i h1; simpa [h1, h2] using this)], hm⟩
theorem bytes_Equal_ok (x y : SlV) (l m : List B8) (w : World) (hx : Bytes w x l) (hy : Bytes w y m) : Ok Pr f_bytes_Equal [.slice x.a x.n x.c, .slice y.a y.n y.c] w fun v w' => v = .bool (decide (l = m)) ∧ w' = w := by
  refine V_bytes_Equal_of ?_
  unfold V_bytes_Equal
  refine b2s_of hx (b2s_of hy ⟨?_, rfl⟩)
  congr 1
  exact decide_eq_decide.2 strOf_inj
/-- are two requests one? -/
@[irreducible] def sameAsk (q : AskV) (lb lt : List B8) (r : AskV) (mb mt : List B8) : Bool := decide (q.nums = r.nums) && (decide (q.name = r.name) && (decide (lb = mb) && decide (lt = mt)))
theorem length_nums (q : AskV) : q.nums.length = 11 := rfl
theorem ask_Same_ok (q : AskV) (lb lt : List B8) (r : AskV) (mb mt : List B8) (w : World) (hb : Bytes w q.by_ lb) (ht : Bytes w q.tok lt) (hb' : Bytes w r.by_ mb) (ht' : Bytes w r.tok mt) :
    Ok Pr f_ask_Same [.agg ⟨q.cells⟩, .agg ⟨r.cells⟩] w fun v w' => v = .bool (sameAsk q lb lt r mb mt) ∧ Mod [] w w' := by
  refine V_ask_Same_of ?_
  unfold V_ask_Same
  refine (Mine.start w).nw fun p w1 H _ => H.nw fun p1 w2 H _ => ?_
  have H := H.drew
  refine H.ld_api_Ask 0 rfl (H.ld_api_Ask 1 rfl (call_of (ask_numbers_ok q _) ?_))
  rintro _ w3 ⟨y, rfl, hy, m3⟩
  have H3 := H.got m3 hy
  refine asSl_s ⟨keptB (H.blk 1 rfl) (H3.blk 1 rfl) rfl, call_of (ask_numbers_ok r _) ?_⟩
  rintro _ w4 ⟨z, rfl, hz, m4⟩
  have H := H3.got m4 hz
  refine asSl_s (call_of (slices_Equal_int_ok y z _ _ _ (H.nums 2 rfl) (H.nums 3 rfl) (by rw [length_nums]; omega)) ?_)
  rintro _ w5 ⟨rfl, m5⟩
  have H := H.frame m5
  unfold sameAsk
  refine asB_b (H.ldS 0 rfl (ad1 p 11) rfl (H.ldS 1 rfl (ad1 p1 11) rfl (H.ldL 0 rfl (ad1 p 12) rfl (H.ldL 1 rfl (ad1 p1 12) rfl (ite_intro (fun h => ?_) (fun h => ?_))))))
  · simp only [Bool.and_eq_true] at h
    rw [h.1, h.2, Bool.true_and, Bool.true_and]
    refine call_of (bytes_Equal_ok q.by_ r.by_ lb mb _ (hb.mod0 H.mod) (hb'.mod0 H.mod)) ?_
    rintro _ w6 ⟨rfl, hw⟩
    subst hw
    refine asB_b (H.ldL 0 rfl (ad1 p 13) rfl (H.ldL 1 rfl (ad1 p1 13) rfl (ite_intro (fun h2 => ?_) (fun h2 => ?_))))
    · rw [h2, Bool.true_and]
      refine call_of (bytes_Equal_ok q.tok r.tok lt mt _ (ht.mod0 H.mod) (ht'.mod0 H.mod)) ?_
      rintro _ w7 ⟨rfl, hw⟩
      subst hw
      exact asB_b ⟨rfl, H.mod⟩
    · rw [h2]
      exact ⟨rfl, H.mod⟩
  · refine H.ldL 0 rfl (ad1 p 13) rfl (H.ldL 1 rfl (ad1 p1 13) rfl ⟨?_, H.mod⟩)
    rw [← Bool.and_assoc, h]
    rfl
theorem law0_SameAsk_ok (q : AskV) (lb lt : List B8) (r : AskV) (mb mt : List B8) (h1 : lb.length ≤ 1000000000) (h2 : lt.length ≤ 1000000000) (w : World) (hb : Bytes w q.by_ lb) (ht : Bytes w q.tok lt) (hb' : Bytes w r.by_ mb) (ht' : Bytes w r.tok mt) :
    Ok Pr f_law0_SameAsk [.agg ⟨q.cells⟩, .agg ⟨r.cells⟩] w fun v w' => v = .bool (sameAsk q lb lt r mb mt) ∧ Mod [] w w' := by
  refine V_law0_SameAsk_of ?_
  unfold V_law0_SameAsk
  refine (Mine.start w).nw fun p w1 H _ => H.nw fun p1 w2 H _ => ?_
  refine H.ldI 0 rfl (ad1 p 0) rfl (H.ldI 1 rfl (ad1 p1 0) rfl (H.ldI 0 rfl (ad1 p 1) rfl (H.ldI 1 rfl (ad1 p1 1) rfl (H.ldI 0 rfl (ad1 p 2) rfl (H.ldI 1 rfl (ad1 p1 2) rfl ?_)))))
  refine H.ldI 0 rfl (ad1 p 3) rfl (H.ldI 1 rfl (ad1 p1 3) rfl (H.ldI 0 rfl (ad1 p 4) rfl (H.ldI 1 rfl (ad1 p1 4) rfl (H.ldI 0 rfl (ad1 p 5) rfl (H.ldI 1 rfl (ad1 p1 5) rfl ?_)))))
  refine H.ldI 0 rfl (ad1 p 6) rfl (H.ldI 1 rfl (ad1 p1 6) rfl (H.ldI 0 rfl (ad1 p 7) rfl (H.ldI 1 rfl (ad1 p1 7) rfl (H.ldI 0 rfl (ad1 p 8) rfl (H.ldI 1 rfl (ad1 p1 8) rfl ?_)))))
  refine H.ldI 0 rfl (ad1 p 9) rfl (H.ldI 1 rfl (ad1 p1 9) rfl (H.ldI 0 rfl (ad1 p 10) rfl (H.ldI 1 rfl (ad1 p1 10) rfl ?_)))
  refine H.ldS 0 rfl (ad1 p 11) rfl (H.ldS 1 rfl (ad1 p1 11) rfl (H.ldL 0 rfl (ad1 p 12) rfl (H.ldL 1 rfl (ad1 p1 12) rfl ?_)))
  have hnum : (decide (q.n0 = r.n0) && decide (q.n1 = r.n1) && decide (q.n2 = r.n2) && decide (q.n3 = r.n3) && decide (q.n4 = r.n4) && decide (q.n5 = r.n5) && decide (q.n6 = r.n6) && decide (q.n7 = r.n7) && decide (q.n8 = r.n8) && decide (q.n9 = r.n9) && decide (q.n10 = r.n10)) = decide (q.nums = r.nums) := by
    unfold AskV.nums
    simp only [List.cons.injEq, and_true, Bool.decide_and, Bool.and_assoc]
  rw [hnum]
  unfold sameAsk
  refine ite_intro (fun h => ?_) (fun h => ?_)
  · simp only [Bool.and_eq_true] at h
    rw [h.1, h.2, Bool.true_and, Bool.true_and]
    refine call_of (law0_SameBytes_ok q.by_ r.by_ lb mb _ (hb.mod0 H.mod) (hb'.mod0 H.mod) (by omega)) ?_
    rintro _ w6 ⟨rfl, m6⟩
    have H := H.frame m6
    refine asB_b (H.ldL 0 rfl (ad1 p 13) rfl (H.ldL 1 rfl (ad1 p1 13) rfl (ite_intro (fun h2 => ?_) (fun h2 => ?_))))
    · rw [h2, Bool.true_and]
      refine call_of (law0_SameBytes_ok q.tok r.tok lt mt _ (ht.mod0 H.mod) (ht'.mod0 H.mod) (by omega)) ?_
      rintro _ w7 ⟨rfl, m7⟩
      exact asB_b ⟨rfl, (H.frame m7).mod⟩
    · rw [h2]
      exact ⟨rfl, H.mod⟩
  · refine H.ldL 0 rfl (ad1 p 13) rfl (H.ldL 1 rfl (ad1 p1 13) rfl ⟨?_, H.mod⟩)
    rw [← Bool.and_assoc, h]
    rfl
theorem law0_GreatAsk_ok (q : AskV) (w : World) : Ok Pr f_law0_GreatAsk [.agg ⟨q.cells⟩] w fun v w' => ∃ b, v = .bool b ∧ Mod [] w w' ∧ (b = false → q.name.size ≤ 400 ∧ q.by_.n ≤ 3000 ∧ q.tok.n ≤ 200) := by
  refine V_law0_GreatAsk_of ?_
  unfold V_law0_GreatAsk
  refine (Mine.start w).nw fun p w1 H _ => ?_
  refine H.ldS 0 rfl (ad1 p 11) rfl (H.ldL 0 rfl (ad1 p 12) rfl (H.ldL 0 rfl (ad1 p 13) rfl ⟨_, rfl, H.mod, fun h => ?_⟩))
  simp only [Bool.or_eq_false_iff, decide_eq_false_iff_not] at h
  omega
/-! ### the document's -/
theorem ref15_Numbers_ok (q : AskV) (w : World) : Ok Pr f_ref15_Numbers [.agg ⟨q.cells⟩] w fun v w' => ∃ y : SlV, v = .slice y.a y.n y.c ∧ Own w' w.heap.size t_int 1 y (i64s q.rest) ∧ Mod [] w w' := by
  refine V_ref15_Numbers_of ?_
  unfold V_ref15_Numbers
  refine (Mine.start w).nw fun p w1 H _ => ?_
  refine H.ldI 0 rfl (ad1 p 3) rfl (H.ldI 0 rfl (ad1 p 4) rfl (H.ldI 0 rfl (ad1 p 5) rfl ?_))
  refine H.ldI 0 rfl (ad1 p 6) rfl (H.ldI 0 rfl (ad1 p 7) rfl (H.ldI 0 rfl (ad1 p 8) rfl (H.ldI 0 rfl (ad1 p 9) rfl (H.ldI 0 rfl (ad1 p 10) rfl (H.nw fun p1 w2 H _ => ?_)))))
  have H := H.asRow 1 1 8 8 rfl rfl (Nat.le_refl _) (by simp only [maxLen]; omega)
  exact ⟨⟨some ⟨p1, 0, none⟩, 8, 8⟩, rfl, H.fresh0 1 rfl, H.mod⟩
theorem ref15_May_ok (q : AskV) (w : World) : Ok Pr f_ref15_May [.agg ⟨q.cells⟩] w fun v w' => v = .bool (mayAsk q) ∧ Mod [] w w' := by
  refine V_ref15_May_of ?_
  unfold V_ref15_May
  refine (Mine.start w).nw fun p w1 H _ => H.ld_api_Ask 0 rfl (call_of (ref15_Numbers_ok q _) ?_)
  rintro _ w2 ⟨y, rfl, hy, m2⟩
  have H := H.got m2 hy
  have hyl := hy.nums.len
  have hr8 : q.rest.length = 8 := rfl
  have hmay : mayAsk q = (q.rest.all (within2 0 1099511627776) && (within2 1 6 q.n0 && (within2 1 1099511627776 q.n1 && (within2 1 13 q.n2 && (decide (q.name.size ≤ 300) && (decide (q.by_.n ≤ 2000) && decide (q.tok.n ≤ 100))))))) := by
    unfold mayAsk
    generalize q.rest.all (within2 0 1099511627776) = a
    generalize within2 1 6 q.n0 = b
    generalize within2 1 1099511627776 q.n1 = c
    generalize within2 1 13 q.n2 = d
    cases a <;> cases b <;> cases c <;> cases d <;> rfl
  have hrest : q.rest = q.rest := rfl
  refine asSl_s ?_
  rw [hmay]
  generalize q.rest = l at *
  refine loop1_up 0 8 (fun i w' => w' = w2 ∧ (l.take i).all (within2 0 1099511627776) = true) rfl (by omega) ⟨rfl, rfl⟩ ?_ ?_
  · rintro again i w3 _ hi ⟨hw, ha⟩ hag
    subst hw
    have hmem : l.getD i 0 ∈ l := by simp [show i < l.length by omega]
    refine ite_true (decide_eq_true (by omega)) ((H.nums 1 rfl).ld (by omega) rfl ?_)
    have no : within2 0 1099511627776 (l.getD i 0) = false → (l.all (within2 0 1099511627776)) = false := fun h => by
      cases hh : l.all (within2 0 1099511627776) with
      | false => rfl
      | true =>
        have := List.all_eq_true.1 hh _ hmem
        rw [h] at this; cases this
    refine ite_intro (fun h => ?_) (fun h => ?_)
    · have h := of_decide_eq_true h
      rw [no (by unfold within2; rw [decide_eq_false (by omega)]; rfl)]
      exact ⟨rfl, H.mod⟩
    · have h := of_decide_eq_false h
      refine (H.nums 1 rfl).ld (by omega) rfl (ite_intro (fun h2 => ?_) (fun h2 => ?_))
      · have h2 := of_decide_eq_true h2
        rw [no (by unfold within2; rw [Bool.and_eq_false_iff]; exact .inr (decide_eq_false (by omega)))]
        exact ⟨rfl, H.mod⟩
      · have h2 := of_decide_eq_false h2
        refine ⟨⟨by omega, by omega⟩, hag _ ⟨rfl, ?_⟩⟩
        rw [take_succ_getD _ _ (by omega) 0, List.all_append, ha, List.all_cons]
        unfold within2
        rw [decide_eq_true (show (0 : Int) ≤ l.getD i 0 by omega), decide_eq_true (show l.getD i 0 ≤ 1099511627776 by omega)]
        rfl
  · rintro again w3 ⟨hw, ha⟩
    subst hw
    rw [List.take_of_length_le (by omega)] at ha
    rw [ha, Bool.true_and]
    refine ite_false (decide_eq_false (by omega)) ?_
    refine H.ldI 0 rfl (ad1 p 0) rfl (H.ldI 0 rfl (ad1 p 0) rfl (H.ldI 0 rfl (ad1 p 1) rfl (H.ldI 0 rfl (ad1 p 1) rfl (H.ldI 0 rfl (ad1 p 2) rfl (H.ldI 0 rfl (ad1 p 2) rfl ?_)))))
    refine H.ldS 0 rfl (ad1 p 11) rfl (H.ldL 0 rfl (ad1 p 12) rfl (H.ldL 0 rfl (ad1 p 13) rfl ⟨?_, H.mod⟩))
    congr 1
    have e1 : ∀ a b : Nat, decide (((a : Nat) : Int) ≤ (b : Int)) = decide (a ≤ b) := fun a b => by simp
    have e300 := e1 q.name.size 300
    have e2000 := e1 q.by_.n 2000
    have e100 := e1 q.tok.n 100
    unfold within2
    simp only [Bool.and_assoc]
    rw [← e300, ← e2000, ← e100]
    rfl
theorem ref15_Laid_ok (q : AskV) (lb lt : List B8) (hn : q.name.size ≤ 1000) (h1 : lb.length ≤ 10000) (h2 : lt.length ≤ 10000) (w : World) (hb : Bytes w q.by_ lb) (ht : Bytes w q.tok lt) : Ok Pr f_ref15_Laid [.agg ⟨q.cells⟩] w fun v w' => Gave w w' v (bodyAsk q lb lt) := by
  refine V_ref15_Laid_of ?_
  unfold V_ref15_Laid
  have eb : bodyAsk q lb lt = bes q.nums ++ laid (bOf q.name) ++ laids [lb, lt] := by unfold bodyAsk; rfl
  have en : bes q.nums = bes [q.n0, q.n1, q.n2] ++ bes q.rest := (bes_append [q.n0, q.n1, q.n2] q.rest).symm ▸ rfl
  rw [eb]
  refine (Mine.start w).nw fun p w1 H _ => ?_
  refine H.ldI 0 rfl (ad1 p 0) rfl (H.ldI 0 rfl (ad1 p 1) rfl (H.ldI 0 rfl (ad1 p 2) rfl (H.nw fun p1 w2 H _ => ?_)))
  refine call_of (ref14_Number_ok ⟨none, 0, 0⟩ [] ⟨some ⟨p1, 0, none⟩, 3, 3⟩ [q.n0, q.n1, q.n2] (by simp) (by simp) _ (Bytes.nil _) (H.blkNums 1 (l := [q.n0, q.n1, q.n2]) rfl)) ?_
  rintro _ w3 ⟨y, rfl, hy, m3⟩
  rw [List.nil_append] at hy
  have H := H.got m3 hy
  refine asSl_s (H.ld_api_Ask 0 rfl (call_of (ref15_Numbers_ok q _) ?_))
  rintro _ w4 ⟨z, rfl, hz, m4⟩
  have H := H.got m4 hz
  have hbl := length_bes [q.n0, q.n1, q.n2]
  have hbl2 := length_bes q.rest
  have hr8 : q.rest.length = 8 := rfl
  have h33 : [q.n0, q.n1, q.n2].length = 3 := rfl
  refine asSl_s (call_of (ref14_Number_ok y _ z q.rest (by omega) (by omega) _ (H.bytes 2 rfl) (H.nums 3 rfl)) ?_)
  rintro _ w5 ⟨u, rfl, hu, m5⟩
  rw [← en] at hu
  have H := H.got m5 hu
  have hbn : (bes q.nums).length = 88 := length_bes _
  have H := H.drew
  refine asSl_s (H.ldS 0 rfl (ad1 p 11) rfl (H.ldL 0 rfl (ad1 p 12) rfl (H.ldL 0 rfl (ad1 p 13) rfl ?_)))
  have hn2 : (bes q.nums ++ laid (bOf q.name)).length ≤ 2000 := by
    rw [List.length_append, hbn, laid, List.length_append, length_be, length_bOf]; omega
  have last : ∀ {w' : World} {L : List Res} (i j : Nat) (y : SlV) (p1 : Nat), Mine w [] w' L → L[i]? = some (.row t_uint8 1 y (u8s (bes q.nums ++ laid (bOf q.name)))) → L[j]? = some (.blk p1 [q.by_.v, q.tok.v] t_s_uint8) →
      callK Pr f_ref14_Bytes [.slice y.a y.n y.c, .slice (some ⟨p1, 0, none⟩) 2 2] w' fun v w'' => asSl v fun t => Gave w w'' (.slice t.a t.n t.c) (bes q.nums ++ laid (bOf q.name) ++ laids [lb, lt]) := by
    intro w' L i j y p1 H hi hj
    refine call_of (ref14_Bytes_ok y _ ⟨some ⟨p1, 0, none⟩, 2, 2⟩ [lb, lt] (by omega) (by simp) (fun z hz => ?_) _ (H.bytes i hi) (Parts.of2b (H.blk j hj) (by simp) (hb.mod0 H.mod) (off_nil _) (ht.mod0 H.mod) (off_nil _))) ?_
    · simp only [List.mem_cons, List.not_mem_nil, or_false] at hz
      rcases hz with rfl | rfl <;> omega
    · rintro _ w'' ⟨u, rfl, hu, m⟩
      have H := H.got m hu
      exact asSl_s ⟨u, rfl, H.fresh0 L.length (by simp), H.mod⟩
  have kp : ∀ {w' w'' : World} {L L' : List Res} {i n : Nat}, Mine w [] w' L → Mine w [] w'' L' → L[0]? = some (.blk p q.cells t_api_Ask) → L'[0]? = some (.blk p q.cells t_api_Ask) → kept (Addr.add ⟨p, 0, none⟩ i) n w' w'' := fun H H' h h' => keptB (H.blk 0 h) (H'.blk 0 h') (add_block _ _)
  have text : ∀ {w' : World} {L : List Res} {K : SlV → World → Prop} (i : Nat) (y : SlV), Mine w [] w' L → L[i]? = some (.row t_uint8 1 y (u8s (bes q.nums))) → (∀ z w'', Mine w [] w'' (L ++ [.row t_uint8 1 z (u8s (bes q.nums ++ laid (bOf q.name)))]) → K z w'') → callK Pr f_ref14_Text [.slice y.a y.n y.c, .string q.name] w' fun v w'' => asSl v fun t => K t w'' := by
    intro w' L K i y H hi hK
    refine call_of (ref14_Text_ok y _ q.name (by omega) (by omega) _ (H.bytes i hi)) ?_
    rintro _ w'' ⟨z, rfl, hz, m⟩
    exact asSl_s (hK z w'' (H.got m hz))
  refine ⟨?_, ?_⟩
  · refine text 4 u H rfl fun z w6 H6 => ⟨kp H H6 rfl rfl, kp H H6 rfl rfl, H6.nw fun p2 w7 H7 _ => ⟨kp H6 H7 rfl rfl, ?_⟩⟩
    exact last 5 6 z p2 H7 rfl rfl
  · refine H.nw fun p2 w6 H6 _ => ⟨kp H H6 rfl rfl, text 4 u H6 rfl fun z w7 H7 => ⟨kp H6 H7 rfl rfl, kp H6 H7 rfl rfl, ?_⟩⟩
    exact last 6 5 z p2 H7 rfl rfl
theorem ref15_Body_ok (q : AskV) (lb lt : List B8) (w : World) (hb : Bytes w q.by_ lb) (ht : Bytes w q.tok lt) : Ok Pr f_ref15_Body [.agg ⟨q.cells⟩] w fun v w' => GaveC t_uint8 1 w w' v (u8s (bodyL q lb lt)) (bodyC q) := by
  refine V_ref15_Body_of ?_
  unfold V_ref15_Body
  have hbl := hb.len
  have htl := ht.len
  refine (Mine.start w).nw fun p w1 H _ => H.ld_api_Ask 0 rfl (call_of (ref15_May_ok q _) ?_)
  rintro _ w2 ⟨rfl, m2⟩
  have H := H.frame m2
  refine asB_b (ite_intro (fun hm => ?_) (fun hm => ?_))
  · have hm : mayAsk q = false := by simpa using hm
    have ec : bodyC q = 2 := by unfold bodyC; rw [hm]; rfl
    have el : bodyL q lb lt = [] := by unfold bodyL; rw [hm]; rfl
    rw [ec, el]
    exact ⟨⟨none, 0, 0⟩, rfl, Own.nil _ _ _ _, H.mod⟩
  · have hm : mayAsk q = true := by simpa using hm
    have ec : bodyC q = 0 := by unfold bodyC; rw [hm]; rfl
    have el : bodyL q lb lt = bodyAsk q lb lt := by unfold bodyL; rw [hm]; rfl
    rw [ec, el]
    have hsz : q.name.size ≤ 300 ∧ q.by_.n ≤ 2000 ∧ q.tok.n ≤ 100 := by
      unfold mayAsk at hm
      simp only [Bool.and_eq_true, decide_eq_true_eq] at hm
      exact hm.2.2.2.2
    refine H.ld_api_Ask 0 rfl (call_of (ref15_Laid_ok q lb lt (by omega) (by omega) (by omega) _ (hb.mod0 H.mod) (ht.mod0 H.mod)) ?_)
    rintro _ w3 ⟨y, rfl, hy, m3⟩
    have H := H.got m3 hy
    exact asSl_s ⟨y, rfl, H.fresh0 1 rfl, H.mod⟩
/-! ### what a reading refuses by its size -/
def askZ : AskV := ⟨0, 0, 0, 0, 0, 0, 0, 0, 0, 0, 0, S_empty, ⟨none, 0, 0⟩, ⟨none, 0, 0⟩⟩
theorem zc_Ask : zc Pr t_api_Ask = askZ.cells := by kernel_rfl
theorem ask_Read_size (x : SlV) (hs : x.n < 2420 ∨ 6000 < x.n) (w : World) : Ok Pr f_ask_Read [.slice x.a x.n x.c] w fun v w' => ∃ er, v = .tuple ⟨[.agg ⟨askZ.cells⟩, .slice none 0 0, .slice none 0 0, er]⟩ ∧ IsErr w w' er 3 ∧ Mod [] w w' := by
  refine V_ask_Read_of ?_
  unfold V_ask_Read
  rw [zc_Ask]
  refine (Mine.start w).nw fun p w1 H _ => call_of (sign_Sizes_ok 1 _) ?_
  rintro _ w2 ⟨rfl, m2⟩
  have H := H.frame m2
  refine ⟨_, rfl, _, rfl, _, rfl, _, rfl, rfl, ite_true ?_ ?_⟩
  · have e : (sgS 1 : Int) = 2420 := rfl
    rw [e]
    simp only [Bool.or_eq_true, decide_eq_true_eq]
    omega
  · refine call_of (ask_fault_ok 3 (by decide) _) ?_
    rintro e w3 ⟨h3, m3⟩
    have H := H.gotE m3 h3
    refine H.sT_api_Ask 0 rfl rfl fun w4 H => H.ld_api_Ask 0 rfl ⟨e, rfl, ⟨H.err 1 rfl, fun b hb => (H.own 1 _ rfl b hb).resolve_left (by simp)⟩, H.mod⟩
end Go.Proofs.YtoeedbljiocpdaaDoor
