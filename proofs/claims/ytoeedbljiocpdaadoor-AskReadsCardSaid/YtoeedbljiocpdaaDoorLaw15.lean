/- THE STATEMENTS' OWN CODE answers true: chapter 15, bodies. -/
import Derived.Test.YtoeedbljiocpdaaDoorAsk2
namespace Go.Proofs.YtoeedbljiocpdaaDoor
open Go Go.Ev
set_option maxRecDepth 20000
set_option linter.unusedVariables false
def askOne : AskV := ⟨1, 2, 9, 0, 1, 0, 0, 0, 0, 0, 0, S_empty, ⟨none, 0, 0⟩, ⟨none, 0, 0⟩⟩
theorem law15_one_ok (w : World) : Ok Pr f_law15_one [] w fun v w' => v = .agg ⟨askOne.cells⟩ ∧ Mod [] w w' := by
  refine V_law15_one_of ?_
  unfold V_law15_one
  rw [zc_Ask]
  exact (Mine.start w).nw fun p w1 H _ => H.sT_api_Ask 0 rfl rfl fun w2 H => H.ld_api_Ask 0 rfl ⟨rfl, H.mod⟩
theorem as_Ask {q : AskV} {K : Int → Int → Int → Int → Int → Int → Int → Int → Int → Int → Int → ByteArray → SlV → SlV → Prop} (h : K q.n0 q.n1 q.n2 q.n3 q.n4 q.n5 q.n6 q.n7 q.n8 q.n9 q.n10 q.name q.by_ q.tok) : as_api_Ask (.agg ⟨q.cells⟩) K := as_api_Ask_of h
theorem may_one : mayAsk askOne = true := by decide +kernel
theorem may_zero : mayAsk askZ = false := by decide +kernel
theorem length_bodyAsk (q : AskV) (lb lt : List B8) : (bodyAsk q lb lt).length = 112 + q.name.size + lb.length + lt.length := by
  unfold bodyAsk laids laid
  simp only [List.length_append, List.map_cons, List.map_nil, List.flatten_cons, List.flatten_nil, length_be, length_bes, length_bOf, List.append_nil, length_nums]
  omega
theorem bodyL_yes {q : AskV} (h : mayAsk q = true) (lb lt : List B8) : bodyL q lb lt = bodyAsk q lb lt ∧ bodyC q = 0 := by
  constructor
  · unfold bodyL; rw [if_pos h]
  · unfold bodyC; rw [if_pos h]
theorem bodyL_no {q : AskV} (h : mayAsk q = false) (lb lt : List B8) : bodyL q lb lt = [] ∧ bodyC q = 2 := by
  constructor
  · unfold bodyL; rw [h]; rfl
  · unfold bodyC; rw [h]; rfl
theorem same_self (q : AskV) (lb lt : List B8) : sameAsk q lb lt q lb lt = true := by unfold sameAsk; simp
theorem law15_awake_ok (w : World) (hg : Laid w) : Ok Pr f_law15_awake [] w fun v w' => v = .bool true ∧ Mod [] w w' := by
  refine V_law15_awake_of ?_
  unfold V_law15_awake
  rw [zc_Ask]
  refine call_of (law15_one_ok w) ?_
  rintro _ w1 ⟨rfl, m1⟩
  have H := (Mine.start w).frame m1
  refine as_Ask (q := askOne) (call_of (ask_Body_ok askOne [] [] _ (Bytes.nil _) (Bytes.nil _)) ?_)
  rintro _ w2 ⟨y, er, rfl, hy, he, hn, m2⟩
  obtain ⟨e1, e2⟩ := bodyL_yes may_one [] []
  rw [e1] at hy
  rw [e2] at he hn
  have H := H.got2 m2 hy he hn
  refine ⟨_, rfl, y, rfl, rfl, ?_⟩
  refine call_of (ask_Read_size ⟨none, 0, 0⟩ (.inl (by show 0 < 2420; omega)) _) ?_
  rintro _ w3 ⟨er2, rfl, he2, m3⟩
  have H := H.gotE m3 he2
  refine ⟨_, rfl, as_Ask (q := askZ) ⟨⟨none, 0, 0⟩, rfl, ⟨none, 0, 0⟩, rfl, rfl, ?_⟩⟩
  refine H.nw fun p w4 H _ => H.sT_api_Ask 3 rfl rfl fun w5 H => ?_
  have hyl := hy.bytes.len
  rw [length_bodyAsk] at hyl
  refine ite_true (by rw [← hyl]; rfl) ((H.err 1 rfl).isNil (ite_true rfl ?_))
  refine call_of (law0_Num_err er2 3 _ (hg.mine H (by simp)) (H.err 2 rfl)) ?_
  rintro _ w6 ⟨rfl, m6⟩
  have H := H.frame m6
  refine asI_i (ite_true rfl (call_of (law15_one_ok _) ?_))
  rintro _ w7 ⟨rfl, m7⟩
  have H := H.frame m7
  refine as_Ask (q := askOne) (call_of (ask_May_ok askOne _) ?_)
  rintro _ w8 ⟨rfl, m8⟩
  have H := H.frame m8
  rw [may_one]
  refine asB_b (ite_true rfl (call_of (ask_May_ok askZ _) ?_))
  rintro _ w9 ⟨rfl, m9⟩
  have H := H.frame m9
  rw [may_zero]
  refine asB_b (ite_true rfl (call_of (law15_one_ok _) ?_))
  rintro _ w10 ⟨rfl, m10⟩
  have H := H.frame m10
  refine as_Ask (q := askOne) (call_of (law15_one_ok _) ?_)
  rintro _ w11 ⟨rfl, m11⟩
  have H := H.frame m11
  refine as_Ask (q := askOne) (call_of (ask_Same_ok askOne [] [] askOne [] [] _ (Bytes.nil _) (Bytes.nil _) (Bytes.nil _) (Bytes.nil _)) ?_)
  rintro _ w12 ⟨rfl, m12⟩
  rw [same_self]
  exact asB_b ⟨rfl, (H.frame m12).mod⟩
theorem awake15_of {w0 w : World} {L : List Res} (hg : Laid w0) (H : Mine w0 [] w L) : callK Pr f_law15_awake [] w fun v w' => asB v fun t => (Value.bool t = .bool true ∧ Mod [] w0 w') := by
  refine call_of (law15_awake_ok w (hg.mine H (by simp))) ?_
  rintro _ w1 ⟨rfl, m⟩
  exact asB_b ⟨rfl, (H.frame m).mod⟩
theorem length_bodyL_le (q : AskV) (lb lt : List B8) (h1 : q.name.size ≤ 1000000) (h2 : lb.length ≤ 1000000) (h3 : lt.length ≤ 1000000) : (bodyL q lb lt).length ≤ 10000000 := by
  cases h : mayAsk q with
  | true => rw [(bodyL_yes h lb lt).1, length_bodyAsk]; omega
  | false => rw [(bodyL_no h lb lt).1]; simp
theorem AskBodies_ok (q : AskV) (lb lt : List B8) (r : AskV) (mb mt : List B8) (w : World) (hg : Laid w) (hb : Bytes w q.by_ lb) (ht : Bytes w q.tok lt) (hb' : Bytes w r.by_ mb) (ht' : Bytes w r.tok mt) :
    Ok Pr f_law15_AskBodies [.agg ⟨q.cells⟩, .agg ⟨r.cells⟩] w fun v w' => v = .bool true ∧ Mod [] w w' := by
  refine V_law15_AskBodies_of ?_
  unfold V_law15_AskBodies
  have hbl := hb.len
  have htl := ht.len
  refine (Mine.start w).nw fun p w1 H _ => H.nw fun p1 w2 H _ => join0_of fun go hgo => join1_of fun go1 hgo1 => ?_
  -- all is small
  have main : ∀ w', Mod [] w2 w' → q.name.size ≤ 400 ∧ q.by_.n ≤ 3000 ∧ q.tok.n ≤ 200 → go w' := by
    intro w' m hs
    have hbody := length_bodyL_le q lb lt (by omega) (by omega) (by omega)
    have H := H.frame m
    refine hgo w' (H.ld_api_Ask 0 rfl (call_of (ask_Body_ok q lb lt _ (hb.mod0 H.mod) (ht.mod0 H.mod)) ?_))
    rintro _ w4 ⟨y, er, rfl, hy, he, hn, m4⟩
    have H := H.got2 m4 hy he hn
    refine ⟨_, rfl, y, rfl, rfl, H.ld_api_Ask 0 rfl (call_of (ref15_Body_ok q lb lt _ (hb.mod0 H.mod) (ht.mod0 H.mod)) ?_)⟩
    rintro _ w5 ⟨z, rfl, hz, m5⟩
    have H := H.got m5 hz
    generalize bodyL q lb lt = bd at *
    have H := H.drew
    refine ⟨_, rfl, z, rfl, _, rfl, rfl, call_of (law0_SameBytes_same y z bd _ (H.bytes 2 rfl) (H.bytes 4 rfl) (by omega)) ?_⟩
    rintro _ w6 ⟨rfl, m6⟩
    have H := H.frame m6
    refine asB_b (ite_true rfl (call_of (law0_Num_err er _ _ (hg.mine H (by simp)) (H.err 3 rfl)) ?_))
    rintro _ w7 ⟨rfl, m7⟩
    have H7 := H.frame m7
    refine asI_i (H7.ld_api_Ask 0 rfl (H7.ld_api_Ask 0 rfl (ite_true (decide_eq_true rfl) (call_of (ask_May_ok q _) ?_))))
    rintro _ w8 ⟨rfl, m8⟩
    have H8 := H7.frame m8
    refine asB_b ⟨keptB (H7.blk 0 rfl) (H8.blk 0 rfl) rfl, call_of (ref15_May_ok q _) ?_⟩
    rintro _ w9 ⟨rfl, m9⟩
    have H9 := H8.frame m9
    refine asB_b (H9.ld_api_Ask 0 rfl (H9.ld_api_Ask 1 rfl (H9.ld_api_Ask 0 rfl (H9.ld_api_Ask 1 rfl (ite_true (by simp) (call_of (ask_Same_ok q lb lt r mb mt _ (hb.mod0 H9.mod) (ht.mod0 H9.mod) (hb'.mod0 H9.mod) (ht'.mod0 H9.mod)) ?_))))))
    rintro _ w10 ⟨rfl, m10⟩
    have H10 := H9.frame m10
    refine asB_b ⟨keptB (H9.blk 1 rfl) (H10.blk 1 rfl) rfl, keptB (H9.blk 0 rfl) (H10.blk 0 rfl) rfl, call_of (law0_SameAsk_ok q lb lt r mb mt (by omega) (by omega) _ (hb.mod0 H10.mod) (ht.mod0 H10.mod) (hb'.mod0 H10.mod) (ht'.mod0 H10.mod)) ?_⟩
    rintro _ w11 ⟨rfl, m11⟩
    have H11 := H10.frame m11
    refine asB_b (H11.ld_api_Ask 0 rfl (H11.ld_api_Ask 0 rfl (ite_true (by simp) (call_of (ask_Same_ok q lb lt q lb lt _ (hb.mod0 H11.mod) (ht.mod0 H11.mod) (hb.mod0 H11.mod) (ht.mod0 H11.mod)) ?_))))
    rintro _ w12 ⟨rfl, m12⟩
    rw [same_self]
    refine asB_b (ite_true rfl ?_)
    exact awake15_of hg (H11.frame m12)
  refine H.ld_api_Ask 0 rfl (call_of (law0_GreatAsk_ok q _) ?_)
  rintro _ w3 ⟨b, rfl, m3, hs⟩
  have H := H.frame m3
  refine asB_b (H.ld_api_Ask 1 rfl (ite_intro (fun h => ?_) (fun h => ?_)))
  · exact hgo1 true _ (ite_true rfl (awake15_of hg H))
  · refine call_of (law0_GreatAsk_ok r _) ?_
    rintro _ w4 ⟨b2, rfl, m4, hs2⟩
    refine asB_b (hgo1 _ _ (ite_intro (fun h2 => awake15_of hg (H.frame m4)) (fun h2 => main w4 (m3.trans m4) (hs h))))
end Go.Proofs.YtoeedbljiocpdaaDoor
