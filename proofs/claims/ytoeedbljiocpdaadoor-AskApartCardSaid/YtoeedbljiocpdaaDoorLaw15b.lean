/- THE STATEMENT's OWN CODE answers true: AskApart. -/
import Derived.Test.YtoeedbljiocpdaaDoorLaw15
namespace Go.Proofs.YtoeedbljiocpdaaDoor
open Go Go.Ev
set_option maxRecDepth 20000
set_option linter.unusedVariables false
/-! ### bodies tell requests -/
theorem word_of_bytes (x y : B64) (h : ∀ k, k < 8 → (x >>> (56 - 8 * k)).setWidth 8 = (y >>> (56 - 8 * k)).setWidth 8) : x = y := by
  refine BitVec.eq_of_getLsbD_eq fun i hi => ?_
  have hk : 7 - i / 8 < 8 := by omega
  have := congrArg (fun b : B8 => b.getLsbD (i % 8)) (h (7 - i / 8) hk)
  simp only [BitVec.getLsbD_setWidth, BitVec.getLsbD_ushiftRight] at this
  rw [show 56 - 8 * (7 - i / 8) + i % 8 = i by omega] at this
  have h8 : decide (i % 8 < 8) = true := decide_eq_true (by omega)
  rw [h8, Bool.true_and, Bool.true_and] at this
  exact this
theorem be_inj {m n : Int} (hm : -9223372036854775808 ≤ m ∧ m ≤ 9223372036854775807) (hn : -9223372036854775808 ≤ n ∧ n ≤ 9223372036854775807) (h : be m = be n) : m = n := by
  have hw : (BitVec.ofInt 64 m : B64) = BitVec.ofInt 64 n := by
    refine word_of_bytes _ _ fun k hk => ?_
    have := congrArg (fun l : List B8 => l[k]?) h
    simp only [be, List.getElem?_map, List.getElem?_range hk, Option.map_some, Option.some.injEq] at this
    exact this
  have := congrArg BitVec.toInt hw
  rw [BitVec.toInt_ofInt, BitVec.toInt_ofInt, Int.bmod_def, Int.bmod_def] at this
  omega
theorem bes_inj : ∀ {a b : List Int}, a.length = b.length → (∀ n ∈ a, -9223372036854775808 ≤ n ∧ n ≤ 9223372036854775807) → (∀ n ∈ b, -9223372036854775808 ≤ n ∧ n ≤ 9223372036854775807) → bes a = bes b → a = b
  | [], [], _, _, _, _ => rfl
  | [], _ :: _, h, _, _, _ => by cases h
  | _ :: _, [], h, _, _, _ => by cases h
  | m :: a, n :: b, h, ha, hb, he => by
    have he : be m ++ bes a = be n ++ bes b := he
    obtain ⟨h1, h2⟩ := List.append_inj he (by rw [length_be, length_be])
    rw [be_inj (ha m List.mem_cons_self) (hb n List.mem_cons_self) h1, bes_inj (by simpa using h) (fun k hk => ha k (List.mem_cons_of_mem _ hk)) (fun k hk => hb k (List.mem_cons_of_mem _ hk)) h2]
theorem laid_inj {p q r s : List B8} (hp : p.length ≤ 1000000) (hq : q.length ≤ 1000000) (h : laid p ++ r = laid q ++ s) : p = q ∧ r = s := by
  unfold laid at h
  rw [List.append_assoc, List.append_assoc] at h
  obtain ⟨h1, h2⟩ := List.append_inj h (by rw [length_be, length_be])
  have hl := be_inj (by omega) (by omega) h1
  exact List.append_inj h2 (by omega)
theorem body_inj {q : AskV} {lb lt : List B8} {r : AskV} {mb mt : List B8} (hq : ∀ n ∈ q.nums, -9223372036854775808 ≤ n ∧ n ≤ 9223372036854775807) (hr : ∀ n ∈ r.nums, -9223372036854775808 ≤ n ∧ n ≤ 9223372036854775807)
    (h1 : q.name.size ≤ 1000 ∧ r.name.size ≤ 1000) (h2 : lb.length ≤ 10000 ∧ mb.length ≤ 10000) (h3 : lt.length ≤ 10000 ∧ mt.length ≤ 10000) : decide (bodyAsk q lb lt = bodyAsk r mb mt) = sameAsk q lb lt r mb mt := by
  have key : bodyAsk q lb lt = bodyAsk r mb mt ↔ q.nums = r.nums ∧ q.name = r.name ∧ lb = mb ∧ lt = mt := by
    constructor
    · intro h
      unfold bodyAsk at h
      rw [List.append_assoc, List.append_assoc] at h
      obtain ⟨a1, a2⟩ := List.append_inj h (by rw [length_bes, length_bes]; rfl)
      obtain ⟨b1, b2⟩ := laid_inj (by rw [length_bOf]; omega) (by rw [length_bOf]; omega) a2
      have b2 : laid lb ++ (laid lt ++ []) = laid mb ++ (laid mt ++ []) := b2
      obtain ⟨c1, c2⟩ := laid_inj (by omega) (by omega) b2
      obtain ⟨d1, _⟩ := laid_inj (by omega) (by omega) c2
      exact ⟨bes_inj rfl hq hr a1, bOf_inj.1 b1, c1, d1⟩
    · rintro ⟨a1, a2, a3, a4⟩
      unfold bodyAsk
      rw [a1, a2, a3, a4]
  unfold sameAsk
  rw [show decide (bodyAsk q lb lt = bodyAsk r mb mt) = decide (q.nums = r.nums ∧ q.name = r.name ∧ lb = mb ∧ lt = mt) from decide_eq_decide.2 key]
  simp only [Bool.decide_and]
theorem bodyC_may (q : AskV) : decide (bodyC q = 0) = mayAsk q := by
  unfold bodyC
  cases mayAsk q <;> rfl
theorem same_comm (q : AskV) (lb lt : List B8) (r : AskV) (mb mt : List B8) : sameAsk q lb lt r mb mt = sameAsk r mb mt q lb lt := by
  unfold sameAsk
  simp only [eq_comm]
theorem AskApart_ok (q : AskV) (lb lt : List B8) (r : AskV) (mb mt : List B8) (hq : ∀ n ∈ q.nums, -9223372036854775808 ≤ n ∧ n ≤ 9223372036854775807) (hr : ∀ n ∈ r.nums, -9223372036854775808 ≤ n ∧ n ≤ 9223372036854775807) (w : World) (hg : Laid w)
    (hb : Bytes w q.by_ lb) (ht : Bytes w q.tok lt) (hb' : Bytes w r.by_ mb) (ht' : Bytes w r.tok mt) :
    Ok Pr f_law15_AskApart [.agg ⟨q.cells⟩, .agg ⟨r.cells⟩] w fun v w' => v = .bool true ∧ Mod [] w w' := by
  refine V_law15_AskApart_of ?_
  unfold V_law15_AskApart
  have hbl := hb.len
  have htl := ht.len
  have hbl' := hb'.len
  have htl' := ht'.len
  refine (Mine.start w).nw fun p w1 H _ => H.nw fun p1 w2 H _ => join0_of fun go hgo => join1_of fun go1 hgo1 => ?_
  have main : ∀ w', Mod [] w2 w' → q.name.size ≤ 400 ∧ q.by_.n ≤ 3000 ∧ q.tok.n ≤ 200 → r.name.size ≤ 400 ∧ r.by_.n ≤ 3000 ∧ r.tok.n ≤ 200 → go w' := by
    intro w' m hs hs'
    have H := H.frame m
    refine hgo w' (H.ld_api_Ask 0 rfl (call_of (ask_Body_ok q lb lt _ (hb.mod0 H.mod) (ht.mod0 H.mod)) ?_))
    rintro _ w4 ⟨y, er, rfl, hy, he, hn, m4⟩
    have H := H.got2 m4 hy he hn
    refine ⟨_, rfl, y, rfl, rfl, H.ld_api_Ask 1 rfl (call_of (ask_Body_ok r mb mt _ (hb'.mod0 H.mod) (ht'.mod0 H.mod)) ?_)⟩
    rintro _ w5 ⟨z, er2, rfl, hz, he2, hn2, m5⟩
    have H := H.got2 m5 hz he2 hn2
    refine ⟨_, rfl, z, rfl, rfl, join0_of fun go2 hgo2 => ?_⟩
    have next : ∀ w6, Mod [] w5 w6 → go2 w6 := by
      intro w6 m6
      have H := H.frame m6
      refine hgo2 w6 (join0_of fun go hgo => join1_of fun go_1 hgo_1 => ?_)
      have hyl := (H.bytes 2 rfl).len
      have hzl := (H.bytes 4 rfl).len
      have no : go_1 true w6 := by
        refine hgo_1 true w6 (ite_true rfl ((H.err 3 rfl).isNil (ite_true ?_ ((H.err 5 rfl).isNil (ite_true ?_ (awake15_of hg H))))))
        · rw [bodyC_may]
          cases h : mayAsk q with
          | true => rfl
          | false =>
            rw [(bodyL_no h lb lt).1] at hyl
            rw [← hyl]; rfl
        · rw [bodyC_may]
          cases h : mayAsk r with
          | true => rfl
          | false =>
            rw [(bodyL_no h mb mt).1] at hzl
            rw [← hzl]; rfl
      refine (H.err 3 rfl).isNil ?_
      rw [bodyC_may]
      refine ite_intro (fun h => no) (fun h => (H.err 5 rfl).isNil ?_)
      rw [bodyC_may]
      have mq : mayAsk q = true := by simpa using h
      cases mr : mayAsk r with
      | false => exact no
      | true =>
        refine hgo_1 _ w6 (ite_false rfl (hgo w6 ?_))
        have hby := H.bytes 2 rfl
        have hbz := H.bytes 4 rfl
        rw [(bodyL_yes mq lb lt).1] at hby hyl
        rw [(bodyL_yes mr mb mt).1] at hbz
        have hinj := body_inj (lb := lb) (lt := lt) (mb := mb) (mt := mt) hq hr ⟨by omega, by omega⟩ ⟨by omega, by omega⟩ ⟨by omega, by omega⟩
        rw [length_bodyAsk] at hyl
        have hlen := length_bodyAsk q lb lt
        have H := H.drew
        refine H.ldS 0 rfl (ad1 p 11) rfl ⟨⟨by omega, by omega⟩, H.ldL 0 rfl (ad1 p 12) rfl ⟨⟨by omega, by omega⟩, H.ldL 0 rfl (ad1 p 13) rfl ⟨⟨by omega, by omega⟩, H.ld_api_Ask 0 rfl (H.ld_api_Ask 1 rfl (ite_true (decide_eq_true (by omega)) ?_))⟩⟩⟩
        refine call_of (law0_SameBytes_ok y z _ _ _ (hby.mod0 (Mod.drew _ _)) (hbz.mod0 (Mod.drew _ _)) (by omega)) ?_
        rintro _ w8 ⟨rfl, m8⟩
        have H8 := H.frame m8
        rw [hinj]
        refine asB_b ⟨keptB (H.blk 1 rfl) (H8.blk 1 rfl) rfl, keptB (H.blk 0 rfl) (H8.blk 0 rfl) rfl, call_of (ask_Same_ok q lb lt r mb mt _ (hb.mod0 H8.mod) (ht.mod0 H8.mod) (hb'.mod0 H8.mod) (ht'.mod0 H8.mod)) ?_⟩
        rintro _ w9 ⟨rfl, m9⟩
        have H9 := H8.frame m9
        refine asB_b (H9.ld_api_Ask 0 rfl (H9.ld_api_Ask 1 rfl (H9.ld_api_Ask 1 rfl (H9.ld_api_Ask 0 rfl (ite_true (by simp) (call_of (ask_Same_ok q lb lt r mb mt _ (hb.mod0 H9.mod) (ht.mod0 H9.mod) (hb'.mod0 H9.mod) (ht'.mod0 H9.mod)) ?_))))))
        rintro _ w10 ⟨rfl, m10⟩
        have H10 := H9.frame m10
        refine asB_b ⟨keptB (H9.blk 0 rfl) (H10.blk 0 rfl) rfl, keptB (H9.blk 1 rfl) (H10.blk 1 rfl) rfl, call_of (ask_Same_ok r mb mt q lb lt _ (hb'.mod0 H10.mod) (ht'.mod0 H10.mod) (hb.mod0 H10.mod) (ht.mod0 H10.mod)) ?_⟩
        rintro _ w11 ⟨rfl, m11⟩
        rw [same_comm r]
        refine asB_b (ite_true (by simp) ?_)
        exact awake15_of hg (H10.frame m11)
    have Hd := H.drew
    refine (H.err 3 rfl).isNil (Hd.ld_api_Ask 0 rfl (call_of (ask_May_ok q _) ?_))
    rintro _ w7 ⟨rfl, m7⟩
    have H7 := Hd.frame m7
    refine asB_b (ite_false (by rw [bodyC_may]; simp) ((H.err 5 rfl).isNil (H7.ld_api_Ask 1 rfl (call_of (ask_May_ok r _) ?_))))
    rintro _ w8 ⟨rfl, m8⟩
    exact asB_b (ite_false (by rw [bodyC_may]; simp) (next w8 (((Mod.drew _ _).trans m7).trans m8)))
  refine H.ld_api_Ask 0 rfl (call_of (law0_GreatAsk_ok q _) ?_)
  rintro _ w3 ⟨b, rfl, m3, hs⟩
  have H := H.frame m3
  refine asB_b (H.ld_api_Ask 1 rfl (ite_intro (fun h => ?_) (fun h => ?_)))
  · exact hgo1 true _ (ite_true rfl (awake15_of hg H))
  · refine call_of (law0_GreatAsk_ok r _) ?_
    rintro _ w4 ⟨b2, rfl, m4, hs2⟩
    refine asB_b (hgo1 _ _ (ite_intro (fun h2 => awake15_of hg (H.frame m4)) (fun h2 => main w4 (m3.trans m4) (hs h) (hs2 h2))))
end Go.Proofs.YtoeedbljiocpdaaDoor
