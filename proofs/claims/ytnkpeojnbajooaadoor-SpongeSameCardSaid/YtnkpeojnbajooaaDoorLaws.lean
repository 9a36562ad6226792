/- THE STATEMENTS' OWN CODE answers true: the five of chapter 2. -/
import Derived.Test.YtnkpeojnbajooaaDoorAwake
namespace Go.Proofs.YtnkpeojnbajooaaDoor
open Go Go.Ev
theorem awake_of {w0 w : World} {L : List Res} (hg : Laid w0) (H : Mine w0 [] w L) : callK Pr f_law2_awake [] w fun v w' => asB v fun t => (Value.bool t = .bool true ∧ Mod [] w0 w') := by
  refine call_of (law2_awake_ok w (hg.mine H (by simp))) ?_
  rintro _ w1 ⟨rfl, m⟩
  exact asB_b ⟨rfl, (H.frame m).mod⟩
theorem SpongeNone_ok (n : Int) (w : World) (hg : Laid w) : Ok Pr f_law2_SpongeNone [.int .i64 n] w fun v w' => v = .bool true ∧ Mod [] w w' := by
  refine V_law2_SpongeNone_of ?_
  unfold V_law2_SpongeNone
  refine (Mine.start w).nw fun p w1 H hp => call_of (sponge_Write_nil ⟨some ⟨p, 0, none⟩, 1, 1⟩ w1) ?_
  rintro _ w2 ⟨f, rfl, h2, hf, m2⟩
  have H := H.gotblk m2 h2 hf
  refine call_of (law0_Num_ok f 1 S_sponge _ (hg.mine H (by simp)) h2 (by decide)) ?_
  rintro _ w3 ⟨rfl, m3⟩
  have H := H.frame m3
  refine asI_i (ite_true rfl (call_of (sponge_Read_no none n (.inl rfl) _) ?_))
  rintro _ _ ⟨rfl, rfl⟩
  exact asSl_s (s := ⟨none, 0, 0⟩) (ite_true rfl (awake_of hg H))
theorem SpongeTells_ok (ps : SlV) (ls : List (List B8)) (n : Int) (w : World) (hg : Laid w) (hp : Parts w [] ps ls) (hn : ps.n ≤ 9223372036854775807) : Ok Pr f_law2_SpongeTells [.slice ps.a ps.n ps.c, .int .i64 n] w fun v w' => v = .bool true ∧ Mod [] w w' := by
  refine V_law2_SpongeTells_of ?_
  unfold V_law2_SpongeTells
  refine call_of (law2_great_ok ps ls w hp hn) ?_
  rintro _ w1 ⟨gr, rfl, hw, hgr⟩
  subst hw
  have H := Mine.start w1
  refine asB_b (ite_intro (fun h => ?_) (fun h => ?_))
  · exact awake_of hg H
  · simp only [Bool.or_eq_false_iff, decide_eq_false_iff_not] at h
    obtain ⟨hl12, hl300⟩ := hgr h.1
    have hpn := hp.len
    have hsm : Small ps ls := ⟨by omega, fun l hl => by have := hl300 l hl; omega⟩
    have hjl : ls.flatten.length ≤ 1000000 := by
      have : ∀ (m : List (List B8)), (∀ l ∈ m, l.length ≤ 300) → m.flatten.length ≤ m.length * 300 := by
        intro m
        induction m with
        | nil => intro _; simp
        | cons a r ih =>
          intro h
          have := ih fun l hl => h l (List.mem_cons_of_mem _ hl)
          have := h a List.mem_cons_self
          simp only [List.flatten_cons, List.length_append, List.length_cons]
          omega
      have := this ls hl300
      omega
    have hspl : ∀ (rate : Nat) (suf : B8) (m : Int), (spOut rate suf ls.flatten m).length ≤ 1048576 := by
      intro rate suf m
      unfold spOut
      split
      · rw [length_refOut]; omega
      · simp
    refine call_of (ref2_Join_ok ps ls _ hp ⟨by omega, fun l hl => by have := hl300 l hl; omega⟩) ?_
    rintro _ w1 ⟨j, rfl, hj, m⟩
    have H := H.got m hj
    have hjb : ∀ {w'}, Mod [] w1 w' → Bytes w' j ls.flatten := fun m => hj.bytes.mod0 m
    refine asSl_s (call_of (sponge_Shake128_ok n ps ls _ (hp.mod H.mod) hsm) ?_)
    rintro _ w2 ⟨a, rfl, ha, m2⟩
    refine asSl_s (call_of (ref2_Shake128_ok n j _ _ (hjb m2) hjl) ?_)
    rintro _ w3 ⟨b, rfl, hb, m3⟩
    refine asSl_s (call_of (law0_SameBytes_same a b _ _ (ha.bytes.mod0 m3) hb.bytes (by have := hspl 168 31 n; omega)) ?_)
    rintro _ w4 ⟨rfl, m4⟩
    have M := (m2.trans m3).trans m4
    refine asB_b (ite_true rfl (call_of (sponge_Shake256_ok n ps ls _ (hp.mod (H.mod.trans M)) hsm) ?_))
    rintro _ w5 ⟨a, rfl, ha, m2⟩
    have M := M.trans m2
    refine asSl_s (call_of (ref2_Shake256_ok n j _ _ (hjb M) hjl) ?_)
    rintro _ w6 ⟨b, rfl, hb, m3⟩
    refine asSl_s (call_of (law0_SameBytes_same a b _ _ (ha.bytes.mod0 m3) hb.bytes (by have := hspl 136 31 n; omega)) ?_)
    rintro _ w7 ⟨rfl, m4⟩
    have M := (M.trans m3).trans m4
    refine asB_b (ite_true rfl (call_of (sponge_Sha256_ok ps ls _ (hp.mod (H.mod.trans M)) hsm) ?_))
    rintro _ w8 ⟨a, rfl, ha, m2⟩
    have M := M.trans m2
    refine asSl_s (call_of (ref2_Sha256_ok j _ _ (hjb M) hjl) ?_)
    rintro _ w9 ⟨b, rfl, hb, m3⟩
    refine asSl_s (call_of (law0_SameBytes_same a b _ _ (ha.bytes.mod0 m3) hb.bytes (by have := hspl 136 6 32; omega)) ?_)
    rintro _ w10 ⟨rfl, m4⟩
    have M := (M.trans m3).trans m4
    refine asB_b (ite_true rfl (call_of (sponge_Sha512_ok ps ls _ (hp.mod (H.mod.trans M)) hsm) ?_))
    rintro _ w11 ⟨a, rfl, ha, m2⟩
    have M := M.trans m2
    refine asSl_s (call_of (ref2_Sha512_ok j _ _ (hjb M) hjl) ?_)
    rintro _ w12 ⟨b, rfl, hb, m3⟩
    refine asSl_s (call_of (law0_SameBytes_same a b _ _ (ha.bytes.mod0 m3) hb.bytes (by have := hspl 72 6 64; omega)) ?_)
    rintro _ w13 ⟨rfl, m4⟩
    have M := (M.trans m3).trans m4
    refine asB_b ?_
    refine ite_true rfl ?_
    exact awake_of hg (H.frame M)
end Go.Proofs.YtnkpeojnbajooaaDoor
