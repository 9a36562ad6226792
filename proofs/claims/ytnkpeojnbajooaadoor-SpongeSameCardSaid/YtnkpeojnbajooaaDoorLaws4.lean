/- THE STATEMENT's OWN CODE answers true: SpongeSame. -/
import Derived.Test.YtnkpeojnbajooaaDoorLaws3
namespace Go.Proofs.YtnkpeojnbajooaaDoor
open Go Go.Ev
set_option linter.unusedVariables false
/-- bytes go into a sponge that is a part of the call's own memory -/
theorem Mine.swrite {w0 w : World} {S : List Nat} {L : List Res} (H : Mine w0 S w L) (k : Nat) {b rate : Nat} {s : List B64 × Nat} {suf : B8} (hk : L[k]? = some (spr b s.1 rate s.2 suf false)) (hr : rate ≤ 192) (hs : Fits rate s) {parts : SlV} {ls : List (List B8)}
    (hp : Parts w [b] parts ls) (hsmall : Small parts ls) {K : Value → World → Prop} (h : ∀ w', Mod [b] w w' → Mine w0 S w' (L.set k (spr b (absorb rate s ls.flatten).1 rate (absorb rate s ls.flatten).2 suf false)) → K .nilIface w') :
    callK Pr f_sponge_Sponge_Write [.pointer (some ⟨b, 0, none⟩), .slice parts.a parts.n parts.c] w K := by
  refine call_of (sponge_Write_ok hr hs b parts ls _ (H.blk k hk) hp hsmall) ?_
  rintro _ w1 ⟨rfl, h1, m1⟩
  exact h w1 m1 (H.upd k hk m1 (fun c hc => .inl hc) h1 (fun c hc => .inl hc))
theorem small2 {parts : SlV} {l : List B8} (hn : parts.n = 2) (hl : l.length ≤ 1000000) : Small parts [l, []] := ⟨by omega, fun m hm => by
  simp only [List.mem_cons, List.not_mem_nil, or_false] at hm
  rcases hm with rfl | rfl
  · omega
  · simp⟩
theorem fits0 {rate : Nat} (h : 8 ≤ rate) : Fits rate ((z25, 0) : List B64 × Nat) := ⟨rfl, by show 0 < rate; omega⟩
theorem SpongeSame_ok (rate : Int) (suf : B8) (x : SlV) (l : List B8) (cut out part : Int) (w : World) (hg : Laid w) (hb : Bytes w x l) : Ok Pr f_law2_SpongeSame [.int .i64 rate, .int .u8 (suf.toNat : Int), .slice x.a x.n x.c, .int .i64 cut, .int .i64 out, .int .i64 part] w fun v w' => v = .bool true ∧ Mod [] w w' := by
  refine V_law2_SpongeSame_of ?_
  unfold V_law2_SpongeSame
  have hbl := hb.len
  refine ite_intro (fun h => awake_of hg (Mine.start w)) (fun h => ?_)
  have hb400 : l.length ≤ 400 := by have := of_decide_eq_false h; omega
  by_cases hm : mayBe rate suf = true
  · obtain ⟨k, rfl, h8, h192, hk8⟩ := mayBe_of hm
    refine call_of (sponge_New_ok k suf hm w) ?_
    rintro _ w1 ⟨b0, rfl, h1, hb0, m1⟩
    have H := (Mine.start w).gotblk m1 h1 hb0
    refine asP_p (call_of (sponge_New_ok k suf hm w1) ?_)
    rintro _ w2 ⟨b1, rfl, h2, hb1, m2⟩
    have H := H.gotblk m2 h2 hb1
    refine asP_p (ite_false rfl ⟨⟨by omega, by omega⟩, ?_⟩)
    rw [show ((x.n : Nat) : Int) + 1 = ((l.length + 1 : Nat) : Int) by omega]
    refine call_of (law0_Low_ok cut ((l.length + 1 : Nat) : Int) (by omega) (by omega) _) ?_
    rintro _ w3 ⟨rfl, hw3⟩
    subst hw3
    have hc := low_lt (x := cut) (n := ((l.length + 1 : Nat) : Int)) (by omega)
    generalize low cut ((l.length + 1 : Nat) : Int) = c at *
    refine asI_i (call_of (law0_Low_ok out 300 (by decide) (by decide) _) ?_)
    rintro _ w4 ⟨rfl, hw4⟩
    subst hw4
    have ho := low_lt (x := out) (n := 300) (by decide)
    generalize low out 300 = o at *
    refine asI_i ⟨⟨by omega, by omega⟩, ?_⟩
    refine call_of (law0_Low_ok part (1 + (o : Int)) (by omega) (by omega) _) ?_
    rintro _ w5 ⟨rfl, hw5⟩
    subst hw5
    have hpt := low_lt (x := part) (n := 1 + (o : Int)) (by omega)
    generalize low part (1 + (o : Int)) = p at *
    refine asI_i ⟨⟨by omega, by omega⟩, ?_⟩
    have hx5 : Bytes w5 x l := hb.mod0 H.mod
    have ox : ∀ {b}, w.heap.size ≤ b → off [b] x := fun hb' => Sl.off_new hb (by omega) (S := [_]) fun c hc => by rw [List.mem_singleton.1 hc]; exact hb'
    have hb1' : w.heap.size ≤ b1 := Nat.le_trans m1.size hb1
    have hne : ∀ {w' : World} {L : List Res} {q : Nat} {cs : List Value} {t : TypeId} {j : Nat} {i : Nat} {b : Nat} {ds : List Value} {t' : TypeId}, Mine w [] w' L → i ≠ j → L[i]? = some (.blk b ds t') → L[j]? = some (.blk q cs t) → q ∉ [b] := fun {w' L q cs t j i b ds t'} H hij hi hj hc => by
      rw [List.mem_singleton.1 hc] at hj
      exact H.apart i j _ _ hij hi hj b (by simp [Res.blk]) (by simp [Res.blk])
    refine H.nw fun q w6 H hq => ?_
    have fl : [l].flatten = l := by simp
    refine Mine.swrite H 0 (s := (z25, 0)) rfl h192 (fits0 h8) (parts := ⟨some ⟨q, 0, none⟩, 1, 1⟩) (Parts.of1 (H.blk 2 rfl) (hne H (by omega) (i := 0) rfl (j := 2) rfl) (hb.mod0 H.mod) (ox hb0)) (small1 rfl (by omega)) fun w7 m7 H => ?_
    rw [fl] at H
    have hf : Fits k (absorb k (z25, 0) l) := (fits0 h8).absorb l
    have e2 : absorb k (absorb k (z25, 0) (l.take c)) (l.drop c) = absorb k (z25, 0) l := by rw [← absorb_append, List.take_append_drop]
    have hf2 : Fits k (absorb k (z25, 0) (l.take c)) := (fits0 h8).absorb _
    have H := H.let_go 2 rfl
    refine (hb.mod0 H.mod).h c rfl (by omega) fun xa hxan hxa wa => (hb.mod0 H.mod).l c rfl (by omega) fun xb hxbn hxb wb => ?_
    have H := H.drew
    -- the first part, the second part
    have wrA : ∀ {w' : World} {L : List Res} {j q : Nat} {K : Value → World → Prop}, Mine w [] w' L → Mod [b0, b1] w7 w' → L[1]? = some (spr b1 z25 k 0 suf false) → j ≠ 1 → L[j]? = some (.blk q [xa.v, .slice none 0 0] t_s_uint8) →
        (∀ w'', Mod [b1] w' w'' → Mine w [] w'' (L.set 1 (spr b1 (absorb k (z25, 0) (l.take c)).1 k (absorb k (z25, 0) (l.take c)).2 suf false)) → K .nilIface w'') →
        callK Pr f_sponge_Sponge_Write [.pointer (some ⟨b1, 0, none⟩), .slice (some ⟨q, 0, none⟩) 2 2] w' K := by
      intro w' L j q K H m h1 hj hjk hK
      refine Mine.swrite H 1 (s := (z25, 0)) h1 h192 (fits0 h8) (parts := ⟨some ⟨q, 0, none⟩, 2, 2⟩) (ls := [l.take c, []]) (Parts.of2 (H.blk j hjk) (hne H (Ne.symm hj) h1 hjk) (hxa.mod m ?_) (wa.off (ox hb1'))) (small2 rfl (by rw [List.length_take]; omega)) fun w'' m'' H => ?_
      · refine wa.off (Sl.off_new hb (by omega) (S := [b0, b1]) fun c hc => ?_)
        simp only [List.mem_cons, List.not_mem_nil, or_false] at hc
        rcases hc with rfl | rfl
        · exact hb0
        · exact hb1'
      · rw [show [l.take c, []].flatten = l.take c by simp] at H
        exact hK w'' m'' H
    have wrB : ∀ {w' : World} {L : List Res} {j q : Nat} {K : Value → World → Prop}, Mine w [] w' L → Mod [b0, b1] w7 w' → L[1]? = some (spr b1 (absorb k (z25, 0) (l.take c)).1 k (absorb k (z25, 0) (l.take c)).2 suf false) → j ≠ 1 → L[j]? = some (.blk q [xb.v] t_s_uint8) →
        (∀ w'', Mod [b1] w' w'' → Mine w [] w'' (L.set 1 (spr b1 (absorb k (z25, 0) l).1 k (absorb k (z25, 0) l).2 suf false)) → K .nilIface w'') →
        callK Pr f_sponge_Sponge_Write [.pointer (some ⟨b1, 0, none⟩), .slice (some ⟨q, 0, none⟩) 1 1] w' K := by
      intro w' L j q K H m h1 hj hjk hK
      refine Mine.swrite H 1 h1 h192 hf2 (parts := ⟨some ⟨q, 0, none⟩, 1, 1⟩) (ls := [l.drop c]) (Parts.of1 (H.blk j hjk) (hne H (Ne.symm hj) h1 hjk) (hxb.mod m ?_) (wb.off (ox hb1'))) (small1 rfl (by rw [List.length_drop]; omega)) fun w'' m'' H => ?_
      · refine wb.off (Sl.off_new hb (by omega) (S := [b0, b1]) fun c hc => ?_)
        simp only [List.mem_cons, List.not_mem_nil, or_false] at hc
        rcases hc with rfl | rfl
        · exact hb0
        · exact hb1'
      · rw [show [l.drop c].flatten = l.drop c by simp, e2] at H
        exact hK w'' m'' H
    have m0 : Mod [b0, b1] w7 (World.drew w7) := Mod.drew _ _
    have fin : ∀ {w' : World} {L : List Res}, Mine w [] w' L → L[0]? = some (spr b0 (absorb k (z25, 0) l).1 k (absorb k (z25, 0) l).2 suf false) → L[1]? = some (spr b1 (absorb k (z25, 0) l).1 k (absorb k (z25, 0) l).2 suf false) →
        SameTail (some ⟨b0, 0, none⟩) (some ⟨b1, 0, none⟩) o p .nilIface .nilIface .nilIface w' fun v w' => v = .bool true ∧ Mod [] w w' := fun {w' L} H h0 h1 =>
      sameTail_ok hg h8 h192 hf H h0 h1 (o + 1) (p + 1) ⟨by omega, by omega⟩ ⟨by omega, by omega⟩ o p (by omega) (by omega)
    have mm : ∀ {u u' : World}, Mod [b1] u u' → Mod [b0, b1] u u' := fun m => m.mono fun b hb => by rw [List.mem_singleton.1 hb]; simp
    have alloc : ∀ {u : World} {t : TypeId} {cs : List Value} {K : Addr → World → Prop} {L : List Res}, Mine w [] u L → Mod [b0, b1] w7 u → (∀ b w', Mod [b0, b1] w7 w' → Mine w [] w' (L ++ [.blk b cs t]) → K ⟨b, 0, none⟩ w') → nw t cs u K := fun {u t cs K L} H m h =>
      nw_blk fun b w' hb h1 h2 _ => h b w' (m.trans h2.of_nil) (H.push h2 h1 (by simp [Res.blk, hb]))
    refine ⟨?_, ?_⟩
    · refine alloc H m0 fun p1 w10 m10 H => ⟨?_, ?_⟩
      · refine wrA (j := 3) H m10 rfl (by omega) rfl fun w11 m11 H => ?_
        refine alloc H (m10.trans (mm m11)) fun p2 w12 m12 H => ?_
        exact wrB (j := 4) H m12 rfl (by omega) rfl fun w13 m13 H => fin H rfl rfl
      · refine alloc H m10 fun p3 w12 m12 H => ?_
        refine wrA (j := 3) H m12 rfl (by omega) rfl fun w11 m11 H => ?_
        exact wrB (j := 4) H (m12.trans (mm m11)) rfl (by omega) rfl fun w13 m13 H => fin H rfl rfl
    · refine alloc H m0 fun p4 w10 m10 H => alloc H m10 fun p5 w12 m12 H => ?_
      refine wrA (j := 4) H m12 rfl (by omega) rfl fun w11 m11 H => ?_
      exact wrB (j := 3) H (m12.trans (mm m11)) rfl (by omega) rfl fun w13 m13 H => fin H rfl rfl
  · have hm' : mayBe rate suf = false := by simpa using hm
    refine call_of (sponge_New_no rate suf hm' w) ?_
    rintro _ _ ⟨rfl, rfl⟩
    refine asP_p (call_of (sponge_New_no rate suf hm' _) ?_)
    rintro _ w2 ⟨rfl, hw2⟩
    subst hw2
    exact asP_p (ite_true rfl (ite_true rfl (awake_of hg (Mine.start _))))
end Go.Proofs.YtnkpeojnbajooaaDoor
