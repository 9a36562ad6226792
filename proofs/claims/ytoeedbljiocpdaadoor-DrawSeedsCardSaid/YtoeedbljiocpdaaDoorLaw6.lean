/- THE STATEMENTS' OWN CODE answers true: chapter 6. -/
import Derived.Test.YtoeedbljiocpdaaDoorDraw3
namespace Go.Proofs.YtoeedbljiocpdaaDoor
open Go Go.Ev
set_option maxRecDepth 20000
set_option linter.unusedVariables false
theorem num_zero (n : Nat) : num (List.replicate n 0) = 0 := by
  induction n with
  | zero => rfl
  | succ n ih => rw [List.replicate_succ, num, ih]; rfl
theorem bit_zero (n k : Nat) : bit (List.replicate n 0) k = 0 := by
  unfold bit ptk
  rw [num_zero]
  simp
theorem psum_zero (eta n lo : Nat) : ∀ k, psum eta (List.replicate n 0) lo k = 0
  | 0 => rfl
  | k + 1 => by
    rw [psum, psum_zero eta n lo k]
    unfold sb
    rw [bit_zero]
    split <;> rfl
theorem lean_zero (eta n : Nat) : lean eta (List.replicate n 0) = List.replicate 256 0 := by
  unfold lean
  refine List.ext_getElem (by rw [List.length_map, List.length_range, List.length_replicate]) fun i h1 h2 => ?_
  simp only [List.getElem_map, List.getElem_replicate, psum_zero]
  rfl
theorem length_lean (eta : Nat) (l : List B8) : (lean eta l).length = 256 := by unfold lean; rw [List.length_map, List.length_range]
theorem zc_u8 : zc Pr t_uint8 = [.int .u8 0] := by kernel_rfl
theorem law6_awake_ok (w : World) (hg : Laid w) : Ok Pr f_law6_awake [] w fun v w' => v = .bool true ∧ Mod [] w w' := by
  refine V_law6_awake_of ?_
  unfold V_law6_awake
  refine (Mine.start w).mkU (n := 128) elt_u8 zc_u8 rfl rfl (by omega) fun s w1 H hs => ?_
  refine call_of (draw_Lean_ok 2 (.inl rfl) s (List.replicate 128 0) (by rw [List.length_replicate]) _ (H.bytes 0 rfl)) ?_
  rintro _ w2 ⟨y, er, rfl, hy, he, hn, m⟩
  rw [lean_zero] at hy
  have H := H.got2 m hy he hn
  refine ⟨_, rfl, y, rfl, rfl, ?_⟩
  refine call_of (draw_Even_all ⟨none, 0, 0⟩ [] 0 0 _ (Bytes.nil _)) ?_
  rintro _ w3 ⟨y2, er2, rfl, hy2, he2, hn2, m2⟩
  have e3 : evenC ([] : List B8).length = 3 := rfl
  rw [e3] at he2 hn2
  have H := H.got2 m2 hy2 he2 hn2
  refine ⟨_, rfl, y2, rfl, rfl, ?_⟩
  refine H.mkN (n := 256) elt_i64 zc_i64 rfl rfl (by omega) fun s2 w4 H hs2 => ?_
  have ha := H.nums 1 rfl
  have hb := H.nums 5 rfl
  refine call_of (law0_SameInts_same y s2 _ _ ha hb (by rw [List.length_replicate]; omega)) ?_
  rintro _ w5 ⟨rfl, m5⟩
  have H := H.frame m5
  refine asB_b (ite_true rfl ((H.err 2 rfl).isNil (ite_true rfl ?_)))
  refine call_of (law0_Num_err er2 3 _ (hg.mine H (by simp)) (H.err 4 rfl)) ?_
  rintro _ w6 ⟨rfl, m6⟩
  exact asI_i ⟨rfl, (H.frame m6).mod⟩
theorem awake6_of {w0 w : World} {L : List Res} (hg : Laid w0) (H : Mine w0 [] w L) : callK Pr f_law6_awake [] w fun v w' => asB v fun t => (Value.bool t = .bool true ∧ Mod [] w0 w') := by
  refine call_of (law6_awake_ok w (hg.mine H (by simp))) ?_
  rintro _ w1 ⟨rfl, m⟩
  exact asB_b ⟨rfl, (H.frame m).mod⟩
theorem leanL_len (eta : Int) (l : List B8) : (leanL eta l).length ≤ 256 := by
  unfold leanL; split
  · rw [length_lean]; omega
  · simp
theorem evn_len (l : List B8) : (evn l).length = 256 := by
  unfold evn
  have := evs_le (spOut 168 31 l 4095) 1365
  generalize evs (spOut 168 31 l 4095) 1365 = e at *
  rw [List.length_append, List.length_replicate]
  omega
theorem evenL_len (l : List B8) (i j : B8) : (evenL l i j).length ≤ 256 := by
  unfold evenL; split
  · rw [evn_len]; omega
  · simp
theorem fromL_len (eta : Int) (l : List B8) (n : B8) : (fromL eta l n).length ≤ 256 := by
  unfold fromL; split
  · rw [length_lean]; omega
  · simp
theorem DrawTells_ok (x : SlV) (l : List B8) (y : SlV) (m : List B8) (eta : Int) (i j : B8) (h64 : -9223372036854775808 ≤ eta ∧ eta ≤ 9223372036854775807) (w : World) (hg : Laid w) (hx : Bytes w x l) (hy : Bytes w y m) :
    Ok Pr f_law6_DrawTells [.slice x.a x.n x.c, .slice y.a y.n y.c, .int .i64 eta, .int .u8 (i.toNat : Int), .int .u8 (j.toNat : Int)] w fun v w' => v = .bool true ∧ Mod [] w w' := by
  refine V_law6_DrawTells_of ?_
  unfold V_law6_DrawTells
  have hxl := hx.len
  have hyl := hy.len
  have l1 := evenL_len l i j
  have l2 := leanL_len eta m
  have l3 := fromL_len eta l i
  refine ite_intro (fun h => awake6_of hg (Mine.start w)) (fun h => ?_)
  simp only [Bool.or_eq_false_iff, decide_eq_false_iff_not] at h
  refine call_of (law0_LendBytes_ok x l _ hx (by omega)) ?_
  rintro _ w1 ⟨p, rfl, hp, hpf, m1⟩
  have H := (Mine.start w).gotblk m1 hp hpf
  refine asSl_s (s := ⟨some ⟨p, 0, none⟩, l.length, l.length + 3⟩) (call_of (law0_LendBytes_ok y m _ (hy.mod0 H.mod) (by omega)) ?_)
  rintro _ w2 ⟨q, rfl, hq, hqf, m2⟩
  have H := H.gotblk m2 hq hqf
  refine asSl_s (s := ⟨some ⟨q, 0, none⟩, m.length, m.length + 3⟩) ?_
  refine call_of (draw_Even_all ⟨some ⟨p, 0, none⟩, l.length, l.length + 3⟩ l i j _ (lent_bytes (H.blk 0 rfl))) ?_
  rintro _ w3 ⟨f, e, rfl, hf, he, hn, m3⟩
  have H := H.got2 m3 hf he hn
  refine ⟨_, rfl, f, rfl, rfl, ?_⟩
  refine call_of (ref6_Even_all x l i j _ (hx.mod0 H.mod)) ?_
  rintro _ w4 ⟨f', rfl, hf', m4⟩
  have H := H.got m4 hf'
  refine ⟨_, rfl, f', rfl, _, rfl, rfl, ?_⟩
  refine call_of (draw_Lean_all eta ⟨some ⟨q, 0, none⟩, m.length, m.length + 3⟩ m (by omega) h64 _ (lent_bytes (H.blk 1 rfl))) ?_
  rintro _ w5 ⟨g, e2, rfl, hg', he2, hn2, m5⟩
  have H := H.got2 m5 hg' he2 hn2
  refine ⟨_, rfl, g, rfl, rfl, ?_⟩
  refine call_of (ref6_Lean_all eta y m (by omega) _ (hy.mod0 H.mod)) ?_
  rintro _ w6 ⟨g', rfl, hg'', m6⟩
  have H := H.got m6 hg''
  refine ⟨_, rfl, g', rfl, _, rfl, rfl, ?_⟩
  refine call_of (draw_From_all eta ⟨some ⟨p, 0, none⟩, l.length, l.length + 3⟩ l i (by omega) _ (lent_bytes (H.blk 0 rfl))) ?_
  rintro _ w7 ⟨k, e3, rfl, hk, he3, hn3, m7⟩
  have H := H.got2 m7 hk he3 hn3
  refine ⟨_, rfl, k, rfl, rfl, ?_⟩
  refine call_of (ref6_From_all eta x l i (by omega) _ (hx.mod0 H.mod)) ?_
  rintro _ w8 ⟨k', rfl, hk', m8⟩
  have H := H.got m8 hk'
  refine ⟨_, rfl, k', rfl, _, rfl, rfl, ?_⟩
  generalize evenL l i j = z1 at *
  generalize leanL eta m = z2 at *
  generalize fromL eta l i = z3 at *
  refine join1_of fun go hgo => ?_
  have hgo : ∀ w', Mod [] w8 w' → go true w' := by
    intro w' m'
    refine hgo true w' ?_
    have H := H.frame m'
    refine call_of (law0_OverInts_ok f z1 _ (H.own' 2 rfl) (by omega)) ?_
    rintro _ w9 ⟨_, m9⟩
    have H := H.spoil 2 rfl m9 fun c hc => .inl hc
    refine call_of (law0_OverInts_ok g z2 _ (H.own' 5 rfl) (by omega)) ?_
    rintro _ w10 ⟨_, m10⟩
    have H := H.spoil 5 rfl m10 fun c hc => .inl hc
    refine ite_true rfl (call_of (law0_KeptBytes_ok p x l _ (H.blk 0 rfl) (hx.mod0 H.mod) (by omega)) ?_)
    rintro _ w11 ⟨rfl, m11⟩
    have H := H.frame m11
    refine asB_b (ite_true rfl (call_of (law0_KeptBytes_ok q y m _ (H.blk 1 rfl) (hy.mod0 H.mod) (by omega)) ?_))
    rintro _ w12 ⟨rfl, m12⟩
    have H := H.frame m12
    refine asB_b (ite_true rfl ?_)
    exact awake6_of hg H
  refine call_of (law0_SameInts_same f f' z1 _ (H.nums 2 rfl) (H.nums 4 rfl) (by omega)) ?_
  rintro _ w9 ⟨rfl, m9⟩
  have M := m9
  refine asB_b (ite_true rfl (call_of (law0_Num_err e _ _ (hg.mine (H.frame M) (by simp)) ((H.frame M).err 3 rfl)) ?_))
  rintro _ w10 ⟨rfl, m10⟩
  have M := M.trans m10
  refine asI_i (ite_true (by simp) (call_of (law0_SameInts_same g g' z2 _ ((H.frame M).nums 5 rfl) ((H.frame M).nums 7 rfl) (by omega)) ?_))
  rintro _ w11 ⟨rfl, m11⟩
  have M := M.trans m11
  refine asB_b (ite_true rfl (call_of (law0_Num_err e2 _ _ (hg.mine (H.frame M) (by simp)) ((H.frame M).err 6 rfl)) ?_))
  rintro _ w12 ⟨rfl, m12⟩
  have M := M.trans m12
  refine asI_i (ite_true (by simp) (call_of (law0_SameInts_same k k' z3 _ ((H.frame M).nums 8 rfl) ((H.frame M).nums 10 rfl) (by omega)) ?_))
  rintro _ w13 ⟨rfl, m13⟩
  have M := M.trans m13
  refine asB_b (ite_true rfl (call_of (law0_Num_err e3 _ _ (hg.mine (H.frame M) (by simp)) ((H.frame M).err 9 rfl)) ?_))
  rintro _ w14 ⟨rfl, m14⟩
  have M := M.trans m14
  refine asI_i ?_
  rw [decide_eq_true rfl]
  exact hgo _ M
end Go.Proofs.YtoeedbljiocpdaaDoor
