/- Texts of this claim, packed: what the last one leans on. -/
import Derived.Test.YtfaalfjjkddgiaaDoorQ2
section
/- THE STATEMENTS' OWN CODE, chapter 12: seeds of the right lengths, bounds, masks. -/
namespace Go.Proofs.YtfaalfjjkddgiaaDoor
open Go Go.Ev
set_option maxRecDepth 100000
set_option linter.unusedVariables false
def nearOf (b : Nat) (l : List Int) : List Int := l.map fun x => ((b : Int) - x) % 8380417
theorem lt_blen (n : Nat) : n < 2 ^ blen n := by
  unfold blen
  split
  · rename_i h; rw [h]; decide
  · exact Nat.lt_log2_self
theorem near_dig {a b : Nat} {l : List Int} (h : ∀ x ∈ l, ((b : Int) - x) % 8380417 ≤ ((a + b : Nat) : Int)) : Dig (blen (a + b)) (nearOf b l) := by
  have h1 := lt_blen (a + b)
  refine ⟨fun y hy => ?_, fun y hy => ?_⟩
  · obtain ⟨x, _, rfl⟩ := List.mem_map.1 hy
    omega
  · obtain ⟨x, hx, rfl⟩ := List.mem_map.1 hy
    have := h x hx
    omega
theorem lay_Near_ok (a b : Nat) (ha : a ≤ 1048576) (hb : b ≤ 1048576) (h : 0 < a + b) (x : SlV) (l : List Int) (hl : Po l) (hr : ∀ x ∈ l, ((b : Int) - x) % 8380417 ≤ ((a + b : Nat) : Int)) (w : World) (hx : Nums w x l) :
    Ok Pr f_lay_Near [.int .i64 (a : Int), .int .i64 (b : Int), .slice x.a x.n x.c] w fun v w' => Gave w w' v (packL (blen (a + b)) (nearOf b l)) := by
  refine V_lay_Near_of ?_
  unfold V_lay_Near
  have hxl := hx.len
  have hlen := hl.len
  have h24 := blen_le24 (a + b) (by omega)
  have h1 := blen_pos (a + b) h
  have hdig := near_dig hr
  refine join0_of fun go hgo => call_of (lay_bounds_ok a b ha hb h w) ?_
  rintro _ w1 ⟨rfl, hw⟩
  subst hw
  refine asB_b (ite_false rfl (call_of (wave_May_ok x l (by omega) _ hx) ?_))
  rintro _ w2 ⟨rfl, m2⟩
  rw [hl.may]
  refine asB_b (ite_false rfl (hgo w2 ?_))
  have hnl : (nearOf b l).length = 256 := by unfold nearOf; rw [List.length_map]; exact hlen
  have hget : ∀ i, i < l.length → (nearOf b l).getD i 0 = ((b : Int) - l.getD i 0) % 8380417 := fun i hi => by
    unfold nearOf
    simp [List.getD_eq_getElem?_getD, hi]
  have hle : ∀ i, i < l.length → (nearOf b l).getD i 0 ≤ ((a + b : Nat) : Int) := fun i hi => by
    rw [hget i hi]
    refine hr _ ?_
    rw [List.getD_eq_getElem?_getD, List.getElem?_eq_getElem hi]; exact List.getElem_mem hi
  have hrng : ∀ i, i < l.length → 0 ≤ l.getD i 0 ∧ l.getD i 0 < 8380417 := fun i hi => by
    refine hl.rng _ ?_
    rw [List.getD_eq_getElem?_getD, List.getElem?_eq_getElem hi]; exact List.getElem_mem hi
  generalize nearOf b l = N at *
  refine loop2_up 0 l.length (fun i (xs : SlV) w' => Mine w1 [] w' [.row t_int 1 xs (i64s (N.take i))]) rfl (by omega) (by simpa [i64s] using ((Mine.start w1).frame m2).nilrow t_int 1) ?_ ?_
  · intro again i xs w3 _ hi H hag
    have hn := (H.nums 0 rfl).len
    rw [List.length_take, Nat.min_eq_left (by omega)] at hn
    have hg := hrng i hi
    refine ite_true (decide_eq_true (by omega)) ((hx.mod0 H.mod).ld (i := i) hi rfl ⟨⟨by omega, by omega⟩, call_of (round_Of_ok _ _) ?_⟩)
    rintro _ w4 ⟨rfl, hw⟩
    subst hw
    have h4 := hle i hi
    rw [← hget i hi]
    refine asI_i ⟨⟨by omega, by omega⟩, ite_false (decide_eq_false (by omega)) ?_⟩
    refine H.appN1 0 elt_i64' rfl (by omega) fun xs' w5 H _ => ⟨⟨by omega, by omega⟩, hag xs' w5 ?_⟩
    rw [take_succ_getD _ _ (by omega) 0]
    exact H
  · intro again xs w3 H
    rw [List.take_of_length_le (by omega)] at H
    refine ite_false (decide_eq_false (by omega)) (call_of (lay_long_ok a b (by omega) _) ?_)
    rintro _ w4 ⟨rfl, hw⟩
    subst hw
    refine asI_i (call_of (bits_Pack_ok (blen (a + b)) h1 h24 xs N (by omega) hdig _ (H.nums 0 rfl)) ?_)
    rintro _ w5 ⟨y, rfl, hy, m5⟩
    have H := H.got m5 hy
    exact asSl_s ⟨y, rfl, H.fresh0 1 rfl, H.mod⟩
theorem near_far (d b : Nat) (hd : d ≤ 22) (l : List B8) : nearOf b (farOf d b l) = unpack d l := by
  unfold nearOf farOf
  rw [List.map_map]
  conv => rhs; rw [← List.map_id (unpack d l)]
  refine List.map_congr_left fun x hx => ?_
  obtain ⟨h1, h2⟩ := unpack_lt d l x hx
  have h3 : 2 ^ d ≤ 2 ^ 22 := Nat.pow_le_pow_right (by omega) hd
  have h4 : (2 : Nat) ^ 22 = 4194304 := by decide
  simp only [Function.comp_apply, id_eq]
  omega
/-- the sets, of any number -/
theorem set_of (z : Int) : isSet (1 + (low z 3 : Int)) = true ∧ (1 + (low z 3 : Int) = 1 ∨ 1 + (low z 3 : Int) = 2 ∨ 1 + (low z 3 : Int) = 3) := by
  have h := low_lt (x := z) (n := 3) (by omega)
  have : 1 + (low z 3 : Int) = 1 ∨ 1 + (low z 3 : Int) = 2 ∨ 1 + (low z 3 : Int) = 3 := by omega
  refine ⟨?_, this⟩
  rcases this with h | h | h <;> rw [h] <;> decide
theorem maskC0 {S n : Int} (hs : isSet S = true) (hn : 0 ≤ n ∧ n < 65536) : maskC S 64 n = 0 := by
  unfold maskC
  rw [if_pos ⟨hs, hn⟩, if_pos rfl]
theorem SiftMasks_ok (setv : Int) (x : SlV) (l : List B8) (n : Int) (w : World) (hg : Laid w) (hx : Bytes w x l) :
    Ok Pr f_law12_SiftMasks [.int .i64 setv, .slice x.a x.n x.c, .int .i64 n] w fun v w' => v = .bool true ∧ Mod [] w w' := by
  refine V_law12_SiftMasks_of ?_
  unfold V_law12_SiftMasks
  have hxl := hx.len
  rw [zc_lSet]
  refine ite_intro (fun hc => awake12_of hg (Mine.start w)) (fun hc => ?_)
  have hc := of_decide_eq_false hc
  refine call_of (law0_Low_ok setv 3 (by omega) (by omega) w) ?_
  rintro _ w1 ⟨rfl, hw⟩
  subst hw
  obtain ⟨hs, hs3⟩ := set_of setv
  refine asI_i ⟨⟨by omega, by omega⟩, call_of (law0_Low_ok n 65536 (by omega) (by omega) _) ?_⟩
  rintro _ w2 ⟨rfl, hw⟩
  subst hw
  have hn := low_lt (x := n) (n := 65536) (by omega)
  have hn0 : 0 ≤ (low n 65536 : Int) ∧ (low n 65536 : Int) < 65536 := ⟨by omega, hn⟩
  generalize 1 + (low setv 3 : Int) = S at *
  generalize (low n 65536 : Int) = N at *
  refine asI_i (call_of (lay_Of_ok S _) ?_)
  rintro _ w3 ⟨rfl, m3⟩
  have H := (Mine.start w2).frame m3
  have hD : maskD (layS S) = (if S = 1 then 18 else 20) ∧ 1 ≤ (layS S).g1 ∧ (layS S).g1 ≤ 1048576 ∧ 2 ^ maskD (layS S) = 2 * (layS S).g1 := by
    rcases hs3 with rfl | rfl | rfl <;> decide
  obtain ⟨hD, hG1, hG2, hG3⟩ := hD
  have hbl := blen_g (goodG1 hs)
  have hlen := length_fullL l N 64
  have q3 : maskL S (fullL l N 64) N = farOf (maskD (layS S)) (layS S).g1 (spOut 136 31 (fullL l N 64 ++ two8 N) ((32 * maskD (layS S) : Nat) : Int)) := by
    unfold maskL
    rw [if_pos (by rw [hlen]; exact maskC0 hs hn0)]
  have p3 : Po (maskL S (fullL l N 64) N) := maskL_po (by rw [hlen]; exact maskC0 hs hn0)
  have c3 : maskC S (fullL l N 64).length N = 0 := by rw [hlen]; exact maskC0 hs hn0
  generalize hT : layS S = T at *
  rw [hs]
  refine ⟨_, rfl, as_lSet ⟨_, rfl, rfl, H.nw fun p w4 H _ => H.sT_lay_Set 0 rfl rfl fun w5 H => ?_⟩⟩
  have H : Mine w2 [] w5 [.blk p T.cells t_lay_Set] := H
  refine H.ldI 0 rfl (ad1 p 6) rfl (ite_false (by rw [decide_eq_false (show ¬ ((T.g1 : Nat) : Int) < 1 by omega)]; rfl) (join1_of fun go hgo => ?_))
  have rest : go ((maskD T : Nat) : Int) w5 := by
    have hDv : maskD T = 18 ∨ maskD T = 20 := by
      rw [hD]
      split
      · exact .inl rfl
      · exact .inr rfl
    generalize maskD T = D at *
    refine hgo _ _ (call_of (law12_full_ok x l N (by omega) 64 (by omega) _ (hx.mod0 H.mod)) ?_)
    rintro _ w6 ⟨i1, rfl, hi1, m6⟩
    have H := H.got m6 hi1
    generalize fullL l N 64 = F at *
    refine asSl_s (call_of (sift_Mask_all S i1 _ N _ (H.bytes 1 rfl)) ?_)
    rintro _ w7 ⟨y1, e1, rfl, hy1, he1, hn1, m7⟩
    have H := H.got2 m7 hy1 he1 hn1
    rw [c3] at H
    obtain ⟨m, hm⟩ : ∃ m, m = two8 N := ⟨_, rfl⟩
    have hml : m.length = 2 := by rw [hm]; rfl
    rw [← hm] at q3
    have hol := spOut_len 136 31 (F ++ m) (32 * D) (by omega)
    have hnf : nearOf T.g1 (maskL S F N) = unpack D (spOut 136 31 (F ++ m) ((32 * D : Nat) : Int)) := by rw [q3]; exact near_far _ _ (by omega) _
    have hpk : packL D (unpack D (spOut 136 31 (F ++ m) ((32 * D : Nat) : Int))) = spOut 136 31 (F ++ m) ((32 * D : Nat) : Int) := pack_unpack D 256 (by omega) _ (by rw [hol]; omega)
    rw [← hnf] at hpk
    have hrng : ∀ z ∈ maskL S F N, ((T.g1 : Int) - z) % 8380417 ≤ ((T.g1 - 1 + T.g1 : Nat) : Int) := by
      intro z hz
      have h1 : ((T.g1 : Int) - z) % 8380417 ∈ nearOf T.g1 (maskL S F N) := List.mem_map.2 ⟨z, hz, rfl⟩
      rw [hnf] at h1
      have h2 := (unpack_lt D _ _ h1).2
      omega
    generalize hO : spOut 136 31 (F ++ m) ((32 * D : Nat) : Int) = O at *
    generalize maskL S F N = A at *
    refine ⟨_, rfl, y1, rfl, rfl, H.ldI 0 rfl (ad1 p 6) rfl ⟨⟨by omega, by omega⟩, H.ldI 0 rfl (ad1 p 6) rfl ?_⟩⟩
    rw [show ((T.g1 : Nat) : Int) - 1 = ((T.g1 - 1 : Nat) : Int) by omega]
    refine call_of (lay_Near_ok (T.g1 - 1) T.g1 (by omega) hG2 (by omega) y1 A p3 hrng _ (H.nums 2 rfl)) ?_
    rintro _ w8 ⟨y2, rfl, hy2, m8⟩
    rw [hbl, hpk] at hy2
    have H := H.got m8 hy2
    have hy2l := (H.bytes 4 rfl).len
    rw [hol] at hy2l
    refine asSl_s ((H.err 3 rfl).isNil (ite_true ?_ (H.nw fun p1 w9 H9 _ => H9.nw fun p2 w10 H10 _ => ?_)))
    · rw [wrap_i64 (by omega) (by omega), decide_eq_true (show ((y2.n : Nat) : Int) = 32 * (D : Int) by omega)]; rfl
    · have hmb := H10.blkBytes 5 (l := two8 N) (by rw [wrap_u8_any, wrap_u8_any]; rfl)
      rw [show (two8 N).length = 2 from rfl, ← hm] at hmb
      rw [wrap_i64 (by omega) (by omega), show (32 : Int) * (D : Int) = ((32 * D : Nat) : Int) by omega]
      refine call_of (sponge_Shake256_ok ((32 * D : Nat) : Int) ⟨some ⟨p2, 0, none⟩, 2, 2⟩ [F, m] _ (Parts.of2b (H10.blk 6 rfl) (by simp) (H10.bytes 1 rfl) (off_nil _) hmb (off_nil _)) (small2b rfl (by omega) (by omega))) ?_
      rintro _ w11 ⟨z, rfl, hz, m11⟩
      rw [show [F, m].flatten = F ++ m by simp, hO] at hz
      have H := H10.got m11 hz
      refine asSl_s (call_of (law0_SameBytes_same y2 z O _ (H.bytes 4 rfl) (H.bytes 7 rfl) (by omega)) ?_)
      rintro _ w12 ⟨rfl, m12⟩
      exact asB_b (ite_true rfl (awake12_of hg (H.frame m12)))
  split at hD
  · rename_i h1
    rw [hD] at rest
    exact ite_true (decide_eq_true h1) rest
  · rename_i h1
    rw [hD] at rest
    exact ite_false (decide_eq_false h1) rest
end Go.Proofs.YtfaalfjjkddgiaaDoor
end
