/- Texts of this claim, packed: what the last one leans on. -/
import Derived.Test.YtfaalfjjkddgiaaDoorQ2
section
/- POLYS OUT OF SEEDS: they are polys, and within their bounds. -/
namespace Go.Proofs.YtfaalfjjkddgiaaDoor
open Go Go.Ev
set_option maxRecDepth 20000
set_option linter.unusedVariables false
theorem padZ_len {o : List Int} (h : o.length ≤ 256) : (padZ o).length = 256 := by
  unfold padZ
  rw [List.length_append, List.length_replicate]; omega
theorem padZ_all {o : List Int} {p : Int → Prop} (h : ∀ x ∈ o, p x) (h0 : p 0) : ∀ x ∈ padZ o, p x := by
  intro x hx
  unfold padZ at hx
  rcases List.mem_append.1 hx with h1 | h1
  · exact h x h1
  · rw [List.eq_of_mem_replicate h1]; exact h0
theorem padZ_po {o : List Int} (h : o.length ≤ 256) (hr : ∀ x ∈ o, 0 ≤ x ∧ x < 8380417) : Po (padZ o) := ⟨padZ_len h, padZ_all hr ⟨by omega, by omega⟩⟩
theorem svs_rng (l : List B8) (t : Nat) : ∀ x ∈ svs l t, 0 ≤ x ∧ x < 8380417 := by
  induction t with
  | zero => intro x hx; cases hx
  | succ t ih =>
    intro x hx
    change x ∈ pz (svs l t) (cz l t) at hx
    have hp : 0 ≤ cz l t := by unfold cz; omega
    unfold pz at hx
    split at hx
    · rename_i hc
      rcases List.mem_append.1 hx with h | h
      · exact ih x h
      · rw [List.mem_singleton.1 h]; exact ⟨hp, hc.1⟩
    · exact ih x hx
theorem svn_po (l : List B8) : Po (svn l) := by unfold svn; exact padZ_po (svs_le _ _) (svs_rng _ _)
theorem svenL_po {l : List B8} (h : l.length = 32) (i j : B8) : Po (svenL l i j) := by
  unfold svenL; rw [if_pos h]; exact svn_po _
/-- near 0 -/
structure Nr (b : Int) (x : Int) : Prop where
  lo : 0 ≤ x
  hi : x < 8380417
  near : x ≤ b ∨ 8380417 - b ≤ x
theorem Nr.nrm {b x : Int} (h : Nr b x) (hb : 0 ≤ b) : nrm x ≤ b := by
  have h1 := h.lo
  have h2 := h.hi
  unfold YtfaalfjjkddgiaaDoor.nrm
  rw [Int.emod_eq_of_lt h1 h2]
  rcases h.near with h3 | h3 <;> omega
theorem Nr.zero {b : Int} (hb : 0 ≤ b) : Nr b 0 := ⟨by omega, by omega, .inl hb⟩
theorem Nr.of {b y : Int} (h1 : -b ≤ y) (h2 : y ≤ b) (hb : b < 4000000) : Nr b (y % 8380417) := by
  refine ⟨by omega, by omega, ?_⟩
  rcases Int.lt_or_le y 0 with h | h
  · right
    have : y % 8380417 = y + 8380417 := by omega
    omega
  · left
    rw [Int.emod_eq_of_lt h (by omega)]; exact h2
theorem sms_nr {eta : Int} (he : eta = 2 ∨ eta = 4) (l : List B8) (i : Nat) : ∀ x ∈ sms eta l i, Nr eta x := by
  induction i with
  | zero => intro x hx; cases hx
  | succ i ih =>
    intro x hx
    change x ∈ sq eta (sms eta l i) (nib l i) at hx
    unfold sq at hx
    split at hx
    · rename_i hc
      rcases List.mem_append.1 hx with h | h
      · exact ih x h
      · rw [List.mem_singleton.1 h]
        have hk := hc.1
        unfold smk at hk
        unfold smv
        rcases he with rfl | rfl
        · rw [if_pos rfl] at hk ⊢
          have hk := of_decide_eq_true hk
          exact Nr.of (by omega) (by omega) (by omega)
        · rw [if_neg (by decide)] at hk ⊢
          have hk := of_decide_eq_true hk
          exact Nr.of (by omega) (by omega) (by omega)
    · exact ih x hx
theorem smn_nr {eta : Int} (he : eta = 2 ∨ eta = 4) (l : List B8) : ∀ x ∈ smn eta l, Nr eta x := by unfold smn; exact padZ_all (sms_nr he _ _) (Nr.zero (by rcases he with rfl | rfl <;> decide))
theorem smn_po {eta : Int} (he : eta = 2 ∨ eta = 4) (l : List B8) : Po (smn eta l) := ⟨by unfold smn; exact padZ_len (sms_le _ _ _), fun x hx => ⟨(smn_nr he l x hx).lo, (smn_nr he l x hx).hi⟩⟩
theorem farOf_len (d b : Nat) (l : List B8) : (farOf d b l).length = 8 * l.length / d := by
  unfold farOf; rw [List.length_map, length_unpack]
theorem unpack_lt (d : Nat) (l : List B8) : ∀ x ∈ unpack d l, 0 ≤ x ∧ x < ((2 ^ d : Nat) : Int) := by
  intro x hx
  unfold unpack at hx
  obtain ⟨i, _, rfl⟩ := List.mem_map.1 hx
  have := ptk_lt (num l) d i
  exact ⟨by omega, by omega⟩
theorem farOf_po (d b : Nat) (hd : 0 < d) (l : List B8) (h : l.length = 32 * d) : Po (farOf d b l) := by
  refine ⟨?_, fun x hx => ?_⟩
  · rw [farOf_len, h, show 8 * (32 * d) = 256 * d by omega, Nat.mul_div_cancel _ hd]
  · unfold farOf at hx
    obtain ⟨y, _, rfl⟩ := List.mem_map.1 hx
    exact ⟨by omega, by omega⟩
theorem farOf_nr (d b : Nat) (l : List B8) (h : 2 ^ d ≤ 2 * b) (hb : b < 4000000) : ∀ x ∈ farOf d b l, Nr b x := by
  intro x hx
  unfold farOf at hx
  obtain ⟨y, hy, rfl⟩ := List.mem_map.1 hx
  obtain ⟨h1, h2⟩ := unpack_lt d l y hy
  exact Nr.of (by omega) (by omega) (by omega)
theorem maskD_pos (s : LayS) : 0 < maskD s := by
  unfold maskD
  split <;> omega
theorem maskL_po {set n : Int} {l : List B8} (h : maskC set l.length n = 0) : Po (maskL set l n) := by
  unfold maskL
  rw [if_pos h]
  refine farOf_po _ _ (maskD_pos _) _ (spOut_len 136 31 _ _ ?_)
  unfold maskD
  split <;> omega
theorem maskL_nr {set n : Int} {l : List B8} (hs : isSet set = true) : ∀ x ∈ maskL set l n, Nr ((layS set).g1 : Int) x := by
  unfold maskL
  split
  · refine farOf_nr _ _ _ ?_ ?_
    · unfold maskD
      rcases (goodG1 hs).g with e | e
      · rw [e, if_neg (by decide)]; decide
      · rw [e, if_pos rfl]; decide
    · rcases (goodG1 hs).g with e | e <;> omega
  · intro x hx; cases hx
/-! ### a ball -/
def nzB (x : Int) : Bool := !decide (x = 0)
structure BallOk (tau : Nat) (s : Nat × List Int) : Prop where
  len : s.2.length = 256
  lo : 256 - tau ≤ s.1
  hi : s.1 ≤ 256
  one : ∀ x ∈ s.2, x = 0 ∨ x = 1 ∨ x = 8380416
  zero : ∀ i, s.1 ≤ i → s.2.getD i 0 = 0
  many : s.2.countP nzB + 256 ≤ s.1 + tau
theorem bsg_one (z : List B8) (k : Nat) : bsg z k = 1 ∨ bsg z k = 8380416 := by
  unfold bsg
  split
  · exact .inr rfl
  · exact .inl rfl
theorem BallOk.step {tau : Nat} (htau : tau ≤ 64) {s : Nat × List Int} (h : BallOk tau s) (z : List B8) (j : Nat) : BallOk tau (bst tau z s j) := by
  unfold bst
  split
  · rename_i hc
    obtain ⟨h1, h2⟩ := hc
    have hl := h.len
    have e1 := bsg_one z (s.1 + tau - 256)
    generalize bsg z (s.1 + tau - 256) = e at *
    have hlen : ((s.2.set s.1 (s.2.getD j 0)).set j e).length = 256 := by simp only [List.length_set]; exact hl
    have hne : nzB e = true := by rcases e1 with rfl | rfl <;> decide
    refine ⟨hlen, Nat.le_trans h.lo (Nat.le_succ _), h1, fun x hx => ?_, fun i hi => ?_, ?_⟩
    · rcases List.mem_or_eq_of_mem_set hx with h3 | rfl
      · rcases List.mem_or_eq_of_mem_set h3 with h4 | rfl
        · exact h.one x h4
        · have hm : s.2.getD j 0 ∈ s.2 := by
            rw [List.getD_eq_getElem?_getD, List.getElem?_eq_getElem (show j < s.2.length by omega)]; exact List.getElem_mem _
          exact h.one _ hm
      · exact .inr e1
    · have hi : s.1 + 1 ≤ i := hi
      have h3 := h.zero i (by omega)
      rw [List.getD_eq_getElem?_getD] at h3 ⊢
      rw [List.getElem?_set_ne (by omega), List.getElem?_set_ne (by omega)]
      exact h3
    · have hz := h.zero s.1 (Nat.le_refl _)
      have hm := h.many
      have hz' : s.2[s.1]'(by omega) = 0 := by
        rw [List.getD_eq_getElem?_getD, List.getElem?_eq_getElem (show s.1 < s.2.length by omega)] at hz
        exact hz
      have hj' : s.2.getD j 0 = s.2[j]'(by omega) := by
        rw [List.getD_eq_getElem?_getD, List.getElem?_eq_getElem (show j < s.2.length by omega)]; rfl
      show ((s.2.set s.1 (s.2.getD j 0)).set j e).countP nzB + 256 ≤ s.1 + 1 + tau
      rw [List.countP_set (by simp only [List.length_set]; omega), List.countP_set (by omega), hne, if_pos rfl, hz', if_neg (show ¬ nzB 0 = true by decide), hj']
      rcases Nat.lt_or_ge j s.1 with hlt | hge
      · rw [List.getElem_set_ne (by omega)]
        cases hb : nzB (s.2[j]'(by omega)) <;> simp <;> omega
      · have : j = s.1 := by omega
        subst this
        rw [List.getElem_set_self]
        cases hb : nzB (s.2[s.1]'(by omega)) <;> simp <;> omega
  · exact h
theorem bls_okay (tau : Nat) (htau : tau ≤ 64) (z : List B8) (t : Nat) : BallOk tau (bls tau z t) := by
  induction t with
  | zero =>
    refine ⟨by simp [bls], Nat.le_refl _, by show 256 - tau ≤ 256; omega, fun x hx => ?_, fun i _ => ?_, ?_⟩
    · exact .inl (List.eq_of_mem_replicate hx)
    · show (List.replicate 256 (0 : Int)).getD i 0 = 0
      rw [List.getD_eq_getElem?_getD, List.getElem?_replicate]
      split <;> rfl
    · show (List.replicate 256 (0 : Int)).countP nzB + 256 ≤ 256 - tau + tau
      rw [List.countP_replicate, if_neg (show ¬ nzB 0 = true by decide)]; omega
  | succ t ih => exact ih.step htau z _
theorem ballL_okay {set : Int} {l : List B8} (h : ballC set l.length = 0) : Po (ballL set l) ∧ (∀ x ∈ ballL set l, x = 0 ∨ x = 1 ∨ x = 8380416) ∧ (ballL set l).countP nzB ≤ (layS set).tau := by
  unfold ballL
  rw [if_pos h]
  unfold balln
  have ho := bls_okay (layS set).tau (tau_le set) (spOut 136 31 l 4096) 4088
  refine ⟨⟨ho.len, fun x hx => ?_⟩, ho.one, ?_⟩
  · rcases ho.one x hx with rfl | rfl | rfl <;> omega
  · have h1 := ho.many
    have h2 := ho.hi
    omega
end Go.Proofs.YtfaalfjjkddgiaaDoor
end
section
/- A BALL of zeros: reckoned. -/
namespace Go.Proofs.YtfaalfjjkddgiaaDoor
open Go Go.Ev
set_option maxRecDepth 100000
set_option linter.unusedVariables false
def z32b : List B8 := List.replicate 32 0
def ballz : List Nat := [245, 151, 124, 130, 131, 84, 106, 99, 114, 59, 195, 29, 38, 25, 18, 79, 17, 219, 70, 88, 100, 51, 54, 116, 29, 248, 23, 87, 213, 173, 48, 98, 34, 30, 18, 67, 17, 236, 127, 113, 129, 86, 141, 231, 147, 141, 248, 5, 216, 148, 245, 253, 237, 70, 80, 1, 160, 78, 38, 10, 73, 72, 44, 245, 224, 11, 63, 157, 51, 141, 233, 4, 136, 151, 55, 135, 176, 145, 106, 74, 154, 232, 190, 191, 78, 43, 192, 122, 123, 193, 143, 26, 98, 33, 81, 130, 56, 197, 196, 177]
theorem ball_bytes : (spOut 136 31 z32b 100).map BitVec.toNat = ballz := by kernel_rfl
theorem ball_spOut : spOut 136 31 z32b 100 = ballz.map (BitVec.ofNat 8) := by
  rw [← ball_bytes, List.map_map]
  conv => lhs; rw [← List.map_id (spOut 136 31 z32b 100)]
  refine List.map_congr_left fun b _ => ?_
  simp
theorem ball_runs : (bls 39 (ballz.map (BitVec.ofNat 8)) 60).1 = 256 ∧ ((bls 39 (ballz.map (BitVec.ofNat 8)) 60).2.countP fun x => !decide (x = 0)) = 39 := by decide +kernel
theorem ball_z : (ballL 1 z32b).length = 256 ∧ ((ballL 1 z32b).countP fun x => !decide (x = 0)) = 39 := by
  have h0 : ballL 1 z32b = balln 39 z32b := by
    unfold ballL
    rw [if_pos (by decide)]; rfl
  rw [h0]
  unfold balln
  have ht := spOut_take 136 31 z32b 100 4096 (by omega) (by omega)
  have hlen := spOut_len 136 31 z32b 4096 (by omega)
  rw [show ((100 : Nat) : Int) = 100 from rfl, ball_spOut] at ht
  rw [show ((4096 : Nat) : Int) = 4096 from rfl] at ht hlen
  generalize spOut 136 31 z32b 4096 = z at *
  obtain ⟨e, he⟩ : ∃ e, e = ballz.map (BitVec.ofNat 8) := ⟨_, rfl⟩
  have hr := ball_runs
  rw [← he] at ht hr
  have h1 := bls_take 39 z 100 60 (by omega) (by omega) (by omega) (by omega)
  rw [ht] at h1
  rw [h1] at hr
  have h2 := bls_full 39 z 60 4028 hr.1
  rw [show 60 + 4028 = 4088 from rfl] at h2
  rw [h2]
  exact ⟨bls_len _ _ _, hr.2⟩
end Go.Proofs.YtfaalfjjkddgiaaDoor
end
section
/- NUMBERS IN BITS, packed: the law of lists, and the program's own. -/
namespace Go.Proofs.YtfaalfjjkddgiaaDoor
open Go Go.Ev
set_option maxRecDepth 20000
set_option linter.unusedVariables false
theorem wrap_u8N (n : Nat) : IntKind.wrap .u8 (n : Int) = ((BitVec.ofNat 8 n).toNat : Int) := by
  rw [wrap_u8_any, BitVec.ofInt_natCast]
/-- numbers within their bits -/
structure Dig (d : Nat) (xs : List Int) : Prop where
  pos : ∀ x ∈ xs, 0 ≤ x
  lt : ∀ x ∈ xs, x < ((2 ^ d : Nat) : Int)
theorem Dig.at {d : Nat} {xs : List Int} (h : Dig d xs) {i : Nat} (hi : i < xs.length) : ∃ y : Nat, xs.getD i 0 = (y : Int) ∧ y < 2 ^ d := by
  have e : xs.getD i 0 = xs[i] := by simp [List.getD_eq_getElem?_getD, hi]
  have hm : xs[i] ∈ xs := List.getElem_mem hi
  have h1 := h.pos _ hm
  have h2 := h.lt _ hm
  exact ⟨xs[i].toNat, by omega, by omega⟩
theorem Dig.take {d : Nat} {xs : List Int} (h : Dig d xs) (k : Nat) : Dig d (xs.take k) := ⟨fun x hx => h.pos x (List.mem_of_mem_take hx), fun x hx => h.lt x (List.mem_of_mem_take hx)⟩
end Go.Proofs.YtfaalfjjkddgiaaDoor
end
section
/- THE STATEMENTS' OWN CODE, chapter 12: bytes that are made, what every program answers that is one. -/
namespace Go.Proofs.YtfaalfjjkddgiaaDoor
open Go Go.Ev
set_option maxRecDepth 100000
set_option linter.unusedVariables false
/-- so many bytes of some -/
def fullB (b : List B8) (n : Int) (i : Nat) : B8 := BitVec.ofInt 8 (n + i) + (if 0 < b.length then b.getD (i % b.length) 0 else 0)
def fullL (b : List B8) (n : Int) (many : Nat) : List B8 := (List.range many).map (fullB b n)
theorem length_fullL (b : List B8) (n : Int) (many : Nat) : (fullL b n many).length = many := by simp [fullL]
theorem set_mid {A : Type} (p q : List A) (x y : A) (n : Nat) (hn : n = p.length) : (p ++ x :: q).set n y = p ++ y :: q := by
  subst hn
  rw [List.set_append_right _ _ (Nat.le_refl _), Nat.sub_self, List.set_cons_zero]
theorem getD_mid {A : Type} (p q : List A) (x d : A) (n : Nat) (hn : n = p.length) : (p ++ x :: q).getD n d = x := by
  subst hn
  simp [List.getD_eq_getElem?_getD]
theorem law12_full_ok (x : SlV) (l : List B8) (n : Int) (hn : 0 ≤ n ∧ n ≤ 1000000) (many : Nat) (hm : many ≤ 1000000) (w : World) (hx : Bytes w x l) :
    Ok Pr f_law12_full [.slice x.a x.n x.c, .int .i64 n, .int .i64 (many : Int)] w fun v w' => Gave w w' v (fullL l n many) := by
  refine V_law12_full_of ?_
  unfold V_law12_full
  have hxl := hx.len
  refine (Mine.start w).mkU elt_u8 (by kernel_rfl) (n := many) rfl rfl (by omega) fun y w1 H hyn => ?_
  refine loop1_up 0 many (fun i w' => Mine w [] w' [.row t_uint8 1 y (u8s (fullL l n i ++ List.replicate (many - i) 0))]) rfl (by omega) (by simpa [fullL] using H) ?_ ?_
  · intro again i w2 _ hi H hag
    have hlen : (fullL l n i).length = i := length_fullL l n i
    have hrep : List.replicate (many - i) (0 : B8) = 0 :: List.replicate (many - (i + 1)) 0 := by rw [show many - i = (many - (i + 1)) + 1 by omega]; rfl
    have hsucc : fullL l n (i + 1) ++ List.replicate (many - (i + 1)) 0 = fullL l n i ++ fullB l n i :: List.replicate (many - (i + 1)) 0 := by
      unfold fullL; rw [List.range_succ, List.map_append, List.append_assoc]; rfl
    rw [hsucc] at hag
    have hB : fullB l n i = BitVec.ofInt 8 (n + i) + (if 0 < l.length then l.getD (i % l.length) 0 else 0) := rfl
    generalize fullB l n i = B at *
    rw [hrep] at H
    generalize fullL l n i = F at *
    generalize List.replicate (many - (i + 1)) (0 : B8) = Z at *
    have hb := (H.bytes 0 rfl).len
    have hsm : (y.a.isSome = true ∧ 0 ≤ (i : Int) ∧ (i : Int) < ((y.n : Nat) : Int)) := ⟨(H.bytes 0 rfl).some (by omega), by omega, by omega⟩
    refine ite_true (decide_eq_true (by omega)) ⟨⟨by omega, by omega⟩, hsm, ?_⟩
    refine H.st8 0 (BitVec.ofInt 8 (n + i)) rfl (by rw [Nat.mul_one]) (by simp [hlen]) (wrap_u8_any _) fun w3 H => ?_
    change Mine w [] w3 [.row t_uint8 1 y (u8s ((F ++ 0 :: Z).set (Int.toNat (i : Int)) (BitVec.ofInt 8 (n + i))))] at H
    rw [set_mid _ _ _ _ _ (by rw [hlen]; rfl)] at H
    refine ite_intro (fun hc => ?_) (fun hc => ?_)
    · have hc := of_decide_eq_true hc
      have H := H.drew
      refine (H.bytes 0 rfl).ld (i := i) (by simp [hlen]) ?_
      rw [getD_mid _ _ _ _ _ hlen.symm]
      have hxm : i % l.length < l.length := Nat.mod_lt _ (by omega)
      have emod : (i : Int) % ((x.n : Nat) : Int) = ((i % l.length : Nat) : Int) := by rw [← hxl]; exact (Int.natCast_emod i l.length).symm
      refine pos_of hc ⟨by omega, ?_⟩
      rw [emod]
      refine (hx.mod0 H.mod).ld (i := i % l.length) hxm ⟨hsm, ?_⟩
      have eB : IntKind.wrap .u8 (((BitVec.ofInt 8 (n + i)).toNat : Int) + ((l.getD (i % l.length) 0).toNat : Int)) = (B.toNat : Int) := by
        rw [if_pos (by omega)] at hB
        rw [hB, show ((BitVec.ofInt 8 (n + i)).toNat : Int) + ((l.getD (i % l.length) 0).toNat : Int) = (((BitVec.ofInt 8 (n + i)).toNat + (l.getD (i % l.length) 0).toNat : Nat) : Int) by omega, wrap_u8N, BitVec.toNat_add, BitVec.toNat_ofNat]
      refine H.st8 0 B rfl (by rw [Nat.mul_one]) (by simp [hlen]) eB fun w4 H => ⟨⟨by omega, by omega⟩, hag w4 ?_⟩
      change Mine w [] w4 [.row t_uint8 1 y (u8s ((F ++ BitVec.ofInt 8 (n + i) :: Z).set (Int.toNat (i : Int)) B))] at H
      rw [set_mid _ _ _ _ _ (by rw [hlen]; rfl)] at H
      exact H
    · have hc := of_decide_eq_false hc
      refine ⟨⟨by omega, by omega⟩, hag w3 ?_⟩
      rw [if_neg (by omega)] at hB
      rw [hB, show BitVec.ofInt 8 (n + i) + (0 : B8) = BitVec.ofInt 8 (n + i) by simp]
      exact H
  · intro again w2 H
    rw [Nat.sub_self, List.replicate_zero, List.append_nil] at H
    exact ite_false (decide_eq_false (by omega)) ⟨y, rfl, H.fresh0 0 rfl, H.mod⟩
theorem countP_take_succ {A : Type} (p : A → Bool) (l : List A) (i : Nat) (h : i < l.length) (d : A) : (l.take (i + 1)).countP p = (l.take i).countP p + (if p (l.getD i d) = true then 1 else 0) := by
  rw [take_succ_getD _ _ h d, List.countP_append, List.countP_cons, List.countP_nil, Nat.zero_add]
theorem law12_awake_ok (w : World) (hg : Laid w) : Ok Pr f_law12_awake [] w fun v w' => v = .bool true ∧ Mod [] w w' := by
  refine V_law12_awake_of ?_
  unfold V_law12_awake
  refine (Mine.start w).mkU elt_u8 (by kernel_rfl) (n := 32) rfl rfl (by omega) fun y w1 H hyn => ?_
  change Mine w [] w1 [.row t_uint8 1 y (u8s z32b)] at H
  refine call_of (sift_Ball_all 1 y z32b _ (H.bytes 0 rfl)) ?_
  rintro _ w2 ⟨f, er, rfl, hf, he, hn, m2⟩
  obtain ⟨hzl, hz39⟩ := ball_z
  have hzc : ballC 1 z32b.length = 0 := by decide
  rw [hzc] at he hn
  generalize ballL 1 z32b = B at *
  have H := H.got2 m2 hf he hn
  refine ⟨_, rfl, f, rfl, rfl, call_of (sift_Even_all ⟨none, 0, 0⟩ [] 0 0 w2 (Bytes.nil _)) ?_⟩
  rintro _ w3 ⟨f2, er2, rfl, hf2, he2, hn2, m3⟩
  have hec : svenC ([] : List B8).length = 3 := by decide
  rw [hec] at he2 hn2
  have H := H.got2 m3 hf2 he2 hn2
  refine ⟨_, rfl, f2, rfl, rfl, ?_⟩
  have hfl := (H.nums 1 rfl).len
  refine loop2_up 0 B.length (fun i (k : Int) w' => k = ((B.take i).countP (fun x => !decide (x = 0)) : Int) ∧ w' = w3) rfl (by omega) ⟨rfl, rfl⟩ ?_ ?_
  · rintro again i _ _ _ hi ⟨rfl, rfl⟩ hag
    have hs := countP_take_succ (fun x => !decide (x = (0 : Int))) B i hi 0
    have hle : (B.take i).countP (fun x => !decide (x = (0 : Int))) ≤ i := Nat.le_trans List.countP_le_length (by rw [List.length_take]; omega)
    refine ite_true (decide_eq_true (by omega)) ((H.nums 1 rfl).ld (i := i) hi rfl (ite_intro (fun hc => ?_) (fun hc => ?_)))
    · rw [if_pos hc] at hs
      exact ⟨⟨by omega, by omega⟩, ⟨by omega, by omega⟩, hag _ _ ⟨by omega, rfl⟩⟩
    · rw [if_neg (by rw [hc]; decide)] at hs
      exact ⟨⟨by omega, by omega⟩, hag _ _ ⟨by omega, rfl⟩⟩
  · rintro again _ _ ⟨rfl, rfl⟩
    rw [List.take_of_length_le (Nat.le_refl _), hz39]
    refine ite_false (decide_eq_false (by omega)) ((H.err 2 rfl).isNil (ite_true ?_ (call_of (law0_Num_err er2 3 _ (hg.mine H (by simp)) (H.err 4 rfl)) ?_)))
    · rw [decide_eq_true (show ((f.n : Nat) : Int) = 256 by omega)]; rfl
    · rintro _ w4 ⟨rfl, m4⟩
      exact asI_i ⟨rfl, (H.frame m4).mod⟩
theorem awake12_of {w0 w : World} {L : List Res} (hg : Laid w0) (H : Mine w0 [] w L) : callK Pr f_law12_awake [] w fun v w' => asB v fun t => (Value.bool t = .bool true ∧ Mod [] w0 w') := by
  refine call_of (law12_awake_ok w (hg.mine H (by simp))) ?_
  rintro _ w1 ⟨rfl, m⟩
  exact asB_b ⟨rfl, (H.frame m).mod⟩
end Go.Proofs.YtfaalfjjkddgiaaDoor
end
section
/- THE STATEMENTS' OWN CODE, chapter 12: seeds of the right lengths, bounds, masks. -/
namespace Go.Proofs.YtfaalfjjkddgiaaDoor
open Go Go.Ev
set_option maxRecDepth 100000
set_option linter.unusedVariables false
/-- the sets, of any number -/
theorem set_of (z : Int) : isSet (1 + (low z 3 : Int)) = true ∧ (1 + (low z 3 : Int) = 1 ∨ 1 + (low z 3 : Int) = 2 ∨ 1 + (low z 3 : Int) = 3) := by
  have h := low_lt (x := z) (n := 3) (by omega)
  have : 1 + (low z 3 : Int) = 1 ∨ 1 + (low z 3 : Int) = 2 ∨ 1 + (low z 3 : Int) = 3 := by omega
  refine ⟨?_, this⟩
  rcases this with h | h | h <;> rw [h] <;> decide
theorem eta_of {S : Int} (h : isSet S = true) : ((layS S).eta : Int) = 2 ∨ ((layS S).eta : Int) = 4 := by
  unfold isSet at h
  simp only [Bool.or_eq_true, decide_eq_true_eq] at h
  rcases h with rfl | rfl | rfl
  · exact .inl rfl
  · exact .inr rfl
  · exact .inl rfl
theorem smC0 {eta n : Int} (he : eta = 2 ∨ eta = 4) (hn : 0 ≤ n ∧ n < 65536) : smC eta 64 n = 0 := by
  unfold smC
  rw [if_pos ⟨he, hn⟩, if_pos rfl]
theorem maskC0 {S n : Int} (hs : isSet S = true) (hn : 0 ≤ n ∧ n < 65536) : maskC S 64 n = 0 := by
  unfold maskC
  rw [if_pos ⟨hs, hn⟩, if_pos rfl]
theorem ballC0 {S : Int} (hs : isSet S = true) : ballC S (layS S).c = 0 := by
  unfold ballC
  rw [if_pos hs, if_pos rfl]
theorem SiftBounds_ok (setv : Int) (x : SlV) (l : List B8) (n : Int) (w : World) (hg : Laid w) (hx : Bytes w x l) :
    Ok Pr f_law12_SiftBounds [.int .i64 setv, .slice x.a x.n x.c, .int .i64 n] w fun v w' => v = .bool true ∧ Mod [] w w' := by
  refine V_law12_SiftBounds_of ?_
  unfold V_law12_SiftBounds
  have hxl := hx.len
  rw [zc_refSet]
  refine ite_intro (fun hc => awake12_of hg (Mine.start w)) (fun hc => ?_)
  have hc := of_decide_eq_false hc
  refine call_of (law0_Low_ok setv 3 (by omega) (by omega) w) ?_
  rintro _ w1 ⟨rfl, hw⟩
  subst hw
  obtain ⟨hs, hs3⟩ := set_of setv
  refine asI_i ⟨⟨by omega, by omega⟩, call_of (law0_Low_ok n 65536 (by omega) (by omega) _) ?_⟩
  rintro _ w2 ⟨rfl, hw⟩
  subst hw
  have hn := low_lt (x := n) (n := 65536) (by omega)
  have hn0 : 0 ≤ (low n 65536 : Int) ∧ (low n 65536 : Int) < 65536 := ⟨by omega, hn⟩
  generalize 1 + (low setv 3 : Int) = S at *
  generalize (low n 65536 : Int) = N at *
  refine asI_i (call_of (ref11_Of_ok S _) ?_)
  rintro _ w3 ⟨rfl, m3⟩
  have H := (Mine.start w2).frame m3
  have he := eta_of hs
  have hcl := c_le S
  have hbc := ballC0 hs
  have q1 : Po (svenL (fullL l N 32) (BitVec.ofInt 8 N) 7) := svenL_po (length_fullL _ _ _) _ _
  have q2 : Po (smL ((layS S).eta : Int) (fullL l N 64) N) := by
    unfold smL
    rw [if_pos (by rw [length_fullL]; exact smC0 he hn0)]
    exact smn_po he _
  have r2 : ∀ y ∈ smL ((layS S).eta : Int) (fullL l N 64) N, nrm y ≤ ((layS S).eta : Int) := by
    unfold smL
    rw [if_pos (by rw [length_fullL]; exact smC0 he hn0)]
    exact fun y hy => (smn_nr he _ y hy).nrm (by omega)
  have q3 : Po (maskL S (fullL l N 64) N) := maskL_po (by rw [length_fullL]; exact maskC0 hs hn0)
  have r3 : ∀ y ∈ maskL S (fullL l N 64) N, nrm y ≤ ((layS S).g1 : Int) := fun y hy => (maskL_nr hs y hy).nrm (by omega)
  obtain ⟨q4, o4, t4⟩ := ballL_okay (set := S) (l := fullL l N (layS S).c) (by rw [length_fullL]; exact hbc)
  have ht64 := tau_le S
  generalize hT : layS S = T at *
  refine ⟨_, rfl, as_rSet ⟨_, rfl, rfl, H.nw fun p w4 H _ => H.sT_ref11_Set 0 rfl rfl fun w5 H => ?_⟩⟩
  have H : Mine w2 [] w5 [.blk p T.cells t_ref11_Set] := H
  rw [wrap_u8_any]
  refine call_of (law12_full_ok x l N (by omega) 32 (by omega) _ (hx.mod0 H.mod)) ?_
  rintro _ w6 ⟨i1, rfl, hi1, m6⟩
  have H := H.got m6 hi1
  refine asSl_s (call_of (sift_Even_all i1 _ _ 7 _ (H.bytes 1 rfl)) ?_)
  rintro _ w7 ⟨y1, e1, rfl, hy1, he1, hn1, m7⟩
  have H := (H.got2 m7 hy1 he1 hn1).drew
  refine ⟨_, rfl, y1, rfl, rfl, H.ldI 0 rfl (ad1 p 2) rfl (call_of (law12_full_ok x l N (by omega) 64 (by omega) _ (hx.mod0 H.mod)) ?_)⟩
  rintro _ w10 ⟨i3, rfl, hi3, m10⟩
  have H' := H.got m10 hi3
  refine asSl_s ⟨keptB (H.blk 0 rfl) (H'.blk 0 rfl) (add_block _ _), call_of (sift_Small_all _ i3 _ N _ (H'.bytes 4 rfl)) ?_⟩
  have H := H'
  rintro _ w11 ⟨y2, e2, rfl, hy2, he2, hn2, m11⟩
  have H := H.got2 m11 hy2 he2 hn2
  refine ⟨_, rfl, y2, rfl, rfl, call_of (law12_full_ok x l N (by omega) 64 (by omega) _ (hx.mod0 H.mod)) ?_⟩
  rintro _ w14 ⟨i5, rfl, hi5, m14⟩
  have H := H.got m14 hi5
  refine asSl_s (call_of (sift_Mask_all S i5 _ N _ (H.bytes 7 rfl)) ?_)
  rintro _ w15 ⟨y3, e3, rfl, hy3, he3, hn3, m15⟩
  have H := H.got2 m15 hy3 he3 hn3
  refine ⟨_, rfl, y3, rfl, rfl, H.ldI 0 rfl (ad1 p 8) rfl (call_of (law12_full_ok x l N (by omega) T.c (by omega) _ (hx.mod0 H.mod)) ?_)⟩
  rintro _ w18 ⟨i7, rfl, hi7, m18⟩
  have H := H.got m18 hi7
  refine asSl_s (call_of (sift_Ball_all S i7 _ _ (H.bytes 10 rfl)) ?_)
  rintro _ w19 ⟨y4, e4, rfl, hy4, he4, hn4, m19⟩
  have H := H.got2 m19 hy4 he4 hn4
  generalize svenL (fullL l N 32) (BitVec.ofInt 8 N) 7 = A1 at *
  generalize smL (T.eta : Int) (fullL l N 64) N = A2 at *
  generalize maskL S (fullL l N 64) N = A3 at *
  generalize ballL S (fullL l N T.c) = A4 at *
  refine ⟨_, rfl, y4, rfl, rfl, join0_of fun go hgo => ?_⟩
  have H := H.drew
  have hl1 := q1.len
  have hl2 := q2.len
  have hl3 := q3.len
  have hl4 := q4.len
  refine call_of (wave_May_ok y1 A1 (by omega) _ (H.nums 2 rfl)) ?_
  rintro _ v1 ⟨rfl, n1⟩
  have H := H.frame n1
  rw [q1.may]
  refine asB_b (ite_false rfl (call_of (wave_May_ok y2 A2 (by omega) _ (H.nums 5 rfl)) ?_))
  rintro _ v2 ⟨rfl, n2⟩
  have H := H.frame n2
  rw [q2.may]
  refine asB_b (ite_false rfl (call_of (wave_May_ok y3 A3 (by omega) _ (H.nums 8 rfl)) ?_))
  rintro _ v3 ⟨rfl, n3⟩
  have H := H.frame n3
  rw [q3.may]
  refine asB_b (ite_false rfl (call_of (wave_May_ok y4 A4 (by omega) _ (H.nums 11 rfl)) ?_))
  rintro _ v4 ⟨rfl, n4⟩
  have H := H.frame n4
  rw [q4.may]
  refine asB_b (H.ldI 0 rfl (ad1 p 2) rfl (ite_false rfl (H.nw fun p1 w23 H1 _ => ⟨keptB (H.blk 0 rfl) (H1.blk 0 rfl) (add_block _ _), ?_⟩)))
  refine call_of (wave_Norm_ok ⟨some ⟨p1, 0, none⟩, 1, 1⟩ [A2] (by simp) (fun a ha => by rw [List.mem_singleton.1 ha]; exact q2) _ (Pols.of1 (H1.blk 13 rfl) (H1.nums 5 rfl))) ?_
  rintro _ w24 ⟨rfl, n5⟩
  have H2 := H1.frame n5
  have b2 : normL [A2] ≤ (T.eta : Int) := norm1_le (by omega) r2
  have b3 : normL [A3] ≤ (T.g1 : Int) := norm1_le (by omega) r3
  generalize normL [A2] = N2 at *
  refine asI_i ⟨keptB (H1.blk 0 rfl) (H2.blk 0 rfl) (add_block _ _), H2.ldI 0 rfl (ad1 p 6) rfl (ite_false (decide_eq_false (by omega)) (H2.nw fun p2 w25 H3 _ => ⟨keptB (H2.blk 0 rfl) (H3.blk 0 rfl) (add_block _ _), ?_⟩))⟩
  refine call_of (wave_Norm_ok ⟨some ⟨p2, 0, none⟩, 1, 1⟩ [A3] (by simp) (fun a ha => by rw [List.mem_singleton.1 ha]; exact q3) _ (Pols.of1 (H3.blk 14 rfl) (H3.nums 8 rfl))) ?_
  rintro _ w26 ⟨rfl, n6⟩
  have H4 := H3.frame n6
  generalize normL [A3] = N3 at *
  refine asI_i ⟨keptB (H3.blk 0 rfl) (H4.blk 0 rfl) (add_block _ _), ite_false (decide_eq_false (by omega)) (hgo w26 ?_)⟩
  have H := H4
  clear hgo H1 H2 H3 H4 H'
  have hyl := (H.nums 11 rfl).len
  refine loop2_up 0 A4.length (fun i (k : Int) w' => k = ((A4.take i).countP nzB : Int) ∧ w' = w26) rfl (by omega) ⟨rfl, rfl⟩ ?_ ?_
  · rintro again i _ _ _ hi ⟨rfl, rfl⟩ hag
    have hsc := countP_take_succ nzB A4 i hi 0
    have hle : (A4.take i).countP nzB ≤ i := Nat.le_trans List.countP_le_length (by rw [List.length_take]; omega)
    have hone := o4 (A4.getD i 0) (by rw [List.getD_eq_getElem?_getD, List.getElem?_eq_getElem hi]; exact List.getElem_mem hi)
    refine ite_true (decide_eq_true (by omega)) (join1_of fun go hgo => (H.nums 11 rfl).ld (i := i) hi rfl ?_)
    obtain ⟨v, hvv⟩ : ∃ v, v = A4.getD i 0 := ⟨_, rfl⟩
    rw [← hvv] at hsc hone ⊢
    have yes : v = 1 ∨ v = 8380416 → go true _ := fun hv => by
      have : nzB v = true := by rcases hv with rfl | rfl <;> decide
      rw [if_pos this] at hsc
      exact hgo true _ (ite_true rfl ⟨⟨by omega, by omega⟩, ⟨by omega, by omega⟩, hag _ _ ⟨by omega, rfl⟩⟩)
    refine ite_intro (fun hc => yes (.inl (of_decide_eq_true hc))) (fun hc => (H.nums 11 rfl).ld (i := i) hi rfl ?_)
    have hc := of_decide_eq_false hc
    rw [← hvv]
    by_cases hv : v = 8380416
    · rw [decide_eq_true hv]; exact yes (.inr hv)
    · have h0 : v = 0 := by omega
      rw [decide_eq_false hv]
      rw [h0, if_neg (show ¬ nzB 0 = true by decide)] at hsc
      refine hgo false _ (ite_false rfl ((H.nums 11 rfl).ld (i := i) hi rfl ?_))
      rw [← hvv, h0]
      exact ite_false rfl ⟨⟨by omega, by omega⟩, hag _ _ ⟨by omega, rfl⟩⟩
  · rintro again _ _ ⟨rfl, rfl⟩
    rw [List.take_of_length_le (Nat.le_refl _)]
    exact ite_false (decide_eq_false (by omega)) (H.ldI 0 rfl (ad1 p 3) rfl (ite_true (decide_eq_true (by omega)) (awake12_of hg H)))
end Go.Proofs.YtfaalfjjkddgiaaDoor
end
