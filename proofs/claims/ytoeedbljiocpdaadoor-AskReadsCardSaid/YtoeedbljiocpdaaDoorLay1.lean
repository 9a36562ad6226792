/- SETS OF PARAMETERS: what lay.Of, lay.Sizes, sign.Sizes compute. -/
import Derived.Test.YtoeedbljiocpdaaDoorStrs
import Derived.Test.YtoeedbljiocpdaaDoorSt
import Derived.Test.YtoeedbljiocpdaaDoorVCa
namespace Go.Proofs.YtoeedbljiocpdaaDoor
open Go Go.Ev
set_option maxRecDepth 20000
set_option linter.unusedVariables false
theorem keptB {w w' : World} {b : Nat} {cs : List Value} {t : TypeId} {a : Addr} {n : Nat} (h : Blk w b cs t) (h' : Blk w' b cs t) (ha : a.block = b) : kept a n w w' := fun j _ => by
  refine World.cell?_of_block ?_
  rw [add_block, ha]
  exact h'.trans h.symm
def blen (n : Nat) : Nat := if n = 0 then 0 else Nat.log2 n + 1
theorem blen_div (n k : Nat) (h : 2 ^ k ≤ n) : blen n = k + blen (n / 2 ^ k) := by
  have hp : 0 < 2 ^ k := Nat.pow_pos (by decide)
  have h0 : n ≠ 0 := by omega
  have h1 : n / 2 ^ k ≠ 0 := by
    have := Nat.div_pos h hp
    omega
  unfold blen
  rw [if_neg h0, if_neg h1]
  have e : Nat.log2 n = k + Nat.log2 (n / 2 ^ k) := by
    rw [Nat.log2_eq_iff h0]
    have h2 := (Nat.log2_eq_iff (k := Nat.log2 (n / 2 ^ k)) h1).1 rfl
    have h3 := Nat.div_add_mod n (2 ^ k)
    have h4 := Nat.mod_lt n hp
    rw [Nat.add_assoc, Nat.pow_add, Nat.pow_add]
    generalize n / 2 ^ k = q at *
    constructor
    · exact Nat.le_trans (Nat.mul_le_mul_left _ h2.1) (by omega)
    · have : 2 ^ k * (q + 1) ≤ 2 ^ k * 2 ^ (Nat.log2 q + 1) := Nat.mul_le_mul_left _ h2.2
      rw [Nat.mul_succ] at this
      omega
  rw [e]
  omega
theorem shrU {a k : Nat} (ha : a < 18446744073709551616) : shr .u64 (a : Int) (k : Int) = ((a / 2 ^ k : Nat) : Int) := by
  have := shr64 (BitVec.ofNat 64 a) k
  rw [BitVec.toNat_ofNat, Nat.mod_eq_of_lt (by omega), BitVec.toNat_ushiftRight, BitVec.toNat_ofNat, Nat.mod_eq_of_lt (by omega), Nat.shiftRight_eq_div_pow] at this
  exact this
theorem len8 : ∀ i : Fin 256, chr S_empty_14a5d8 (i.val : Int) = (blen i.val : Int) := by decide +kernel
theorem size_len8 : ByteArray.size S_empty_14a5d8 = 256 := by decide +kernel
theorem math_bits_Len_ok (x : Nat) (hx : x < 4294967296) (w : World) : Ok Pr f_math_bits_Len [.int .u64 (x : Int)] w fun v w' => v = .int .i64 (blen x : Int) ∧ w' = w := by
  refine V_math_bits_Len_of ?_
  unfold V_math_bits_Len
  refine call_of (R := fun v w' => v = .int .i64 (blen x : Int) ∧ w' = w) (V_math_bits_Len64_of ?_) ?_
  · unfold V_math_bits_Len64
    refine join2_of fun go hgo => ?_
    refine ite_false (decide_eq_false (by omega)) (hgo _ _ _ ?_)
    -- the last step
    have last : ∀ (y n : Nat) (w' : World) (K : Int → World → Prop), y < 256 → n ≤ 64 → K ((n : Int) + (blen y : Int)) w' →
        idx (IntKind.wrap .u8 (y : Int)) (ByteArray.size S_empty_14a5d8) (I64 (chr S_empty_14a5d8 (IntKind.wrap .u8 (y : Int))) ∧ I64 ((n : Int) + chr S_empty_14a5d8 (IntKind.wrap .u8 (y : Int))) ∧ lt (A := Int) ((n : Int) + chr S_empty_14a5d8 (IntKind.wrap .u8 (y : Int))) fun z => K z w') := by
      intro y n w' K hy hn hK
      have e : IntKind.wrap .u8 (y : Int) = (y : Int) := by rw [wrap_u8]; omega
      have e2 := len8 ⟨y, hy⟩
      simp only at e2
      have hb : blen y ≤ 8 := by
        unfold blen
        split
        · omega
        · rename_i h0
          have := Nat.log2_lt (n := y) (k := 8) h0
          have : y.log2 < 8 := this.2 (by omega)
          omega
      rw [e, e2, size_len8]
      exact ⟨⟨by omega, by omega⟩, ⟨by omega, by omega⟩, ⟨by omega, by omega⟩, hK⟩
    refine join2_of fun go1 hgo1 => ?_
    have step1 : ∀ (y n : Nat) (w' : World), w' = w → y < 65536 → n ≤ 32 → blen x = n + blen y → go1 (y : Int) (n : Int) w' := by
      intro y n w' hw hy hn hbl
      refine hgo1 _ _ _ (join2_of fun go2 hgo2 => ?_)
      have hp : 2 ^ 8 = 256 := rfl
      refine ite_intro (fun h => ?_) (fun h => ?_)
      · have h := of_decide_eq_true h
        have h2 := blen_div y 8 (by omega)
        have hd : y / 2 ^ 8 < 256 := by rw [hp]; omega
        refine ⟨⟨by omega, by omega⟩, ?_⟩
        rw [show (8 : Int) = ((8 : Nat) : Int) from rfl, shrU (by omega), show ((n : Int) + ((8 : Nat) : Int)) = ((n + 8 : Nat) : Int) by omega]
        refine hgo2 _ _ _ (last (y / 2 ^ 8) (n + 8) w' (fun z w' => Value.int .i64 z = .int .i64 (blen x : Int) ∧ w' = w) hd (by omega) ?_)
        refine ⟨?_, hw⟩
        congr 1
        omega
      · have h := of_decide_eq_false h
        refine hgo2 _ _ _ (last y n w' (fun z w' => Value.int .i64 z = .int .i64 (blen x : Int) ∧ w' = w) (by omega) (by omega) ?_)
        refine ⟨?_, hw⟩
        congr 1
        omega
    refine ite_intro (fun h => ?_) (fun h => ?_)
    · have h := of_decide_eq_true h
      have hp : 2 ^ 16 = 65536 := rfl
      have h2 := blen_div x 16 (by omega)
      have hd : x / 2 ^ 16 < 65536 := by rw [hp]; omega
      refine ⟨⟨by omega, by omega⟩, ?_⟩
      rw [show (16 : Int) = ((16 : Nat) : Int) from rfl, shrU (by omega), show ((0 : Int) + ((16 : Nat) : Int)) = ((16 : Nat) : Int) by omega]
      exact step1 _ _ _ rfl hd (by omega) h2
    · have h := of_decide_eq_false h
      exact step1 x 0 _ rfl (by omega) (by omega) (by omega)
  · rintro _ w1 ⟨rfl, hw⟩
    exact asI_i ⟨rfl, hw⟩
theorem lay_long_ok (a b : Nat) (h : a + b < 4294967296) (w : World) : Ok Pr f_lay_long [.int .i64 (a : Int), .int .i64 (b : Int)] w fun v w' => v = .int .i64 (blen (a + b) : Int) ∧ w' = w := by
  refine V_lay_long_of ?_
  unfold V_lay_long
  have e : IntKind.wrap .u64 ((a : Int) + (b : Int)) = ((a + b : Nat) : Int) := by rw [wrap_u64]; omega
  rw [e]
  refine ⟨⟨by omega, by omega⟩, call_of (math_bits_Len_ok _ h w) ?_⟩
  rintro _ w1 ⟨rfl, hw⟩
  exact asI_i ⟨rfl, hw⟩
/-- a set's numbers -/
structure LayS where
  (k l eta tau beta omega g1 g2 c : Nat)
def LayS.cells (s : LayS) : List Value := cs_lay_Set s.k s.l s.eta s.tau s.beta s.omega s.g1 s.g2 s.c
def lay0 : LayS := ⟨0, 0, 0, 0, 0, 0, 0, 0, 0⟩
def layS (set : Int) : LayS := if set = 1 then ⟨4, 4, 2, 39, 78, 80, 131072, 95232, 32⟩ else if set = 2 then ⟨6, 5, 4, 49, 196, 55, 524288, 261888, 48⟩ else if set = 3 then ⟨8, 7, 2, 60, 120, 75, 524288, 261888, 64⟩ else lay0
def isSet (set : Int) : Bool := decide (set = 1) || (decide (set = 2) || decide (set = 3))
theorem zc_laySet : zc Pr t_lay_Set = [.int .i64 0, .int .i64 0, .int .i64 0, .int .i64 0, .int .i64 0, .int .i64 0, .int .i64 0, .int .i64 0, .int .i64 0] := by kernel_rfl
theorem lay_Of_ok (set : Int) (w : World) : Ok Pr f_lay_Of [.int .i64 set] w fun v w' => v = .tuple ⟨[.agg ⟨(layS set).cells⟩, .bool (isSet set)]⟩ ∧ Mod [] w w' := by
  refine V_lay_Of_of ?_
  unfold V_lay_Of
  rw [zc_laySet]
  refine (Mine.start w).nw fun p w1 H _ => ?_
  unfold isSet layS
  refine ite_intro (fun h => ?_) (fun h => ?_)
  · have h := of_decide_eq_true h
    subst h
    exact H.sT_lay_Set 0 rfl rfl fun w2 H => H.ld_lay_Set 0 rfl ⟨rfl, H.mod⟩
  · have h1 := of_decide_eq_false h
    rw [if_neg h1, decide_eq_false h1]
    refine ite_intro (fun h => ?_) (fun h => ?_)
    · have h := of_decide_eq_true h
      subst h
      exact H.sT_lay_Set 0 rfl rfl fun w2 H => H.ld_lay_Set 0 rfl ⟨rfl, H.mod⟩
    · have h2 := of_decide_eq_false h
      rw [if_neg h2, decide_eq_false h2]
      refine ite_intro (fun h => ?_) (fun h => ?_)
      · have h := of_decide_eq_true h
        subst h
        exact H.sT_lay_Set 0 rfl rfl fun w2 H => H.ld_lay_Set 0 rfl ⟨rfl, H.mod⟩
      · have h3 := of_decide_eq_false h
        rw [if_neg h3, decide_eq_false h3]
        exact H.sT_lay_Set 0 rfl rfl fun w2 H => H.ld_lay_Set 0 rfl ⟨rfl, H.mod⟩
/-- how many bytes keys and signatures have -/
def vkS (set : Int) : Nat := if set = 1 then 1312 else if set = 2 then 1952 else if set = 3 then 2592 else 0
def skS (set : Int) : Nat := if set = 1 then 2560 else if set = 2 then 4032 else if set = 3 then 4896 else 0
def sgS (set : Int) : Nat := if set = 1 then 2420 else if set = 2 then 3309 else if set = 3 then 4627 else 0
theorem blen4 : blen 4 = 3 ∧ blen 8 = 4 ∧ blen 262143 = 18 ∧ blen 1048575 = 20 := by decide +kernel
theorem lay_Sizes_ok (set : Int) (w : World) : Ok Pr f_lay_Sizes [.int .i64 set] w fun v w' => v = .tuple ⟨[.int .i64 (vkS set), .int .i64 (skS set), .int .i64 (sgS set)]⟩ ∧ Mod [] w w' := by
  refine V_lay_Sizes_of ?_
  unfold V_lay_Sizes
  rw [zc_laySet]
  refine call_of (lay_Of_ok set w) ?_
  rintro _ w1 ⟨rfl, m1⟩
  obtain ⟨b1, b2, b3, b4⟩ := blen4
  have H := (Mine.start w).frame m1
  by_cases h1 : set = 1
  · subst h1
    refine ⟨_, rfl, as_lay_Set_of (c0 := (layS 1).k) (c1 := (layS 1).l) (c2 := (layS 1).eta) (c3 := (layS 1).tau) (c4 := (layS 1).beta) (c5 := (layS 1).omega) (c6 := (layS 1).g1) (c7 := (layS 1).g2) (c8 := (layS 1).c) ⟨_, rfl, rfl, ?_⟩⟩
    refine H.nw fun p w2 H _ => H.sT_lay_Set 0 rfl rfl fun w3 H => ite_false rfl ?_
    have H := H.drew
    refine H.ldI 0 rfl (ad1 p 2) rfl (H.ldI 0 rfl (ad1 p 2) rfl (H.ldI 0 rfl (ad1 p 6) rfl ⟨⟨by decide, by decide⟩, H.ldI 0 rfl (ad1 p 6) rfl ?_⟩))
    refine call_of (lay_long_ok 2 2 (by omega) _) ?_
    rintro _ w4 ⟨rfl, hw⟩
    subst hw
    refine asI_i ⟨keptB (H.blk 0 rfl) (H.blk 0 rfl) (add_block _ _), keptB (H.blk 0 rfl) (H.blk 0 rfl) (add_block _ _), ?_⟩
    refine call_of (lay_long_ok 131071 131072 (by omega) _) ?_
    rintro _ w5 ⟨rfl, hw⟩
    subst hw
    rw [show blen (2 + 2) = 3 from b1, show blen (131071 + 131072) = 18 from b3]
    refine asI_i ?_
    have H := H.drew
    refine H.ldI 0 rfl (ad1 p 0) rfl ⟨⟨by decide, by decide⟩, ⟨by decide, by decide⟩, H.ldI 0 rfl (ad1 p 0) rfl (H.ldI 0 rfl (ad1 p 1) rfl ⟨⟨by decide, by decide⟩, ⟨by decide, by decide⟩, H.ldI 0 rfl (ad1 p 0) rfl ?_⟩)⟩
    refine ⟨⟨by decide, by decide⟩, ⟨by decide, by decide⟩, ⟨by decide, by decide⟩, ⟨by decide, by decide⟩, H.ldI 0 rfl (ad1 p 8) rfl (H.ldI 0 rfl (ad1 p 1) rfl ⟨⟨by decide, by decide⟩, ⟨by decide, by decide⟩, ⟨by decide, by decide⟩, ?_⟩)⟩
    refine H.ldI 0 rfl (ad1 p 5) rfl ⟨⟨by decide, by decide⟩, H.ldI 0 rfl (ad1 p 0) rfl ⟨⟨by decide, by decide⟩, ?_⟩⟩
    exact ⟨rfl, H.mod⟩
  by_cases h2 : set = 2
  · subst h2
    refine ⟨_, rfl, as_lay_Set_of (c0 := (layS 2).k) (c1 := (layS 2).l) (c2 := (layS 2).eta) (c3 := (layS 2).tau) (c4 := (layS 2).beta) (c5 := (layS 2).omega) (c6 := (layS 2).g1) (c7 := (layS 2).g2) (c8 := (layS 2).c) ⟨_, rfl, rfl, ?_⟩⟩
    refine H.nw fun p w2 H _ => H.sT_lay_Set 0 rfl rfl fun w3 H => ite_false rfl ?_
    have H := H.drew
    refine H.ldI 0 rfl (ad1 p 2) rfl (H.ldI 0 rfl (ad1 p 2) rfl (H.ldI 0 rfl (ad1 p 6) rfl ⟨⟨by decide, by decide⟩, H.ldI 0 rfl (ad1 p 6) rfl ?_⟩))
    refine call_of (lay_long_ok 4 4 (by omega) _) ?_
    rintro _ w4 ⟨rfl, hw⟩
    subst hw
    refine asI_i ⟨keptB (H.blk 0 rfl) (H.blk 0 rfl) (add_block _ _), keptB (H.blk 0 rfl) (H.blk 0 rfl) (add_block _ _), ?_⟩
    refine call_of (lay_long_ok 524287 524288 (by omega) _) ?_
    rintro _ w5 ⟨rfl, hw⟩
    subst hw
    rw [show blen (4 + 4) = 4 from b2, show blen (524287 + 524288) = 20 from b4]
    refine asI_i ?_
    have H := H.drew
    refine H.ldI 0 rfl (ad1 p 0) rfl ⟨⟨by decide, by decide⟩, ⟨by decide, by decide⟩, H.ldI 0 rfl (ad1 p 0) rfl (H.ldI 0 rfl (ad1 p 1) rfl ⟨⟨by decide, by decide⟩, ⟨by decide, by decide⟩, H.ldI 0 rfl (ad1 p 0) rfl ?_⟩)⟩
    refine ⟨⟨by decide, by decide⟩, ⟨by decide, by decide⟩, ⟨by decide, by decide⟩, ⟨by decide, by decide⟩, H.ldI 0 rfl (ad1 p 8) rfl (H.ldI 0 rfl (ad1 p 1) rfl ⟨⟨by decide, by decide⟩, ⟨by decide, by decide⟩, ⟨by decide, by decide⟩, ?_⟩)⟩
    refine H.ldI 0 rfl (ad1 p 5) rfl ⟨⟨by decide, by decide⟩, H.ldI 0 rfl (ad1 p 0) rfl ⟨⟨by decide, by decide⟩, ?_⟩⟩
    exact ⟨rfl, H.mod⟩
  by_cases h3 : set = 3
  · subst h3
    refine ⟨_, rfl, as_lay_Set_of (c0 := (layS 3).k) (c1 := (layS 3).l) (c2 := (layS 3).eta) (c3 := (layS 3).tau) (c4 := (layS 3).beta) (c5 := (layS 3).omega) (c6 := (layS 3).g1) (c7 := (layS 3).g2) (c8 := (layS 3).c) ⟨_, rfl, rfl, ?_⟩⟩
    refine H.nw fun p w2 H _ => H.sT_lay_Set 0 rfl rfl fun w3 H => ite_false rfl ?_
    have H := H.drew
    refine H.ldI 0 rfl (ad1 p 2) rfl (H.ldI 0 rfl (ad1 p 2) rfl (H.ldI 0 rfl (ad1 p 6) rfl ⟨⟨by decide, by decide⟩, H.ldI 0 rfl (ad1 p 6) rfl ?_⟩))
    refine call_of (lay_long_ok 2 2 (by omega) _) ?_
    rintro _ w4 ⟨rfl, hw⟩
    subst hw
    refine asI_i ⟨keptB (H.blk 0 rfl) (H.blk 0 rfl) (add_block _ _), keptB (H.blk 0 rfl) (H.blk 0 rfl) (add_block _ _), ?_⟩
    refine call_of (lay_long_ok 524287 524288 (by omega) _) ?_
    rintro _ w5 ⟨rfl, hw⟩
    subst hw
    rw [show blen (2 + 2) = 3 from b1, show blen (524287 + 524288) = 20 from b4]
    refine asI_i ?_
    have H := H.drew
    refine H.ldI 0 rfl (ad1 p 0) rfl ⟨⟨by decide, by decide⟩, ⟨by decide, by decide⟩, H.ldI 0 rfl (ad1 p 0) rfl (H.ldI 0 rfl (ad1 p 1) rfl ⟨⟨by decide, by decide⟩, ⟨by decide, by decide⟩, H.ldI 0 rfl (ad1 p 0) rfl ?_⟩)⟩
    refine ⟨⟨by decide, by decide⟩, ⟨by decide, by decide⟩, ⟨by decide, by decide⟩, ⟨by decide, by decide⟩, H.ldI 0 rfl (ad1 p 8) rfl (H.ldI 0 rfl (ad1 p 1) rfl ⟨⟨by decide, by decide⟩, ⟨by decide, by decide⟩, ⟨by decide, by decide⟩, ?_⟩)⟩
    refine H.ldI 0 rfl (ad1 p 5) rfl ⟨⟨by decide, by decide⟩, H.ldI 0 rfl (ad1 p 0) rfl ⟨⟨by decide, by decide⟩, ?_⟩⟩
    exact ⟨rfl, H.mod⟩
  have e1 : layS set = lay0 := by unfold layS; rw [if_neg h1, if_neg h2, if_neg h3]
  have e2 : isSet set = false := by unfold isSet; rw [decide_eq_false h1, decide_eq_false h2, decide_eq_false h3]; rfl
  have e3 : vkS set = 0 := by unfold vkS; rw [if_neg h1, if_neg h2, if_neg h3]
  have e4 : skS set = 0 := by unfold skS; rw [if_neg h1, if_neg h2, if_neg h3]
  have e5 : sgS set = 0 := by unfold sgS; rw [if_neg h1, if_neg h2, if_neg h3]
  rw [e1, e2, e3, e4, e5]
  refine ⟨_, rfl, as_lay_Set_of (c0 := 0) (c1 := 0) (c2 := 0) (c3 := 0) (c4 := 0) (c5 := 0) (c6 := 0) (c7 := 0) (c8 := 0) ⟨_, rfl, rfl, ?_⟩⟩
  exact H.nw fun p w2 H _ => H.sT_lay_Set 0 rfl rfl fun w3 H => ite_true rfl ⟨rfl, H.mod⟩
theorem sign_Sizes_ok (set : Int) (w : World) : Ok Pr f_sign_Sizes [.int .i64 set] w fun v w' => v = .tuple ⟨[.int .i64 (vkS set), .int .i64 (skS set), .int .i64 (sgS set)]⟩ ∧ Mod [] w w' := by
  refine V_sign_Sizes_of ?_
  unfold V_sign_Sizes
  refine call_of (lay_Sizes_ok set w) ?_
  rintro _ w1 ⟨rfl, m1⟩
  exact ⟨_, rfl, _, rfl, _, rfl, _, rfl, rfl, rfl, m1⟩
end Go.Proofs.YtoeedbljiocpdaaDoor
