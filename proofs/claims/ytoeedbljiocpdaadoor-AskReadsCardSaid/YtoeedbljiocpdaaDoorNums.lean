/- NUMBERS IN SLICES, and what is reckoned with them bit by bit: words of this claim's author. -/
import Derived.Test.YtoeedbljiocpdaaDoorLoops
namespace Go.Ev
open Go Go.RowKit
variable {P : Program}
def i64 (n : Int) : Value := .int .i64 n
def i64s (l : List Int) : List Value := l.map i64
theorem ones_i64s (l : List Int) : ∀ v ∈ i64s l, isOne v = true := by
  intro v hv
  obtain ⟨b, -, rfl⟩ := List.mem_map.1 hv
  rfl
@[simp] theorem length_i64s (l : List Int) : (i64s l).length = l.length := by simp [i64s]
theorem i64s_append (a b : List Int) : i64s (a ++ b) = i64s a ++ i64s b := by simp [i64s]
theorem i64s_set (l : List Int) (i : Nat) (x : Int) : (i64s l).set i (.int .i64 x) = i64s (l.set i x) := by simp [i64s, i64, List.map_set]
theorem i64s_get (l : List Int) (i : Nat) (h : i < l.length) : (i64s l)[i]? = some (.int .i64 (l.getD i 0)) := by simp [i64s, i64, h]
theorem i64s_take (l : List Int) (n : Nat) : (i64s l).take n = i64s (l.take n) := by simp [i64s, List.map_take]
theorem i64s_drop (l : List Int) (n : Nat) : (i64s l).drop n = i64s (l.drop n) := by simp [i64s, List.map_drop]
/-- numbers in a slice -/
def Nums (w : World) (s : SlV) (l : List Int) : Prop := Sl w s 1 (i64s l)
theorem Nums.len {w : World} {s : SlV} {l : List Int} (h : Nums w s l) : l.length = s.n := by simpa using Sl.len h
theorem Nums.mod {w w' : World} {s : SlV} {l : List Int} (h : Nums w s l) {S : List Nat} (m : Mod S w w') (ho : off S s) : Nums w' s l := Sl.mod h m ho
theorem Nums.mod0 {w w' : World} {s : SlV} {l : List Int} (h : Nums w s l) (m : Mod [] w w') : Nums w' s l := Sl.mod0 h m
theorem Nums.nil (w : World) : Nums w ⟨none, 0, 0⟩ [] := Sl.nil w 1
theorem Nums.some {w : World} {s : SlV} {l : List Int} (h : Nums w s l) (h0 : 0 < s.n) : s.a.isSome = true := h.pre h0
theorem Nums.ld {w : World} {s : SlV} {l : List Int} (h : Nums w s l) {i : Nat} (hi : i < l.length) {x : Int} (hx : x = (i : Int)) {K : Int → Prop} (hk : K (l.getD i 0)) :
    idxS s.a x s.n (ldI .i64 (Addr.add (base s.a) (Int.toNat x * 1)) w K) := by
  subst hx
  have hl := h.len
  refine ⟨⟨h.pre (by omega), by omega, by omega⟩, _, ?_, hk⟩
  rw [Int.toNat_natCast, Nat.mul_one]
  exact h.cell i _ (i64s_get l i hi)
theorem Own.nums {w : World} {lo : Nat} {e : TypeId} {s : SlV} {l : List Int} (h : Own w lo e 1 s (i64s l)) : Nums w s l := h.sl
section
variable {w0 w : World} {S : List Nat} {L : List Res}
theorem Mine.nums (H : Mine w0 S w L) (k : Nat) {e : TypeId} {s : SlV} {l : List Int} (hk : L[k]? = some (.row e 1 s (i64s l))) : Nums w s l := H.rowSl k hk
theorem Mine.stN (H : Mine w0 S w L) (k : Nat) {e : TypeId} {s : SlV} {l : List Int} {i : Nat} {x n : Int} {K : World → Prop} (hk : L[k]? = some (.row e 1 s (i64s l))) (hi : i < l.length) (hx : x = (i : Int))
    (h : ∀ w', Mine w0 S w' (L.set k (.row e 1 s (i64s (l.set i n)))) → K w') : idxS s.a x s.n (Ev.st (Addr.add (base s.a) (Int.toNat x * 1)) (.int .i64 n) w K) := by
  subst hx
  have hl := (H.nums k hk).len
  refine ⟨⟨(H.nums k hk).pre (by omega), by omega, by omega⟩, ?_⟩
  refine H.stRow k hk (i := i) (by rw [Int.toNat_natCast, Nat.mul_one]) (by simpa using hi) rfl fun w' H' => h w' ?_
  rw [← i64s_set]; exact H'
theorem Mine.appN (H : Mine w0 S w L) (k : Nat) {t ty e : TypeId} {s x : SlV} {vs us : List Int} {K : SlV → World → Prop} (hel : Elt P t e 1 8) (hk : L[k]? = some (.row e 1 s (i64s vs))) (hx : Nums w x us)
    (hm : s.n + x.n ≤ 10000000000000) (h : ∀ s' w', Mine w0 S w' (L.set k (.row e 1 s' (i64s (vs ++ us)))) → s'.n = s.n + x.n → K s' w') : appK P [t, t] ty [.slice s.a s.n s.c, .slice x.a x.n x.c] w K :=
  H.app k hel hk hx (ones_i64s us) (by omega) (by omega) fun s' w' H' hn => h s' w' (by rw [i64s_append]; exact H') hn
theorem Mine.appN1 (H : Mine w0 S w L) (k : Nat) {t ty e t1 : TypeId} {s : SlV} {vs : List Int} {n : Int} {K : SlV → World → Prop} (hel : Elt P t e 1 8) (hk : L[k]? = some (.row e 1 s (i64s vs)))
    (hm : s.n ≤ 10000000000000) (h : ∀ s' w', Mine w0 S w' (L.set k (.row e 1 s' (i64s (vs ++ [n])))) → s'.n = s.n + 1 → K s' w') : Ev.nw t1 [.int .i64 n] w fun p w5 => appK P [t, t] ty [.slice s.a s.n s.c, .slice (some p) 1 1] w5 K :=
  H.app1 k hel hk rfl (by simp [isOne]) (by omega) (by omega) fun s' w' H' hn => h s' w' (by rw [i64s_append]; exact H') hn
theorem zeroRow1 (n : Nat) (v : Value) : zeroRow n [v] = List.replicate n v := by
  unfold zeroRow
  induction n with
  | zero => rfl
  | succ n ih => rw [List.replicate_succ, List.flatten_cons, ih]; rfl
theorem zeroRow_i64 (n : Nat) : zeroRow n [.int .i64 0] = i64s (List.replicate n 0) := by rw [zeroRow1]; simp [i64s, i64]
theorem zeroRow_u8 (n : Nat) : zeroRow n [.int .u8 0] = u8s (List.replicate n 0) := by rw [zeroRow1]; simp [u8s, u8]
/-- zeros -/
theorem Mine.mkN (H : Mine w0 S w L) {t e : TypeId} {n : Nat} {x y : Int} {K : SlV → World → Prop} (hel : Elt P t e 1 8) (hz : zc P e = [.int .i64 0]) (hx : x = (n : Int)) (hy : y = (n : Int)) (hn : n ≤ 1000000000)
    (h : ∀ s w', Mine w0 S w' (L ++ [.row e 1 s (i64s (List.replicate n 0))]) → s.n = n → K s w') : mkSl P e x y w K := by
  refine H.mkS hel hx hy (Nat.le_refl n) (by omega) (by omega) fun b w' H' _ => h _ w' ?_ rfl
  rw [hz, zeroRow_i64, Nat.mul_one, List.take_of_length_le (by simp)] at H'
  exact H'
theorem Mine.mkU (H : Mine w0 S w L) {t e : TypeId} {n : Nat} {x y : Int} {K : SlV → World → Prop} (hel : Elt P t e 1 1) (hz : zc P e = [.int .u8 0]) (hx : x = (n : Int)) (hy : y = (n : Int)) (hn : n ≤ 1000000000)
    (h : ∀ s w', Mine w0 S w' (L ++ [.row e 1 s (u8s (List.replicate n 0))]) → s.n = n → K s w') : mkSl P e x y w K := by
  refine H.mkS hel hx hy (Nat.le_refl n) (by omega) (by omega) fun b w' H' _ => h _ w' ?_ rfl
  rw [hz, zeroRow_u8, Nat.mul_one, List.take_of_length_le (by simp)] at H'
  exact H'
end
/-! ### numbers, bit by bit -/
theorem wrap_i64 {n : Int} (h1 : -9223372036854775808 ≤ n) (h2 : n < 9223372036854775808) : IntKind.wrap .i64 n = n := by
  have e : IntKind.wrap .i64 n = if n % 18446744073709551616 ≥ 9223372036854775808 then n % 18446744073709551616 - 18446744073709551616 else n % 18446744073709551616 := by
    simp [IntKind.wrap, IntKind.signed, IntKind.bits]
  rw [e]
  split <;> omega
theorem andN {a b : Nat} (ha : a < 9223372036854775808) (hb : b < 9223372036854775808) : andI .i64 (a : Int) (b : Int) = ((a &&& b : Nat) : Int) := by
  unfold andI
  have e : (BitVec.ofInt (IntKind.bits .i64) (a : Int) &&& BitVec.ofInt (IntKind.bits .i64) (b : Int)).toNat = a &&& b := by
    rw [BitVec.toNat_and]
    show (BitVec.ofInt 64 (a : Int)).toNat &&& (BitVec.ofInt 64 (b : Int)).toNat = _
    rw [BitVec.toNat_ofInt, BitVec.toNat_ofInt]
    congr 1 <;> omega
  rw [e]
  have : a &&& b ≤ a := Nat.and_le_left
  exact wrap_i64 (by omega) (by omega)
theorem orN {a b : Nat} (ha : a < 9223372036854775808) (hb : b < 9223372036854775808) : orI .i64 (a : Int) (b : Int) = ((a ||| b : Nat) : Int) := by
  unfold orI
  have e : (BitVec.ofInt (IntKind.bits .i64) (a : Int) ||| BitVec.ofInt (IntKind.bits .i64) (b : Int)).toNat = a ||| b := by
    rw [BitVec.toNat_or]
    show (BitVec.ofInt 64 (a : Int)).toNat ||| (BitVec.ofInt 64 (b : Int)).toNat = _
    rw [BitVec.toNat_ofInt, BitVec.toNat_ofInt]
    congr 1 <;> omega
  rw [e]
  have : a ||| b < 2 ^ 63 := Nat.or_lt_two_pow (by omega) (by omega)
  exact wrap_i64 (by omega) (by omega)
theorem shlN {a k : Nat} (hk : k ≤ 64) (h : a * 2 ^ k < 9223372036854775808) : shl .i64 (a : Int) (k : Int) = ((a * 2 ^ k : Nat) : Int) := by
  unfold shl
  rw [Int.toNat_natCast, show IntKind.bits .i64 = 64 from rfl, Nat.min_eq_left hk]
  have e : ((a : Int) * 2 ^ k) = ((a * 2 ^ k : Nat) : Int) := by rw [Int.natCast_mul, Int.natCast_pow]; rfl
  rw [e]
  exact wrap_i64 (by omega) (by omega)
theorem shrN {a k : Nat} (ha : a < 9223372036854775808) : shr .i64 (a : Int) (k : Int) = ((a / 2 ^ k : Nat) : Int) := by
  unfold shr
  rw [show IntKind.bits .i64 = 64 from rfl, Int.toNat_natCast, Int.fdiv_eq_ediv_of_nonneg _ (by exact Int.le_of_lt (Int.pow_pos (by decide)))]
  have e : a / 2 ^ k = a / 2 ^ (min k 64) := by
    rcases Nat.le_total k 64 with h | h
    · rw [Nat.min_eq_left h]
    · rw [Nat.min_eq_right h, Nat.div_eq_of_lt (Nat.lt_of_lt_of_le (show a < 2 ^ 64 by omega) (Nat.pow_le_pow_right (by decide) h)), Nat.div_eq_of_lt (by omega)]
  rw [e, Int.natCast_ediv, Int.natCast_pow]
  rfl
/-- bytes as a number, the lowest first -/
def num : List B8 → Nat
  | [] => 0
  | b :: r => b.toNat + 256 * num r
theorem num_append (l m : List B8) : num (l ++ m) = num l + 2 ^ (8 * l.length) * num m := by
  induction l with
  | nil => simp [num]
  | cons a r ih =>
    simp only [List.cons_append, num, ih, List.length_cons, Nat.mul_add, Nat.mul_one, Nat.pow_add]
    rw [show (2 : Nat) ^ 8 = 256 from rfl]
    generalize 2 ^ (8 * r.length) = p
    have : 256 * (p * num m) = p * 256 * num m := by rw [Nat.mul_comm p 256, Nat.mul_assoc]
    omega
theorem num_lt (l : List B8) : num l < 2 ^ (8 * l.length) := by
  induction l with
  | nil => simp [num]
  | cons a r ih =>
    simp only [num, List.length_cons, Nat.mul_add, Nat.mul_one, Nat.pow_add]
    rw [show (2 : Nat) ^ 8 = 256 from rfl]
    have := a.isLt
    generalize 2 ^ (8 * r.length) = p at *
    omega
theorem num_take_succ (l : List B8) (k : Nat) (h : k < l.length) : num (l.take (k + 1)) = num (l.take k) + 2 ^ (8 * k) * (l.getD k 0).toNat := by
  rw [List.take_succ_eq_append_getElem h, num_append, List.length_take, Nat.min_eq_left (by omega)]
  simp [num, h]
theorem num_take (l : List B8) (k : Nat) (h : k ≤ l.length) : num l = num (l.take k) + 2 ^ (8 * k) * num (l.drop k) := by
  have := num_append (l.take k) (l.drop k)
  rw [List.take_append_drop, List.length_take, Nat.min_eq_left h] at this
  exact this
/-- what lies above does not matter -/
theorem low_of (a r c p d : Nat) (h : p + d ≤ c) : (a + 2 ^ c * r) / 2 ^ p % 2 ^ d = a / 2 ^ p % 2 ^ d := by
  obtain ⟨e, rfl⟩ := Nat.exists_eq_add_of_le h
  have e1 : 2 ^ (p + d + e) * r = 2 ^ p * (2 ^ d * (2 ^ e * r)) := by rw [Nat.pow_add, Nat.pow_add]; simp only [Nat.mul_assoc]
  rw [e1, Nat.add_mul_div_left _ _ (Nat.pow_pos (by decide)), Nat.add_mul_mod_self_left]
/-- the i-th of a number's parts of d bits -/
def ptk (N d i : Nat) : Nat := N / 2 ^ (d * i) % 2 ^ d
theorem ptk_take (l : List B8) (k d i : Nat) (hk : k ≤ l.length) (h : d * (i + 1) ≤ 8 * k) : ptk (num (l.take k)) d i = ptk (num l) d i := by
  unfold ptk
  rw [num_take l k hk, low_of _ _ _ _ _ (by rw [Nat.mul_succ] at h; exact h)]
theorem ptk_lt (N d i : Nat) : ptk N d i < 2 ^ d := Nat.mod_lt _ (Nat.pow_pos (by decide))
/-- numbers of d bits that bytes have -/
def unpack (d : Nat) (l : List B8) : List Int := (List.range (8 * l.length / d)).map fun i => ((ptk (num l) d i : Nat) : Int)
theorem and_low (x d : Nat) : x &&& (2 ^ d - 1) = x % 2 ^ d := Nat.and_two_pow_sub_one_eq_mod x d
theorem or_high {x n y : Nat} (h : x < 2 ^ n) : x ||| (y * 2 ^ n) = x + y * 2 ^ n := by
  rw [Nat.mul_comm y, Nat.or_comm, ← Nat.two_pow_add_eq_or_of_lt h, Nat.add_comm]
end Go.Ev
