/- WORDS OF BITS behind the numbers: words of this claim's author. -/
import Derived.Test.YtoeedbljiocpdaaDoorLoc
namespace Go.Ev
open Go Go.RowKit

abbrev B8 := BitVec 8
abbrev B64 := BitVec 64
def u8 (b : B8) : Value := .int .u8 (b.toNat : Int)
def u64 (x : B64) : Value := .int .u64 (x.toNat : Int)
def u8s (l : List B8) : List Value := l.map u8
def u64s (l : List B64) : List Value := l.map u64
theorem isOne_u8 (b : B8) : isOne (u8 b) = true := rfl
theorem isOne_u64 (b : B64) : isOne (u64 b) = true := rfl
theorem ones_u8s (l : List B8) : ∀ v ∈ u8s l, isOne v = true := by
  intro v hv
  obtain ⟨b, -, rfl⟩ := List.mem_map.1 hv
  rfl
theorem ones_u64s (l : List B64) : ∀ v ∈ u64s l, isOne v = true := by
  intro v hv
  obtain ⟨b, -, rfl⟩ := List.mem_map.1 hv
  rfl
@[simp] theorem length_u8s (l : List B8) : (u8s l).length = l.length := by simp [u8s]
@[simp] theorem length_u64s (l : List B64) : (u64s l).length = l.length := by simp [u64s]
theorem u64s_set (l : List B64) (i : Nat) (x : B64) : (u64s l).set i (u64 x) = u64s (l.set i x) := by simp [u64s, List.map_set]
theorem u64s_get (l : List B64) (i : Nat) (h : i < l.length) : (u64s l)[i]? = some (.int .u64 ((l.getD i 0).toNat : Int)) := by
  simp [u64s, u64, h]
theorem u8s_get (l : List B8) (i : Nat) (h : i < l.length) : (u8s l)[i]? = some (.int .u8 ((l.getD i 0).toNat : Int)) := by
  simp [u8s, u8, h]
theorem u8s_append (a b : List B8) : u8s (a ++ b) = u8s a ++ u8s b := by simp [u8s]
theorem u64s_append (a b : List B64) : u64s (a ++ b) = u64s a ++ u64s b := by simp [u64s]

theorem wrap_u64 (n : Int) : IntKind.wrap .u64 n = n % 18446744073709551616 := by simp [IntKind.wrap, IntKind.signed, IntKind.bits]
theorem wrap_u8 (n : Int) : IntKind.wrap .u8 n = n % 256 := by simp [IntKind.wrap, IntKind.signed, IntKind.bits]
theorem wrap_u64_of (x : B64) : IntKind.wrap .u64 (x.toNat : Int) = x.toNat := by
  rw [wrap_u64]; have := x.isLt; omega
theorem wrap_u8_of (x : B8) : IntKind.wrap .u8 (x.toNat : Int) = x.toNat := by
  rw [wrap_u8]; have := x.isLt; omega
theorem ofInt_toNat {n : Nat} (x : BitVec n) : BitVec.ofInt n (x.toNat : Int) = x := by simp
theorem xor64 (x y : B64) : xorI .u64 (x.toNat : Int) (y.toNat : Int) = ((x ^^^ y).toNat : Int) := by
  unfold xorI
  rw [show IntKind.bits .u64 = 64 from rfl, ofInt_toNat, ofInt_toNat, wrap_u64_of]
theorem and64 (x y : B64) : andI .u64 (x.toNat : Int) (y.toNat : Int) = ((x &&& y).toNat : Int) := by
  unfold andI
  rw [show IntKind.bits .u64 = 64 from rfl, ofInt_toNat, ofInt_toNat, wrap_u64_of]
theorem or64 (x y : B64) : orI .u64 (x.toNat : Int) (y.toNat : Int) = ((x ||| y).toNat : Int) := by
  unfold orI
  rw [show IntKind.bits .u64 = 64 from rfl, ofInt_toNat, ofInt_toNat, wrap_u64_of]
theorem not64 (x : B64) : notI .u64 (x.toNat : Int) = ((~~~ x).toNat : Int) := by
  unfold notI
  rw [show (if IntKind.signed .u64 = true then (-1 : Int) else IntKind.max .u64) = (((BitVec.allOnes 64).toNat : Nat) : Int) from rfl, xor64, BitVec.allOnes_xor]
theorem xor8 (x y : B8) : xorI .u8 (x.toNat : Int) (y.toNat : Int) = ((x ^^^ y).toNat : Int) := by
  unfold xorI
  rw [show IntKind.bits .u8 = 8 from rfl, ofInt_toNat, ofInt_toNat, wrap_u8_of]
theorem shl64 (x : B64) (k : Nat) : shl .u64 (x.toNat : Int) (k : Int) = ((x <<< k).toNat : Int) := by
  unfold shl
  rw [wrap_u64, show IntKind.bits .u64 = 64 from rfl, Int.toNat_natCast, BitVec.toNat_shiftLeft, Nat.shiftLeft_eq]
  have e : (((x.toNat * 2 ^ k % 2 ^ 64 : Nat)) : Int) = ((x.toNat * 2 ^ (min k 64) % 2 ^ 64 : Nat) : Int) := by
    rcases Nat.le_total k 64 with h | h
    · rw [Nat.min_eq_left h]
    · rw [Nat.min_eq_right h]
      obtain ⟨j, rfl⟩ := Nat.exists_eq_add_of_le h
      rw [Nat.pow_add, Nat.mul_left_comm, Nat.mul_mod_right, Nat.mul_mod_left]
  rw [e, Int.natCast_emod, Int.natCast_mul, Int.natCast_pow]
  have h64 : ((2 ^ 64 : Nat) : Int) = 18446744073709551616 := by decide
  rw [h64]
  rfl
theorem shr64 (x : B64) (k : Nat) : shr .u64 (x.toNat : Int) (k : Int) = ((x >>> k).toNat : Int) := by
  unfold shr
  rw [show IntKind.bits .u64 = 64 from rfl, Int.toNat_natCast, BitVec.toNat_ushiftRight, Nat.shiftRight_eq_div_pow, Int.fdiv_eq_ediv_of_nonneg _ (by exact Int.le_of_lt (Int.pow_pos (by decide)))]
  have e : x.toNat / 2 ^ k = x.toNat / 2 ^ (min k 64) := by
    rcases Nat.le_total k 64 with h | h
    · rw [Nat.min_eq_left h]
    · rw [Nat.min_eq_right h, Nat.div_eq_of_lt x.isLt, Nat.div_eq_of_lt (Nat.lt_of_lt_of_le x.isLt (Nat.pow_le_pow_right (by decide) h))]
  rw [e, Int.natCast_ediv, Int.natCast_pow]
  rfl
/-- a byte as a word -/
theorem up64 (b : B8) : IntKind.wrap .u64 (b.toNat : Int) = ((b.setWidth 64).toNat : Int) := by
  rw [wrap_u64]; have := b.isLt; rw [BitVec.toNat_setWidth]; omega
/-- a word's low byte -/
theorem low8 (x : B64) : IntKind.wrap .u8 (x.toNat : Int) = ((x.setWidth 8).toNat : Int) := by
  rw [wrap_u8]; simp
theorem toNat_eq {n : Nat} {x y : BitVec n} : ((x.toNat : Int) = (y.toNat : Int)) ↔ x = y := by
  constructor
  · intro h; exact BitVec.eq_of_toNat_eq (by omega)
  · intro h; rw [h]
def rotl (x : B64) (k : Nat) : B64 := (x <<< (k % 64)) ||| (x >>> (64 - k % 64))
/-- bytes in a slice -/
def Bytes (w : World) (s : SlV) (l : List B8) : Prop := Sl w s 1 (u8s l)
theorem Bytes.len {w : World} {s : SlV} {l : List B8} (h : Bytes w s l) : l.length = s.n := by simpa using Sl.len h
theorem Bytes.ld {w : World} {s : SlV} {l : List B8} (h : Bytes w s l) {i : Nat} (hi : i < l.length) {K : Int → Prop} (hk : K ((l.getD i 0).toNat : Int)) :
    idxS s.a (i : Int) s.n (ldI .u8 (Addr.add (base s.a) (Int.toNat (i : Int) * 1)) w K) := by
  have hl := h.len
  refine ⟨⟨h.pre (by omega), by omega, by omega⟩, _, ?_, hk⟩
  rw [Int.toNat_natCast, Nat.mul_one]
  exact h.cell i _ (u8s_get l i hi)
section
variable {w0 w : World} {S : List Nat} {L : List Res}
theorem Mine.ld64 (H : Mine w0 S w L) (k : Nat) {b i : Nat} {a : Addr} {cs : List B64} {t : TypeId} {K : Int → Prop} (hk : L[k]? = some (.blk b (u64s cs) t)) (ha : a = ⟨b, i, none⟩) (hi : i < cs.length) (h : K ((cs.getD i 0).toNat : Int)) : Ev.ldI .u64 a w K :=
  H.ldI k hk ha (u64s_get cs i hi) h
theorem Mine.st64 (H : Mine w0 S w L) (k : Nat) {b i : Nat} {a : Addr} {n : Int} {cs : List B64} {t : TypeId} {K : World → Prop} (x : B64) (hk : L[k]? = some (.blk b (u64s cs) t)) (ha : a = ⟨b, i, none⟩) (hi : i < cs.length) (hn : n = (x.toNat : Int))
    (h : ∀ w', Mine w0 S w' (L.set k (.blk b (u64s (cs.set i x)) t)) → K w') : Ev.st a (.int .u64 n) w K := by
  subst hn
  refine H.st k hk ha (by simpa using hi) rfl fun w' H' => h w' ?_
  rw [← u64s_set]; exact H'
theorem Mine.ldA64 (H : Mine w0 S w L) (k : Nat) {b n : Nat} {cs : List B64} {t : TypeId} {K : List Value → Prop} (hk : L[k]? = some (.blk b (u64s cs) t)) (hn : cs.length = n) (h : K (u64s cs)) : Ev.ldA n ⟨b, 0, none⟩ w K :=
  H.ldA k hk (by simp [hn]) h
theorem Mine.stA64 (H : Mine w0 S w L) (k : Nat) {b n : Nat} {l cs : List B64} {t : TypeId} {K : World → Prop} (hk : L[k]? = some (.blk b (u64s cs) t)) (hl : l.length = n) (hn : cs.length = n)
    (h : ∀ w', Mine w0 S w' (L.set k (.blk b (u64s l) t)) → K w') : Ev.stA n ⟨b, 0, none⟩ (u64s l) w K :=
  H.stA k hk (by simp [hl]) (by simp [hn]) (ones_u64s l) h
end
theorem asArr_u64s {l : List B64} {K : List Value → Prop} (h : K (u64s l)) : asArr (.agg ⟨u64s l⟩) K := ⟨_, rfl, h⟩
end Go.Ev
