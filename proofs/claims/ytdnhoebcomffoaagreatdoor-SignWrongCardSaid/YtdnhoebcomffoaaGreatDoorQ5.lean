/- Texts of this claim, packed: what the last one leans on. -/
import Derived.KernelRfl
import Derived.RangeFuncIn
import Derived.Orders
import Derived.ControlIn
import Derived.RangeFuncLeaves
import Derived.RangeFuncSeq
import Derived.TacticsIn
import Derived.Test.YtdnhoebcomffoaaGreatDoorQ4
import Derived.Test.YtdnhoebcomffoaaGreatDoorQ1
import Derived.Test.YtdnhoebcomffoaaGreatDoorQ2
import Derived.Test.YtdnhoebcomffoaaGreatDoorQ3
section
set_option linter.unusedVariables false
set_option linter.unusedSimpArgs false
/- SIGNING: keys that are read: the program's. -/
namespace Go.Proofs.YtdnhoebcomffoaaGreatDoor
open Go Go.Ev
set_option maxRecDepth 20000
set_option linter.unusedVariables false
theorem blen_gt (n d : Nat) : 0 < n / 2 ^ d ↔ d < blen n := by
  unfold blen
  have hp : 0 < 2 ^ d := Nat.pow_pos (by omega)
  rw [Nat.div_pos_iff]
  split
  · rename_i h; subst h; constructor
    · intro h; omega
    · intro h; omega
  · rename_i h
    rw [Nat.lt_succ_iff, Nat.le_log2 h]
    exact ⟨fun h => h.2, fun h => ⟨hp, h⟩⟩
def polysL (d b : Nat) (l : List B8) (n : Nat) : List (List Int) := (List.range n).map fun i => farOf d b ((l.drop (32 * d * i)).take (32 * d))
theorem polysL_pos {d b : Nat} (hd : 0 < d) {l : List B8} {n : Nat} (h : 32 * d * n ≤ l.length) : Pos (polysL d b l n) := by
  intro f hf
  unfold polysL at hf
  obtain ⟨i, hi, rfl⟩ := List.mem_map.1 hf
  have hi := List.mem_range.1 hi
  refine farOf_po d b hd _ ?_
  have : 32 * d * (i + 1) ≤ 32 * d * n := Nat.mul_le_mul_left _ hi
  rw [Nat.mul_add, Nat.mul_one] at this
  rw [List.length_take, List.length_drop]; omega
theorem length_polysL (d b : Nat) (l : List B8) (n : Nat) : (polysL d b l n).length = n := by simp [polysL]
theorem sign_polys_ok (a b many : Nat) (ha : a ≤ 1048576) (hb : b ≤ 1048576) (h0 : 0 < a + b) (hm : many ≤ 100) (x : SlV) (l : List B8) (hl : 32 * blen (a + b) * many ≤ l.length) (w : World) (hx : Bytes w x l) :
    Ok Pr f_sign_polys [.int .i64 (a : Int), .int .i64 (b : Int), .int .i64 (many : Int), .slice x.a x.n x.c] w fun v w' => ∃ y z : SlV, v = .tuple ⟨[.slice y.a y.n y.c, .slice z.a z.n z.c]⟩ ∧
      Boxed w w' (fun w => Pols w y (polysL (blen (a + b)) b l many)) ∧ ∀ w2, Bytes w2 x l → Bytes w2 z (l.drop (32 * blen (a + b) * many)) := by
  refine V_sign_polys_of ?_
  unfold V_sign_polys
  have h24 := blen_le24 (a + b) (by omega)
  have hd1 := blen_pos (a + b) h0
  refine (Mine.start w).mkN elt_i64' zc_i64 (n := 256) rfl rfl (by omega) fun u w1 H hun => ?_
  refine call_of (bits_Pack_ok 1 (by omega) (by omega) u (List.replicate 256 0) (by simp) ⟨fun x hx => by rw [List.eq_of_mem_replicate hx]; omega, fun x hx => by rw [List.eq_of_mem_replicate hx]; decide⟩ _ (H.nums 0 rfl)) ?_
  rintro _ w2 ⟨t, rfl, ht, m2⟩
  have H := H.got m2 ht
  have htl := (H.bytes 1 rfl).len
  rw [length_packL, List.length_replicate] at htl
  have htn : t.n = 32 := by omega
  obtain ⟨d, hd⟩ : ∃ d, d = blen (a + b) := ⟨_, rfl⟩
  rw [← hd] at hl h24 hd1 ⊢
  obtain ⟨L0, hL0⟩ : ∃ L0 : List Res, L0 = [.row t_int 1 u (i64s (List.replicate 256 0)), .row t_uint8 1 t (u8s (packL 1 (List.replicate 256 0)))] := ⟨_, rfl⟩
  have H : Mine w [] w2 L0 := by rw [hL0]; exact H
  refine asSl_s (loop1_up 0 d (fun i w' => w' = w2) rfl (by omega) rfl ?_ ?_)
  · rintro again i _ _ hi rfl hag
    have hp := (blen_gt (a + b) i).2 (by omega)
    rw [show (a : Int) + (b : Int) = ((a + b : Nat) : Int) by omega]
    refine ⟨⟨by omega, by omega⟩, cnt_of (by omega) ?_⟩
    rw [shrN (by omega)]
    exact ite_true (decide_eq_true (by omega)) ⟨⟨by omega, by omega⟩, hag _ rfl⟩
  · rintro again _ rfl
    have hp : (a + b) / 2 ^ d = 0 := by
      rcases Nat.eq_zero_or_pos ((a + b) / 2 ^ d) with h | h
      · exact h
      · have := (blen_gt (a + b) d).1 h; omega
    rw [show (a : Int) + (b : Int) = ((a + b : Nat) : Int) by omega]
    refine ⟨⟨by omega, by omega⟩, cnt_of (by omega) ?_⟩
    rw [shrN (by omega), hp, htn, show ((32 : Nat) : Int) * (d : Int) = ((32 * d : Nat) : Int) by omega]
    refine ite_false (decide_eq_false (by omega)) ?_
    refine loop3_up 0 many (fun i (by1 out : SlV) w' => (∀ w2, Bytes w2 x l → Bytes w2 by1 (l.drop (32 * d * i))) ∧ Col Nums t_s_int w [] L0 w' out (polysL d b l i)) rfl (by omega) ⟨fun w2 h => by simpa using h, Col.start H⟩ ?_ ?_
    · rintro again1 i by1 out w4 _ hi ⟨hbA, C⟩ hag1
      have hb1 := hbA w hx
      have hmul : 32 * d * (i + 1) ≤ 32 * d * many := Nat.mul_le_mul_left _ hi
      rw [Nat.mul_add, Nat.mul_one] at hmul
      have hbl := hb1.len
      have hbc := hb1.cap
      rw [List.length_drop] at hbl
      refine ite_true (decide_eq_true (by omega)) ⟨⟨by omega, by omega⟩, slH_all (32 * d) rfl (by omega) fun z hz hzb => ?_⟩
      have hzB := hzb _ _ (hb1.mod0 C.mod) (by rw [List.length_drop]; omega)
      refine call_of (lay_Far_ok a b ha hb h0 z _ (by rw [← hd, List.length_take, List.length_drop]; omega) _ hzB) ?_
      rintro _ w5 ⟨q, rfl, hq, m5⟩
      rw [← hd] at hq
      refine asSl_s (C.add (l := farOf d b ((l.drop (32 * d * i)).take (32 * d))) (Boxed.of_own hq m5 fun w2 h => h.nums) elt_vec (by rw [length_polysL]; omega) fun out' w6 C => ⟨⟨by omega, by omega⟩, slL_all (32 * d) rfl (by omega) fun z2 hz2 hz2b => ⟨⟨by omega, by omega⟩, hag1 z2 out' w6 ⟨?_, ?_⟩⟩⟩)
      · intro w2 h2
        have := hz2b _ _ (hbA w2 h2) (by rw [List.length_drop]; omega)
        rw [List.drop_drop] at this
        rw [Nat.mul_add, Nat.mul_one]
        exact this
      · have e : polysL d b l (i + 1) = polysL d b l i ++ [farOf d b ((l.drop (32 * d * i)).take (32 * d))] := range_succ_map _ _
        rw [e]; exact C
    · rintro again1 by1 out w4 ⟨hb1, C⟩
      exact ite_false (decide_eq_false (by omega)) ⟨out, by1, rfl, C.boxed.mono fun w h => vec_pols h, hb1⟩
/-! ### a signing key that is read -/
def wid (s : LayS) : Nat := if s.eta = 2 then 3 else 4
theorem wid_eta {s : LayS} (hs : GoodS s) : blen (s.eta + s.eta) = wid s := by
  obtain ⟨b1, b2, -, -⟩ := blen4
  unfold wid
  rcases hs.eta with h | h
  · have : s.eta = 2 := by omega
    rw [this, if_pos rfl]; exact b1
  · have : s.eta = 4 := by omega
    rw [this, if_neg (by decide)]; exact b2
theorem wid_13 : blen (4095 + 4096) = 13 := by decide +kernel
def s1R (s : LayS) (l : List B8) : List (List Int) := polysL (wid s) s.eta (l.drop 128) s.l
def s2R (s : LayS) (l : List B8) : List (List Int) := polysL (wid s) s.eta ((l.drop 128).drop (32 * wid s * s.l)) s.k
def t0R (s : LayS) (l : List B8) : List (List Int) := polysL 13 4096 (((l.drop 128).drop (32 * wid s * s.l)).drop (32 * wid s * s.k)) s.k
def skN (s : LayS) : Nat := 128 + 32 * wid s * s.l + 32 * wid s * s.k + 32 * 13 * s.k
def openC (set : Int) (n : Nat) : Int := if isSet set = true then (if n = skS set then 0 else 3) else 2
theorem skS_skN {set : Int} (h : isSet set = true) : skS set = skN (layS set) := by
  unfold isSet at h
  simp only [Bool.or_eq_true, decide_eq_true_eq] at h
  rcases h with rfl | rfl | rfl <;> decide
/-- what was read of a signing key -/
structure Opened (w w' : World) (s : LayS) (l : List B8) (c0 c1 c2 c3 c4 c5 : SlV) : Prop where
  rho : Bytes w c0 (l.take 32)
  key : Bytes w c1 ((l.drop 32).take 32)
  tr : Bytes w c2 ((l.drop 64).take 64)
  box : Boxed w w' fun w => Pols w c3 (s1R s l) ∧ Pols w c4 (s2R s l) ∧ Pols w c5 (t0R s l)
theorem reads_pos {s : LayS} (hs : GoodS s) {l : List B8} (h : l.length = skN s) : Pos (s1R s l) ∧ Pos (s2R s l) ∧ Pos (t0R s l) := by
  have hw : 0 < wid s := by unfold wid; split <;> omega
  unfold skN at h
  refine ⟨polysL_pos hw ?_, polysL_pos hw ?_, polysL_pos (by omega) ?_⟩ <;> simp only [List.length_drop] <;> omega
theorem _root_.Go.Ev.Mine.isErr {w0 w : World} {L : List Res} (H : Mine w0 [] w L) (k : Nat) {e : Value} {c : Int} (hk : L[k]? = some (Res.err e c)) : IsErr w0 w e c := ⟨H.err k hk, fun b hb => (H.own k _ hk b hb).resolve_left (by simp)⟩
theorem sign_opened_ok (set : Int) (x : SlV) (l : List B8) (w : World) (hx : Bytes w x l) :
    Ok Pr f_sign_opened [.int .i64 set, .slice x.a x.n x.c] w fun v w' => ∃ (c0 c1 c2 c3 c4 c5 : SlV) (er : Value), v = .tuple ⟨[.agg ⟨cs_sign_secret c0 c1 c2 c3 c4 c5⟩, er]⟩ ∧ IsErr w w' er (openC set l.length) ∧ Mod [] w w' ∧
      (openC set l.length = 0 → Opened w w' (layS set) l c0 c1 c2 c3 c4 c5) := by
  refine V_sign_opened_of ?_
  unfold V_sign_opened
  rw [zc_lSet, zc_secret]
  have hxl := hx.len
  have hxc := hx.cap
  have hC : openC set l.length = if isSet set = true then (if l.length = skS set then 0 else 3) else 2 := rfl
  have hgg := fun h : isSet set = true => goodS h
  have hsk := fun h : isSet set = true => skS_skN h
  refine (Mine.start w).nw fun p w1 H _ => call_of (lay_Of_ok set w1) ?_
  rintro _ w2 ⟨rfl, m2⟩
  have H := H.frame m2
  generalize openC set l.length = C at *
  generalize layS set = s at *
  refine ⟨_, rfl, as_lSet ⟨_, rfl, rfl, H.nw fun p1 w3 H _ => H.sT_lay_Set 1 rfl rfl fun w4 H => ?_⟩⟩
  have H : Mine w [] w4 [.blk p (cs_sign_secret ⟨none, 0, 0⟩ ⟨none, 0, 0⟩ ⟨none, 0, 0⟩ ⟨none, 0, 0⟩ ⟨none, 0, 0⟩ ⟨none, 0, 0⟩) t_sign_secret, .blk p1 s.cells t_lay_Set] := H
  cases his : isSet set with
  | false =>
    rw [his, if_neg (by decide)] at hC
    refine ite_true rfl (call_of (sign_fault_ok 2 (by decide) w4) ?_)
    rintro e w5 ⟨h5, m5⟩
    have H5 := H.gotE m5 h5
    exact H5.sT_sign_secret 0 rfl rfl fun w6 H6 => H6.ld_sign_secret 0 rfl ⟨_, _, _, _, _, _, e, rfl, by rw [hC]; exact H6.isErr 2 rfl, H6.mod, fun h => by rw [hC] at h; exact absurd h (by decide)⟩
  | true =>
    rw [his, if_pos rfl] at hC
    have hG := hgg his
    have hsn := hsk his
    refine ite_false rfl (call_of (lay_Sizes_ok set w4) ?_)
    rintro _ w5 ⟨rfl, m5⟩
    have H := H.frame m5
    refine ⟨_, rfl, _, rfl, _, rfl, _, rfl, rfl, ?_⟩
    by_cases hn : l.length = skS set
    · rw [if_pos hn] at hC
      refine ite_false (by rw [decide_eq_true (show ((x.n : Nat) : Int) = (skS set : Int) by omega)]; rfl) ?_
      have hN : l.length = 128 + 32 * wid s * s.l + 32 * wid s * s.k + 32 * 13 * s.k := by rw [hn, hsn]; rfl
      have hwid := wid_eta hG
      have he4 : s.eta ≤ 4 ∧ 0 < s.eta := by rcases hG.eta with h | h <;> omega
      have hk8 := hG.k
      have hl7 := hG.l
      refine slH_all 32 rfl (by omega) fun zr hzr hr => slLH_all 32 64 rfl rfl (by omega) (by omega) fun zk hzk hk => slLH_all 64 128 rfl rfl (by omega) (by omega) fun zt hzt ht => ?_
      have H := H.drew
      refine H.nw fun p2 w6 H _ => H.sT_sign_secret 2 rfl rfl fun w7 H => slL_all 128 rfl (by omega) fun z hz hzb => ?_
      have hzB := hzb w l hx (by omega)
      refine H.ldI 1 rfl (ad1 p1 2) rfl (H.ldI 1 rfl (ad1 p1 2) rfl (H.ldI 1 rfl (ad1 p1 1) rfl ?_))
      refine call_of (sign_polys_ok s.eta s.eta s.l (by omega) (by omega) (by omega) (by omega) z (l.drop 128) (by rw [hwid, List.length_drop]; omega) _ (hzB.mod0 H.mod)) ?_
      rintro _ w8 ⟨y1, r1, rfl, hb1, hr1⟩
      rw [hwid] at hb1 hr1
      have hrB1 := hr1 w hzB
      obtain ⟨f1, H⟩ := H.gotBox hb1
      refine ⟨_, rfl, y1, rfl, r1, rfl, rfl, H.st 2 rfl (ad1 p2 3) (by show 3 < 6; omega) rfl fun w9 H => ?_⟩
      refine H.ldI 1 rfl (ad1 p1 2) rfl (H.ldI 1 rfl (ad1 p1 2) rfl (H.ldI 1 rfl (ad1 p1 0) rfl ?_))
      refine call_of (sign_polys_ok s.eta s.eta s.k (by omega) (by omega) (by omega) (by omega) r1 ((l.drop 128).drop (32 * wid s * s.l)) (by rw [hwid, List.length_drop, List.length_drop]; omega) _ (hrB1.mod0 H.mod)) ?_
      rintro _ w10 ⟨y2, r2, rfl, hb2, hr2⟩
      rw [hwid] at hb2 hr2
      have hrB2 := hr2 w hrB1
      obtain ⟨f2, H⟩ := H.gotBox hb2
      refine ⟨_, rfl, y2, rfl, r2, rfl, rfl, H.st 2 rfl (ad1 p2 4) (by show 4 < 6; omega) rfl fun w11 H => H.ldI 1 rfl (ad1 p1 0) rfl ?_⟩
      refine call_of (sign_polys_ok 4095 4096 s.k (by omega) (by omega) (by omega) (by omega) r2 (((l.drop 128).drop (32 * wid s * s.l)).drop (32 * wid s * s.k)) (by rw [wid_13, List.length_drop, List.length_drop, List.length_drop]; omega) _ (hrB2.mod0 H.mod)) ?_
      rintro _ w12 ⟨y0, r3, rfl, hb3, hr3⟩
      rw [wid_13] at hb3
      obtain ⟨f3, H⟩ := H.gotBox hb3
      refine ⟨_, rfl, y0, rfl, r3, rfl, rfl, H.st 2 rfl (ad1 p2 5) (by show 5 < 6; omega) rfl fun w13 H => ?_⟩
      have H : Mine w [] w13 [.blk p (cs_sign_secret ⟨none, 0, 0⟩ ⟨none, 0, 0⟩ ⟨none, 0, 0⟩ ⟨none, 0, 0⟩ ⟨none, 0, 0⟩ ⟨none, 0, 0⟩) t_sign_secret, .blk p1 s.cells t_lay_Set, .blk p2 (cs_sign_secret zr zk zt y1 y2 y0) t_sign_secret, .box f1 fun w => Pols w y1 (s1R s l), .box f2 fun w => Pols w y2 (s2R s l), .box f3 fun w => Pols w y0 (t0R s l)] := H
      refine H.ld_sign_secret 2 rfl (H.sT_sign_secret 0 rfl rfl fun w14 H => H.ld_sign_secret 0 rfl ⟨zr, zk, zt, y1, y2, y0, .nilIface, rfl, by rw [hC]; exact IsErr.zero _ _, H.mod, fun _ => ⟨hr w l hx (by omega), hk w l hx (by omega), ht w l hx (by omega), H.boxed fun w2 k => ?_⟩⟩)
      exact ⟨(k 3 _ rfl : (Res.box f1 _).ok w2).2 w2 fun _ _ => rfl, (k 4 _ rfl : (Res.box f2 _).ok w2).2 w2 fun _ _ => rfl, (k 5 _ rfl : (Res.box f3 _).ok w2).2 w2 fun _ _ => rfl⟩
    · rw [if_neg hn] at hC
      refine ite_true (by rw [decide_eq_false (show ¬ ((x.n : Nat) : Int) = (skS set : Int) by omega)]; rfl) (call_of (sign_fault_ok 3 (by decide) _) ?_)
      rintro e w6 ⟨h6, m6⟩
      have H6 := H.gotE m6 h6
      exact H6.sT_sign_secret 0 rfl rfl fun w7 H7 => H7.ld_sign_secret 0 rfl ⟨_, _, _, _, _, _, e, rfl, by rw [hC]; exact H7.isErr 2 rfl, H7.mod, fun h => by rw [hC] at h; exact absurd h (by decide)⟩
def leanB (s : LayS) (s1 s2 : List (List Int)) : Bool := decide (max (normL s1) (normL s2) ≤ (s.eta : Int))
theorem sign_lean_ok (s : LayS) (c0 c1 c2 c3 c4 c5 : SlV) (s1 s2 : List (List Int)) (h1 : s1.length ≤ 1000) (h2 : s2.length ≤ 1000) (p1 : Pos s1) (p2 : Pos s2) (w : World) (hx : Pols w c3 s1) (hy : Pols w c4 s2) :
    Ok Pr f_sign_secret_lean [.agg ⟨cs_sign_secret c0 c1 c2 c3 c4 c5⟩, .agg ⟨s.cells⟩] w fun v w' => v = .bool (leanB s s1 s2) ∧ Mod [] w w' := by
  refine V_sign_secret_lean_of ?_
  unfold V_sign_secret_lean
  refine (Mine.start w).nw fun p w1 H _ => H.nw fun q w2 H _ => ?_
  have H : Mine w [] w2.drew [.blk p (cs_sign_secret c0 c1 c2 c3 c4 c5) t_sign_secret, .blk q s.cells t_lay_Set] := H.drew
  refine H.ldL 0 rfl (ad1 p 3) rfl (H.ldL 0 rfl (ad1 p 4) rfl (H.ldI 1 rfl (ad1 q 2) rfl (call_of (wave_Norm_ok c3 s1 (by omega) p1 _ (hx.mod0 H.mod)) ?_)))
  rintro _ w3 ⟨rfl, m3⟩
  have H3 := H.frame m3
  refine asI_i ⟨keptB (H.blk 1 rfl) (H3.blk 1 rfl) (add_block _ _), keptB (H.blk 0 rfl) (H3.blk 0 rfl) (add_block _ _), call_of (wave_Norm_ok c4 s2 (by omega) p2 _ (hy.mod0 H3.mod)) ?_⟩
  rintro _ w4 ⟨rfl, m4⟩
  have H4 := H3.frame m4
  exact asI_i ⟨keptB (H3.blk 1 rfl) (H4.blk 1 rfl) (add_block _ _), rfl, H4.mod⟩
end Go.Proofs.YtdnhoebcomffoaaGreatDoor
end
section
set_option linter.unusedVariables false
set_option linter.unusedSimpArgs false
/- SIGNING: high parts and hints that are laid: the program's. -/
namespace Go.Proofs.YtdnhoebcomffoaaGreatDoor
open Go Go.Ev
set_option maxRecDepth 20000
set_option linter.unusedVariables false
theorem _root_.Go.Ev.Pols.ldm {w w' : World} {s : SlV} {ls : List (List Int)} (h : Pols w s ls) (m : Mod [] w w') {i : Nat} (hi : i < ls.length) {x : Int} (hx : x = (i : Int)) {K : SlV → Prop} (hk : ∀ y, Nums w y (ls.getD i []) → K y) : idxS s.a x s.n (ldL (Addr.add (base s.a) (Int.toNat x * 1)) w' K) := by
  subst hx
  obtain ⟨y, h1, h2, h3⟩ := h.at hi
  have hn := h.len
  exact ⟨⟨h2, by omega, by omega⟩, y, by rw [Int.toNat_natCast]; exact m.cell0 h3, hk y h1⟩
theorem IndexFunc_none (g : Value) (x : SlV) (fs : List (List Int)) (hl : fs.length ≤ 1000000) (w : World) (hx : Pols w x fs)
    (hg : ∀ (i : Nat) (y : SlV) (w' : World), i < fs.length → Mod [] w w' → Nums w' y (fs.getD i []) → callV Pr g [.slice y.a y.n y.c] w' fun v w'' => v = .bool false ∧ Mod [] w' w'') :
    Ok Pr f_slices_IndexFunc_int_int_3f3901 [.slice x.a x.n x.c, g] w fun v w' => v = .int .i64 (-1) ∧ Mod [] w w' := by
  refine V_slices_IndexFunc_int_int_3f3901_of ?_
  unfold V_slices_IndexFunc_int_int_3f3901
  have hxl := hx.len
  refine loop1_up 0 fs.length (fun i w' => Mod [] w w') rfl (by omega) (Mod.refl _ _) ?_ ?_
  · intro again i w1 _ hi m hag
    refine ite_true (decide_eq_true (by omega)) ((hx.mod0 m).ld (i := i) hi rfl fun y hy => callV_mono (hg i y w1 hi m hy) ?_)
    rintro _ w2 ⟨rfl, m2⟩
    exact asB_b (ite_false rfl ⟨⟨by omega, by omega⟩, hag w2 (m.trans m2)⟩)
  · intro again w1 m
    exact ite_false (decide_eq_false (by omega)) ⟨rfl, m⟩
theorem bod_whole_1 : bodied Pr f_lay_whole_1 = true := by kernel_rfl
theorem bod_whole_2 : bodied Pr f_lay_whole_2 = true := by kernel_rfl
/-- lists of 256 numbers below a bound -/
def Below (b : Int) (fs : List (List Int)) : Prop := ∀ f ∈ fs, f.length = 256 ∧ ∀ x ∈ f, 0 ≤ x ∧ x < b
theorem any_none {p : Int → Bool} {l : List Int} (h : ∀ x ∈ l, p x = false) : l.any p = false := by
  rw [List.any_eq_false]; intro x hx; rw [h x hx]; decide
theorem lay_whole_ok (x : SlV) (fs : List (List Int)) (many : Int) (below : Int) (hm : many = (fs.length : Int)) (hl : fs.length ≤ 1000) (hb : Below below fs) (w : World) (hx : Pols w x fs) :
    Ok Pr f_lay_whole [.slice x.a x.n x.c, .int .i64 many, .int .i64 below] w fun v w' => v = .bool true ∧ Mod [] w w' := by
  refine V_lay_whole_of ?_
  unfold V_lay_whole
  have hxl := hx.len
  refine (Mine.start w).nw fun p w1 H _ => H.nw fun q w2 H _ => ?_
  refine H.st 1 (i := 0) rfl rfl (Nat.lt_succ_self 0) rfl fun w3 H => ?_
  have H : Mine w [] w3 [.blk p [.int .i64 below] t_int, .blk q [.func (.func f_lay_whole_1) ⟨[]⟩ ⟨[.pointer (some ⟨p, 0, none⟩)]⟩] t_func_int_bool] := H
  have hp : w3.cell? ⟨p, 0, none⟩ = some (.int .i64 below) := H.cell 0 rfl rfl rfl
  have hq : w3.cell? ⟨q, 0, none⟩ = some (.func (.func f_lay_whole_1) ⟨[]⟩ ⟨[.pointer (some ⟨p, 0, none⟩)]⟩) := H.cell 1 rfl rfl rfl
  refine ite_true (decide_eq_true (by omega)) (call_of (P := Pr) (f := f_slices_ContainsFunc_int_int_873da6) (R := fun v w' => v = .bool false ∧ Mod [] w3 w') (V_slices_ContainsFunc_int_int_873da6_of ?_) ?_)
  · unfold V_slices_ContainsFunc_int_int_873da6
    refine call_of (IndexFunc_none _ x fs (by omega) w3 (hx.mod0 H.mod) fun i y w' hi m hy => ?_) ?_
    · have hbi := hb _ (mem_getD hi [])
      refine callV_of bod_whole_2 (V_lay_whole_2_of ?_)
      unfold V_lay_whole_2
      have hyl := hy.len
      refine ⟨_, m.cell0 hq, ite_false (by rw [decide_eq_true (show ((y.n : Nat) : Int) = 256 by omega)]; rfl) (call_of (slices_ContainsFunc_int_int_ok _ (fun x => decide (x < 0) || decide (below ≤ x)) y _ (by omega) w' hy fun n w4 m4 => ?_) ?_)⟩
      · refine callV_of bod_whole_1 (V_lay_whole_1_of ?_)
        unfold V_lay_whole_1
        exact ⟨_, (m.trans m4).cell0 hp, rfl, Mod.refl _ _⟩
      · rintro _ w4 ⟨rfl, m4⟩
        refine asB_b ⟨?_, m4⟩
        rw [any_none fun n hn => ?_]
        have := hbi.2 n hn
        rw [decide_eq_false (by omega), decide_eq_false (by omega)]; rfl
    · rintro _ w4 ⟨rfl, m4⟩
      exact asI_i ⟨rfl, m4⟩
  · rintro _ w4 ⟨rfl, m4⟩
    exact asB_b ⟨rfl, (H.frame m4).mod⟩
/-- what more is known of a set -/
structure GoodX (s : LayS) : Prop where
  g2 : GG (s.g2 : Int)
  g1 : s.g1 = 131072 ∨ s.g1 = 524288
  omega : s.omega ≤ 80
  beta : s.beta ≤ 196
theorem goodX {set : Int} (h : isSet set = true) : GoodX (layS set) := by
  unfold isSet at h
  simp only [Bool.or_eq_true, decide_eq_true_eq] at h
  rcases h with rfl | rfl | rfl
  · exact ⟨.inl rfl, .inl rfl, by decide, by decide⟩
  · exact ⟨.inr rfl, .inr rfl, by decide, by decide⟩
  · exact ⟨.inr rfl, .inr rfl, by decide, by decide⟩
def hiW (g : Int) : Nat := if g = 95232 then 6 else 4
theorem hiW_blen {g : Int} (h : GG g) : ∃ m : Nat, mOf g - 1 = (m : Int) ∧ blen (0 + m) = hiW g ∧ mOf g ≤ 2 ^ hiW g ∧ 0 < hiW g ∧ hiW g ≤ 6 := by
  rcases h with rfl | rfl
  · exact ⟨43, by decide, by decide +kernel, by decide, by decide, by decide⟩
  · exact ⟨15, by decide, by decide +kernel, by decide, by decide, by decide⟩
/-- high parts, laid -/
def highB (g : Int) (fs : List (List Int)) : List B8 := fs.flatMap (packL (hiW g))
/-- bytes that were told, and no error -/
def GaveN0 (w w' : World) (v : Value) (l : List B8) : Prop := ∃ y : SlV, v = .tuple ⟨[.slice y.a y.n y.c, .nilIface]⟩ ∧ Own w' w.heap.size t_uint8 1 y (u8s l) ∧ Mod [] w w'
theorem Below.dig {g : Int} (h : GG g) {fs : List (List Int)} (hb : Below (mOf g) fs) {i : Nat} (hi : i < fs.length) : (fs.getD i []).length = 256 ∧ Dig (hiW g) (fs.getD i []) := by
  obtain ⟨h1, h2⟩ := hb _ (mem_getD hi [])
  obtain ⟨m, -, -, h3, -⟩ := hiW_blen h
  exact ⟨h1, ⟨fun x hx => (h2 x hx).1, fun x hx => by have := (h2 x hx).2; exact Int.lt_of_lt_of_le this h3⟩⟩
theorem lay_High_ok (set : Int) (his : isSet set = true) (x : SlV) (fs : List (List Int)) (hl : fs.length = (layS set).k) (hb : Below (mOf (layS set).g2) fs) (w : World) (hx : Pols w x fs) :
    Ok Pr f_lay_High [.int .i64 set, .slice x.a x.n x.c] w fun v w' => GaveN0 w w' v (highB (layS set).g2 fs) := by
  refine V_lay_High_of ?_
  unfold V_lay_High
  rw [zc_lSet]
  have hG := goodS his
  have hX := goodX his
  refine call_of (lay_Of_ok set w) ?_
  rintro _ w1 ⟨rfl, m1⟩
  rw [his]
  generalize layS set = s at *
  have hk8 := hG.k
  have hg2 := hX.g2
  have hg0 : 0 < (s.g2 : Int) ∧ (s.g2 : Int) ≤ 261888 := by rcases hg2 with h | h <;> omega
  have hm := mOf_rng hg2
  obtain ⟨m, hm1, hm2, hm3, hm4, hm5⟩ := hiW_blen hg2
  have hxl := hx.len
  have e : 8380416 / (2 * (s.g2 : Int)) = mOf s.g2 := rfl
  have hD := fun i (hi : i < fs.length) => hb.dig hg2 hi
  have hbB : highB s.g2 fs = fs.flatMap (packL (hiW s.g2)) := rfl
  generalize highB s.g2 fs = HB at *
  refine ⟨_, rfl, as_lSet ⟨_, rfl, rfl, ((Mine.start w).frame m1).nw fun p w2 H _ => H.sT_lay_Set 0 rfl rfl fun w3 H => ite_false rfl (H.ldI 0 rfl (ad1 p 7) rfl ⟨⟨by omega, by omega⟩, pos_of (by omega) ⟨⟨by omega, by rw [i64max]; omega⟩, lt_in ?_⟩⟩)⟩⟩
  rw [e]
  refine H.ldI 0 rfl (ad1 p 0) rfl (call_of (lay_whole_ok x fs _ _ (by omega) (by omega) hb w3 (hx.mod0 H.mod)) ?_)
  rintro _ w4 ⟨rfl, m4⟩
  have H := H.frame m4
  refine asB_b (ite_false rfl ?_)
  generalize hiW s.g2 = d at *
  have H : Mine w [] w4 [.blk p s.cells t_lay_Set, .row t_uint8 1 ⟨none, 0, 0⟩ (u8s [])] := H.nilrow t_uint8 1
  refine loop2_up 0 fs.length (fun i (out : SlV) w' => out.n = 32 * d * i ∧ Mine w [] w' [.blk p s.cells t_lay_Set, .row t_uint8 1 out (u8s ((fs.take i).flatMap (packL d)))]) rfl (by omega) ⟨rfl, H⟩ ?_ ?_
  · rintro again i out w5 _ hi ⟨hn, H⟩ hag
    obtain ⟨h256, hd⟩ := hD i hi
    refine ite_true (decide_eq_true (by omega)) ((hx.mod0 H.mod).ld (i := i) hi rfl fun f hf => ⟨⟨by omega, by omega⟩, ?_⟩)
    rw [hm1]
    rw [flatMap_take_succ _ _ _ hi] at hag
    generalize fs.getD i [] = A at *
    generalize (fs.take i).flatMap (packL d) = B at *
    refine call_of (lay_long_ok 0 m (by omega) w5) ?_
    rintro _ w6 ⟨rfl, hw⟩
    subst hw
    rw [hm2]
    refine asI_i (call_of (bits_Pack_ok d (by omega) (by omega) f A (by omega) hd _ hf) ?_)
    rintro _ w7 ⟨q, rfl, hq, m7⟩
    have H := H.got m7 hq
    have hql := (H.bytes 2 rfl).len
    rw [length_packL, h256] at hql
    have hmul : 32 * d * (i + 1) = 32 * d * i + 32 * d := by rw [Nat.mul_add, Nat.mul_one]
    have hmm : 32 * d * (i + 1) ≤ 32 * d * 8 := Nat.mul_le_mul_left _ (by omega)
    refine asSl_s (H.app8 1 elt_u8 rfl (H.bytes 2 rfl) (by omega) fun out' w8 H hn' => ⟨⟨by omega, by omega⟩, hag out' w8 ⟨by omega, ?_⟩⟩)
    exact H.front (L := [.blk p s.cells t_lay_Set, .row t_uint8 1 out' (u8s (B ++ packL d A))]) (L2 := [.row t_uint8 1 q (u8s (packL d A))])
  · rintro again out w5 ⟨hn, H⟩
    rw [List.take_of_length_le (Nat.le_refl _), ← hbB] at H
    exact ite_false (decide_eq_false (by omega)) ⟨out, rfl, H.fresh0 1 rfl, H.mod⟩
/-! ### hints -/
def onesTo (f : List Int) (n : Nat) : List B8 := (List.range n).flatMap fun j => if f.getD j 0 = 1 then [BitVec.ofNat 8 j] else []
def plc (fs : List (List Int)) (n : Nat) : List B8 := (List.range n).flatMap fun j => onesTo (fs.getD j []) 256
def endsL (fs : List (List Int)) (n : Nat) : List B8 := (List.range n).map fun j => BitVec.ofNat 8 (min (plc fs (j + 1)).length 255)
def hintC (s : LayS) (fs : List (List Int)) : Int := if (plc fs fs.length).length ≤ s.omega then 0 else 5
def hintB (s : LayS) (fs : List (List Int)) : List B8 := plc fs fs.length ++ (List.replicate (s.omega - (plc fs fs.length).length) 0 ++ endsL fs fs.length)
def hintR (s : LayS) (fs : List (List Int)) : List B8 := if hintC s fs = 0 then hintB s fs else []
theorem range_succ_flat {A : Type} (f : Nat → List A) (i : Nat) : (List.range (i + 1)).flatMap f = (List.range i).flatMap f ++ f i := by simp [List.range_succ]
theorem onesTo_succ (f : List Int) (i : Nat) : onesTo f (i + 1) = onesTo f i ++ if f.getD i 0 = 1 then [BitVec.ofNat 8 i] else [] := range_succ_flat _ _
theorem plc_succ (fs : List (List Int)) (i : Nat) : plc fs (i + 1) = plc fs i ++ onesTo (fs.getD i []) 256 := range_succ_flat _ _
theorem length_onesTo (f : List Int) (n : Nat) : (onesTo f n).length ≤ n := by
  induction n with
  | zero => simp [onesTo]
  | succ i ih => rw [onesTo_succ, List.length_append]; split <;> simp <;> omega
theorem length_plc (fs : List (List Int)) (n : Nat) : (plc fs n).length ≤ 256 * n := by
  induction n with
  | zero => simp [plc]
  | succ i ih => rw [plc_succ, List.length_append]; have := length_onesTo (fs.getD i []) 256; omega
theorem lay_fault_ok (c : Int) (hc : c ≠ 0) (w : World) : Ok Pr f_lay_fault [.int .i64 c] w fun v w' => IsErr w w' v c ∧ Mod [] w w' := by
  refine V_lay_fault_of ?_
  unfold V_lay_fault
  exact nw_blk fun b w' hb h1 h2 _ => ⟨IsErr.mk h1 (by omega) hc, h2⟩
theorem lay_Hints_ok (set : Int) (his : isSet set = true) (x : SlV) (fs : List (List Int)) (hl : fs.length = (layS set).k) (hb : Below 2 fs) (w : World) (hx : Pols w x fs) :
    Ok Pr f_lay_Hints [.int .i64 set, .slice x.a x.n x.c] w fun v w' => Gave2 t_uint8 1 w w' v (u8s (hintR (layS set) fs)) (hintC (layS set) fs) := by
  refine V_lay_Hints_of ?_
  unfold V_lay_Hints
  rw [zc_lSet]
  have hG := goodS his
  have hX := goodX his
  refine call_of (lay_Of_ok set w) ?_
  rintro _ w1 ⟨rfl, m1⟩
  rw [his]
  generalize layS set = s at *
  have hk8 := hG.k
  have hom := hX.omega
  have hxl := hx.len
  have hR : hintR s fs = if hintC s fs = 0 then hintB s fs else [] := rfl
  have hC : hintC s fs = if (plc fs fs.length).length ≤ s.omega then 0 else 5 := rfl
  have hB : hintB s fs = plc fs fs.length ++ (List.replicate (s.omega - (plc fs fs.length).length) 0 ++ endsL fs fs.length) := rfl
  have hE := fun i => range_succ_map (fun j => (BitVec.ofNat 8 (min (plc fs (j + 1)).length 255) : B8)) i
  change ∀ i, endsL fs (i + 1) = endsL fs i ++ [BitVec.ofNat 8 (min (plc fs (i + 1)).length 255)] at hE
  have hEl : (endsL fs fs.length).length = fs.length := by simp [endsL]
  have hEl2 : ∀ i, (endsL fs i).length = i := fun i => by simp [endsL]
  generalize hintR s fs = RR at *
  generalize hintC s fs = C at *
  generalize hintB s fs = BB at *
  refine ⟨_, rfl, as_lSet ⟨_, rfl, rfl, ((Mine.start w).frame m1).nw fun p w2 H _ => H.sT_lay_Set 0 rfl rfl fun w3 H => ite_false rfl (H.ldI 0 rfl (ad1 p 0) rfl (call_of (lay_whole_ok x fs _ 2 (by omega) (by omega) hb w3 (hx.mod0 H.mod)) ?_))⟩⟩
  rintro _ w4 ⟨rfl, m4⟩
  have H := H.frame m4
  refine asB_b (ite_false rfl ?_)
  have H : Mine w [] w4 [.blk p s.cells t_lay_Set, .row t_uint8 1 ⟨none, 0, 0⟩ (u8s []), .row t_uint8 1 ⟨none, 0, 0⟩ (u8s [])] := (H.nilrow t_uint8 1).nilrow t_uint8 1
  refine loop3_up 0 fs.length (fun i (pl en : SlV) w' => Mine w [] w' [.blk p s.cells t_lay_Set, .row t_uint8 1 pl (u8s (plc fs i)), .row t_uint8 1 en (u8s (endsL fs i))]) rfl (by omega) H ?_ ?_
  · rintro again i pl en w5 _ hi H hag
    have h256 := (hb _ (mem_getD hi [])).1
    have hps := plc_succ fs i
    have hpn := length_plc fs i
    have hE := hE i
    have hEl2 := hEl2 i
    generalize endsL fs (i + 1) = E1 at *
    generalize endsL fs i = E at *
    generalize plc fs (i + 1) = P1 at *
    generalize plc fs i = P at *
    refine ite_true (decide_eq_true (by omega)) (hx.ldm H.mod (i := i) hi rfl fun f hf => ?_)
    have hfl := hf.len
    refine loop2_up 0 256 (fun j (pl : SlV) w' => Mine w [] w' [.blk p s.cells t_lay_Set, .row t_uint8 1 pl (u8s (P ++ onesTo (fs.getD i []) j)), .row t_uint8 1 en (u8s E)]) rfl (by omega) (by simpa [onesTo] using H) ?_ ?_
    · intro again1 j pl1 w6 _ hj H1 hag1
      have hos := onesTo_succ (fs.getD i []) j
      have hol := length_onesTo (fs.getD i []) j
      have hpl := (H1.bytes 1 rfl).len
      rw [List.length_append] at hpl
      generalize onesTo (fs.getD i []) (j + 1) = O1 at *
      generalize onesTo (fs.getD i []) j = O at *
      refine ite_true (decide_eq_true (by omega)) ((hf.mod0 H1.mod).ld (i := j) (by omega) rfl (ite_intro (fun hc => ?_) (fun hc => ?_)))
      · rw [if_pos (of_decide_eq_true hc)] at hos
        refine H1.app8one 1 (BitVec.ofNat 8 j) elt_u8 rfl (wrap_u8N j) (by omega) fun pl2 w7 H2 _ => ⟨⟨by omega, by omega⟩, hag1 pl2 w7 ?_⟩
        rw [hos, ← List.append_assoc]
        exact H2
      · rw [if_neg (of_decide_eq_false hc), List.append_nil] at hos
        refine ⟨⟨by omega, by omega⟩, hag1 pl1 w6 ?_⟩
        rw [hos]
        exact H1
    · intro again1 pl1 w6 H1
      rw [← hps] at H1
      have hpl := (H1.bytes 1 rfl).len
      have hel := (H1.bytes 2 rfl).len
      refine ite_false (decide_eq_false (by omega)) ?_
      rw [show min ((pl1.n : Nat) : Int) 255 = ((min P1.length 255 : Nat) : Int) by omega]
      refine H1.app8one 2 (BitVec.ofNat 8 (min P1.length 255)) elt_u8 rfl (wrap_u8N _) (by omega) fun en2 w7 H2 _ => ⟨⟨by omega, by omega⟩, hag pl1 en2 w7 ?_⟩
      rw [hE]
      exact H2
  · intro again pl en w5 H
    have hpl := (H.bytes 1 rfl).len
    have hel := (H.bytes 2 rfl).len
    have hpn := length_plc fs fs.length
    generalize endsL fs fs.length = E at *
    generalize plc fs fs.length = P at *
    refine ite_false (decide_eq_false (by omega)) (H.ldI 0 rfl (ad1 p 5) rfl (ite_intro (fun hc => ?_) (fun hc => ?_)))
    · have hc := of_decide_eq_true hc
      rw [if_neg (by omega)] at hC
      rw [hC, if_neg (by decide)] at hR
      subst hC hR
      refine call_of (lay_fault_ok 5 (by decide) w5) ?_
      rintro e w6 ⟨h6, m6⟩
      have H6 := H.gotE m6 h6
      exact Gave2.no (H6.isErr 3 rfl) H6.mod
    · have hc := of_decide_eq_false hc
      rw [if_pos (by omega)] at hC
      rw [hC, if_pos rfl] at hR
      rw [hC, hR]
      refine H.ldI 0 rfl (ad1 p 5) rfl ⟨⟨by omega, by omega⟩, H.mkU elt_u8 (by kernel_rfl) (n := s.omega - P.length) (by omega) (by omega) (by omega) fun z w6 H hzn => H.nw fun p3 w7 H _ => ?_⟩
      refine call_of (slices_Concat_byte_byte_ok ⟨some ⟨p3, 0, none⟩, 3, 3⟩ [P, List.replicate (s.omega - P.length) 0, E] (by show 3 ≤ 1000; omega) (by
        intro l hl
        simp only [List.mem_cons, List.not_mem_nil, or_false] at hl
        rcases hl with rfl | rfl | rfl
        · omega
        · rw [List.length_replicate]; omega
        · omega) _ ?_) ?_
      · refine Parts.ofs (ss := [pl, z, en]) (H.blk 4 rfl) (by simp) rfl fun i s l hs hl => ?_
        match i, hs, hl with
        | 0, hs, hl => cases hs; cases hl; exact ⟨H.bytes 1 rfl, off_nil _⟩
        | 1, hs, hl => cases hs; cases hl; exact ⟨H.bytes 3 rfl, off_nil _⟩
        | 2, hs, hl => cases hs; cases hl; exact ⟨H.bytes 2 rfl, off_nil _⟩
        | i + 3, hs, hl => simp at hs
      rintro _ w8 ⟨yo, rfl, hyo, m8⟩
      rw [show [P, List.replicate (s.omega - P.length) 0, E].flatten = BB by rw [hB]; simp] at hyo
      have H := H.got m8 hyo
      exact asSl_s (Gave2.yes (H.fresh0 5 rfl) H.mod)
end Go.Proofs.YtdnhoebcomffoaaGreatDoor
end
section
set_option linter.unusedVariables false
set_option linter.unusedSimpArgs false
/- WHAT THE CODE OF EACH FUNCTION ASKS FOR, by a program of this claim's author (vc.py); each is held against the code by the kernel. -/
namespace Go.Proofs.YtdnhoebcomffoaaGreatDoor
open Go Go.Ev
set_option maxRecDepth 100000
set_option linter.unusedVariables false
def V_lay_Unhint (setv : Int) (b : SlV) (w : World) (R : Value → World → Prop) : Prop :=
 callK Pr f_lay_Of [.int .i64 setv] w fun a c =>
 destr.asArr' a fun d =>
 uncons d fun e f =>
 as_lay_Set e fun g i j k l m n o p =>
 uncons f fun q s =>
 asB q fun t =>
 (s = [] ∧
 nw t_lay_Set (zc Pr t_lay_Set) c fun u v =>
 sT_lay_Set u g i j k l m n o p v fun x =>
 iteP (!t)
 (callK Pr f_lay_fault [.int .i64 2] x fun y z =>
 R (.tuple ⟨[.slice none 0 0, y]⟩) z)
 (ldI .i64 (Addr.add u 5) x fun A =>
 ldI .i64 (Addr.add u 0) x fun B =>
 (I64 (A + B) ∧
 iteP (!decide ((b.n:Int) = A + B))
 (callK Pr f_lay_fault [.int .i64 3] x fun C D =>
 R (.tuple ⟨[.slice none 0 0, C]⟩) D)
 (ldI .i64 (Addr.add u 5) x fun E =>
 slL 1 b E fun F =>
 loop3 (fun (G : SlV) (I : Int) (J : Int) => [(8, some (.slice G.a G.n G.c)), (9, some (.int .i64 I)), (37, some (.int .i64 J))])
 (fun L G I J M => iteP (decide (J < (F.n:Int)))
 (idxS F.a J F.n
 (ldI .u8 (Addr.add (base F.a) (Int.toNat J * 1)) M fun N =>
 (I64 (N) ∧
 mkSl Pr t_int 256 256 (World.drew M) fun O Q =>
 join0 []
 (fun S => callK Pr f_lay_fault [.int .i64 4] S fun T U =>
 R (.tuple ⟨[.slice none 0 0, T]⟩) U)
 (fun V =>
 ldI .i64 (Addr.add u 5) Q fun X =>
 iteP (decide (X < N))
 (V Q)
 (iteP (decide (N < I))
 (V Q)
 (loop1 (fun (Y : Int) => [(9, some (.int .i64 Y))])
 (fun Z Y aa => iteP (decide (Y < N))
 (join0 []
 (fun ba => idxS b.a Y b.n
 (ldI .u8 (Addr.add (base b.a) (Int.toNat Y * 1)) ba fun ca =>
 idxS O.a ca O.n
 (st (Addr.add (base O.a) (Int.toNat ca * 1)) (.int .i64 1) ba fun da =>
 (I64 (Y + 1) ∧
 Z (Y + 1) da))))
 (fun ea =>
 join1 (fun (fa : Bool) => [(74, some (.bool fa))])
 (fun fa ga => iteP fa
 (callK Pr f_lay_fault [.int .i64 4] ga fun ia ja =>
 R (.tuple ⟨[.slice none 0 0, ia]⟩) ja)
 (ea ga))
 (fun ka =>
 iteP (decide (I < Y))
 (idxS b.a Y b.n
 (ldI .u8 (Addr.add (base b.a) (Int.toNat Y * 1)) (World.drew aa) fun la =>
 (I64 (Y - 1) ∧
 idxS b.a (Y - 1) b.n
 (ldI .u8 (Addr.add (base b.a) (Int.toNat (Y - 1) * 1)) (World.drew aa) fun ma =>
 ka (decide (la ≤ ma)) (World.drew aa)))))
 (ka false (World.drew aa)))))
 (nw t_s_int [.slice O.a O.n O.c] aa fun na oa =>
 appK Pr [t_s_s_int, t_s_s_int] t_s_s_int [.slice G.a G.n G.c, .slice (some na) 1 1] oa fun pa qa =>
 (I64 (J + 1) ∧
 L pa Y (J + 1) qa)))
 I Q))))))
 (ldI .i64 (Addr.add u 5) M fun sa =>
 slLH 1 b I sa fun ta =>
 callK Pr f_slices_ContainsFunc_byte_byte [.slice ta.a ta.n ta.c, .func (.func f_lay_Unhint_1) ⟨[]⟩ ⟨[]⟩] M fun ua va =>
 asB ua fun xa =>
 iteP xa
 (callK Pr f_lay_fault [.int .i64 4] va fun ya za =>
 R (.tuple ⟨[.slice none 0 0, ya]⟩) za)
 (R (.tuple ⟨[.slice G.a G.n G.c, .nilIface]⟩) va)))
 ⟨none, 0, 0⟩ 0 0 x))))
theorem V_lay_Unhint_of {setv : Int} {b : SlV} {w : World} {R : Value → World → Prop} (h : V_lay_Unhint setv b w R) : Ok Pr f_lay_Unhint [.int .i64 setv, .slice b.a b.n b.c] w R :=
 evF_ok (m := ⟨true, true⟩) (J := [(15, []), (20, []), (19, [(74, .bool)])]) (L := [(9, [(8, .sl), (9, .int .i64), (37, .int .i64)]), (16, [(9, .int .i64)])]) good Tryz.func55 (by kernel_rfl) ((by kernel_rfl : evF Pr _ _ _ Tryz.f55 _ w R = V_lay_Unhint setv b w R).mpr h)
end Go.Proofs.YtdnhoebcomffoaaGreatDoor
end
section
set_option linter.unusedVariables false
set_option linter.unusedSimpArgs false
/- HINTS that are read: the program's. -/
namespace Go.Proofs.YtdnhoebcomffoaaGreatDoor
open Go Go.Ev
set_option maxRecDepth 20000
set_option linter.unusedVariables false
theorem IndexFunc_u8_ok (g : Value) (p : B8 → Bool) (x : SlV) (l : List B8) (hl : l.length ≤ 1000000000) (w : World) (hx : Bytes w x l) (hg : ∀ (c : B8) (w' : World), Mod [] w w' → callV Pr g [.int .u8 (c.toNat : Int)] w' fun v w'' => v = .bool (p c) ∧ Mod [] w' w'') :
    Ok Pr f_slices_IndexFunc_byte_byte [.slice x.a x.n x.c, g] w fun v w' => ∃ z : Int, v = .int .i64 z ∧ decide (0 ≤ z) = l.any p ∧ Mod [] w w' := by
  refine V_slices_IndexFunc_byte_byte_of ?_
  unfold V_slices_IndexFunc_byte_byte
  have hxl := hx.len
  refine loop1_up 0 l.length (fun i w' => (l.take i).any p = false ∧ Mod [] w w') rfl (by omega) ⟨rfl, Mod.refl _ _⟩ ?_ ?_
  · rintro again i w1 _ hi ⟨hn, m⟩ hag
    refine ite_true (decide_eq_true (by omega)) ((hx.mod0 m).ld (i := i) hi (callV_mono (hg _ w1 m) ?_))
    rintro _ w2 ⟨rfl, m2⟩
    refine asB_b (ite_intro (fun hc => ?_) (fun hc => ?_))
    · exact ⟨_, rfl, by rw [any_take_true p l i hi 0 hc]; exact decide_eq_true (by omega), m.trans m2⟩
    · exact ⟨⟨by omega, by omega⟩, hag w2 ⟨by rw [any_take_succ p l i hi 0, hn, hc]; rfl, m.trans m2⟩⟩
  · rintro again w1 ⟨hn, m⟩
    rw [List.take_of_length_le (Nat.le_refl _)] at hn
    exact ite_false (decide_eq_false (by omega)) ⟨_, rfl, by rw [hn]; rfl, m⟩
theorem ContainsFunc_u8_ok (g : Value) (p : B8 → Bool) (x : SlV) (l : List B8) (hl : l.length ≤ 1000000000) (w : World) (hx : Bytes w x l) (hg : ∀ (c : B8) (w' : World), Mod [] w w' → callV Pr g [.int .u8 (c.toNat : Int)] w' fun v w'' => v = .bool (p c) ∧ Mod [] w' w'') :
    Ok Pr f_slices_ContainsFunc_byte_byte [.slice x.a x.n x.c, g] w fun v w' => v = .bool (l.any p) ∧ Mod [] w w' := by
  refine V_slices_ContainsFunc_byte_byte_of ?_
  unfold V_slices_ContainsFunc_byte_byte
  refine call_of (IndexFunc_u8_ok g p x l hl w hx hg) ?_
  rintro _ w1 ⟨z, rfl, hz, m⟩
  exact asI_i ⟨by rw [hz], m⟩
def nz8 (x : B8) : Bool := !decide (((x.toNat : Nat) : Int) = 0)
theorem bod_Unhint_1 : bodied Pr f_lay_Unhint_1 = true := by kernel_rfl
def uAt (b : List B8) (om r : Nat) : Nat := if r = 0 then 0 else (b.getD (om + (r - 1)) 0).toNat
def uUp (b : List B8) (a e : Nat) : Prop := ∀ m, a < m → m < e → (b.getD (m - 1) 0).toNat < (b.getD m 0).toNat
def uGood (b : List B8) (om r : Nat) : Prop := uAt b om r ≤ uAt b om (r + 1) ∧ uAt b om (r + 1) ≤ om ∧ uUp b (uAt b om r) (uAt b om (r + 1))
def uAll (b : List B8) (om k : Nat) : Prop := (∀ r, r < k → uGood b om r) ∧ ((b.drop (uAt b om k)).take (om - uAt b om k)).any nz8 = false
open Classical in
noncomputable def unC (b : List B8) (om k : Nat) : Int := if uAll b om k then 0 else 4
def unF (b : List B8) (a e : Nat) : List Int := (List.range (e - a)).foldl (fun f m => f.set (b.getD (a + m) 0).toNat 1) (List.replicate 256 0)
def unL (b : List B8) (om k : Nat) : List (List Int) := (List.range k).map fun r => unF b (uAt b om r) (uAt b om (r + 1))
theorem unF_succ (b : List B8) {a e : Nat} (h : a ≤ e) : unF b a (e + 1) = (unF b a e).set (b.getD e 0).toNat 1 := by
  unfold unF
  rw [show e + 1 - a = (e - a) + 1 by omega, List.range_succ, List.foldl_append, List.foldl_cons, List.foldl_nil, show a + (e - a) = e by omega]
theorem length_unF (b : List B8) (a e : Nat) : (unF b a e).length = 256 := by
  unfold unF
  generalize e - a = n
  induction n with
  | zero => simp
  | succ n ih => rw [List.range_succ, List.foldl_append, List.foldl_cons, List.foldl_nil, List.length_set]; exact ih
theorem lay_Unhint_ok (set : Int) (his : isSet set = true) (s : LayS) (hs : s = layS set) (x : SlV) (b : List B8) (hl : b.length = s.omega + s.k) (w : World) (hx : Bytes w x b) :
    Ok Pr f_lay_Unhint [.int .i64 set, .slice x.a x.n x.c] w fun v w' => ∃ (y : SlV) (er : Value), v = .tuple ⟨[.slice y.a y.n y.c, er]⟩ ∧ IsErr w w' er (unC b s.omega s.k) ∧ Mod [] w w' ∧ (unC b s.omega s.k = 0 → Boxed w w' fun w => Pols w y (unL b s.omega s.k)) := by
  refine V_lay_Unhint_of ?_
  unfold V_lay_Unhint
  rw [zc_lSet]
  have hG := goodS his
  have hX := goodX his
  rw [← hs] at hG hX
  have hk8 := hG.k
  have hom := hX.omega
  have hxl := hx.len
  have hxc := hx.cap
  refine call_of (lay_Of_ok set w) ?_
  rintro _ w1 ⟨rfl, m1⟩
  rw [his, ← hs]
  refine ⟨_, rfl, as_lSet ⟨_, rfl, rfl, ((Mine.start w).frame m1).nw fun p w2 H _ => H.sT_lay_Set 0 rfl rfl fun w3 H => ite_false rfl (H.ldI 0 rfl (ad1 p 5) rfl (H.ldI 0 rfl (ad1 p 0) rfl ⟨⟨by omega, by omega⟩, ite_false (by rw [decide_eq_true (show ((x.n : Nat) : Int) = (s.omega : Int) + (s.k : Int) by omega)]; rfl) (H.ldI 0 rfl (ad1 p 5) rfl (slL_all s.omega rfl (by omega) fun z hzn hzb => ?_))⟩))⟩⟩
  have H : Mine w [] w3 [.blk p s.cells t_lay_Set] := H
  have bad : ∀ {w' : World}, Mine w [] w' [.blk p s.cells t_lay_Set] → ¬ uAll b s.omega s.k → callK Pr f_lay_fault [.int .i64 (4 : Int)] w' fun v w'' => ∃ (y : SlV) (er : Value), (Value.tuple ⟨[.slice none 0 0, v]⟩) = .tuple ⟨[.slice y.a y.n y.c, er]⟩ ∧ IsErr w w'' er (unC b s.omega s.k) ∧ Mod [] w w'' ∧ (unC b s.omega s.k = 0 → Boxed w w'' fun w => Pols w y (unL b s.omega s.k)) := by
    intro w' H hn
    have hc : unC b s.omega s.k = 4 := by unfold unC; rw [if_neg hn]
    rw [hc]
    refine call_of (lay_fault_ok 4 (by decide) w') ?_
    rintro e w6 ⟨h6, m6⟩
    exact ⟨⟨none, 0, 0⟩, e, rfl, h6.from H.mod.size, (H.frame m6).mod, fun h => absurd h (by decide)⟩
  have hzl : z.n = s.k := by omega
  refine loop3_up 0 s.k (fun i (out : SlV) (at_ : Int) w' => at_ = ((uAt b s.omega i : Nat) : Int) ∧ (∀ r, r < i → uGood b s.omega r) ∧ uAt b s.omega i ≤ s.omega ∧ Col Nums t_s_int w3 [] [] w' out (unL b s.omega i)) rfl (by omega) ⟨by simp [uAt], fun r h => by omega, by simp [uAt], Col.start (Mine.start w3)⟩ ?_ ?_
  · rintro again i out _ w4 _ hi ⟨rfl, hgd, hle, C⟩ hag
    have H4 := H.frame C.mod
    have hzB := (hzb w b hx (by omega)).mod0 H4.mod
    have hbi : (b.drop s.omega).getD i 0 = b.getD (s.omega + i) 0 := by simp [List.getD_eq_getElem?_getD, List.getElem?_drop]
    have hnext : uAt b s.omega (i + 1) = (b.getD (s.omega + i) 0).toNat := by unfold uAt; rw [if_neg (by omega)]; rfl
    refine ite_true (decide_eq_true (by omega)) (hzB.ld (i := i) (by rw [List.length_drop]; omega) ?_)
    rw [hbi, ← hnext]
    have he256 : uAt b s.omega (i + 1) < 256 := by rw [hnext]; exact (b.getD (s.omega + i) 0).isLt
    have hgi : uGood b s.omega i = (uAt b s.omega i ≤ uAt b s.omega (i + 1) ∧ uAt b s.omega (i + 1) ≤ s.omega ∧ uUp b (uAt b s.omega i) (uAt b s.omega (i + 1))) := rfl
    have hnot : ¬ uGood b s.omega i → ¬ uAll b s.omega s.k := fun h h2 => h (h2.1 i hi)
    have hsucc : unL b s.omega (i + 1) = unL b s.omega i ++ [unF b (uAt b s.omega i) (uAt b s.omega (i + 1))] := range_succ_map _ _
    rw [hsucc] at hag
    have hlen : (unL b s.omega i).length ≤ 1000000 := by unfold unL; rw [List.length_map, List.length_range]; omega
    generalize uAt b s.omega (i + 1) = E at *
    generalize uAt b s.omega i = A at *
    have C := C.frame (Mod.drew [] w4)
    refine ⟨⟨by omega, by omega⟩, (Mine.start w4.drew).mkN elt_i64' zc_i64 (n := 256) rfl rfl (by omega) fun f w5 D _ => ?_⟩
    rw [List.nil_append] at D
    have H5 := (H4.drew).frame D.mod
    refine join0_of fun go hgo => H5.ldI 0 rfl (ad1 p 5) rfl (ite_intro (fun hc => ?_) (fun hc => ite_intro (fun hc2 => ?_) (fun hc2 => ?_)))
    · have hc := of_decide_eq_true hc
      exact hgo w5 (bad H5 (hnot fun h => by rw [hgi] at h; omega))
    · have hc2 := of_decide_eq_true hc2
      exact hgo w5 (bad H5 (hnot fun h => by rw [hgi] at h; omega))
    · have hc := of_decide_eq_false hc
      have hc2 := of_decide_eq_false hc2
      have hf0 : unF b A A = List.replicate 256 0 := by unfold unF; rw [Nat.sub_self]; rfl
      refine loop1_up A E (fun j w' => uUp b A j ∧ Mine w4.drew [] w' [.row t_int 1 f (i64s (unF b A j))]) rfl (by omega) ⟨fun m h1 h2 => by omega, by rw [hf0]; exact D⟩ ?_ ?_
      · rintro again1 j w6 hAj hj ⟨hup, D⟩ hag1
        have D := D.drew
        have H6 := (H4.drew).frame D.mod
        have hb6 := hx.mod0 H6.mod
        refine ite_true (decide_eq_true (by omega)) (join0_of fun go1 hgo1 => join1_of fun go2 hgo2 => ?_)
        have rest : uUp b A (j + 1) → go1 w6.drew := by
          intro hup2
          refine hgo1 _ (hb6.ld (i := j) (by omega) ?_)
          refine D.stN 0 (i := (b.getD j 0).toNat) rfl (by rw [length_unF]; exact (b.getD j 0).isLt) rfl fun w7 D => ⟨⟨by omega, by omega⟩, hag1 w7 ⟨hup2, ?_⟩⟩
          rw [unF_succ b hAj]
          exact D
        refine ite_intro (fun hc3 => ?_) (fun hc3 => ?_)
        · have hc3 := of_decide_eq_true hc3
          refine hb6.ld (i := j) (by omega) ⟨⟨by omega, by omega⟩, ?_⟩
          rw [show (j : Int) - 1 = ((j - 1 : Nat) : Int) by omega]
          refine hb6.ld (i := j - 1) (by omega) (hgo2 _ _ (ite_intro (fun hc4 => ?_) (fun hc4 => ?_)))
          · have hc4 := of_decide_eq_true hc4
            refine bad H6 (hnot fun h => ?_)
            rw [hgi] at h
            have := h.2.2 j (by omega) (by omega)
            omega
          · have hc4 := of_decide_eq_false hc4
            refine rest fun m h1 h2 => ?_
            rcases Nat.lt_succ_iff_lt_or_eq.1 h2 with h | rfl
            · exact hup m h1 h
            · omega
        · have hc3 := of_decide_eq_false hc3
          exact hgo2 _ _ (ite_false rfl (rest fun m h1 h2 => by omega))
      · rintro again1 w6 ⟨hup, D⟩
        refine ite_false (decide_eq_false (by omega)) (C.add (l := unF b A E) (D.boxed fun w2 k => (k 0 _ rfl : Own w2 0 t_int 1 f _).nums) elt_vec hlen fun out' w7 C => ⟨⟨by omega, by omega⟩, hag out' _ w7 ⟨rfl, fun r hr => ?_, by omega, C⟩⟩)
        rcases Nat.lt_succ_iff_lt_or_eq.1 hr with h | rfl
        · exact hgd r h
        · rw [hgi]; exact ⟨by omega, by omega, hup⟩
  · rintro again out _ w4 ⟨rfl, hgd, hle, C⟩
    have hall : uAll b s.omega s.k ↔ ((b.drop (uAt b s.omega s.k)).take (s.omega - uAt b s.omega s.k)).any nz8 = false := ⟨fun h => h.2, fun h => ⟨hgd, h⟩⟩
    generalize uAt b s.omega s.k = A at *
    obtain ⟨fo, H⟩ := H.gotBox (C.boxed.mono fun w h => vec_pols h)
    refine ite_false (decide_eq_false (by omega)) (H.ldI 0 rfl (ad1 p 5) rfl (slLH_all A s.omega rfl rfl (by omega) (by omega) fun t htn htb => ?_))
    have htB := (htb w b hx (by omega)).mod0 H.mod
    refine call_of (ContainsFunc_u8_ok _ nz8 t _ (by rw [List.length_take, List.length_drop]; omega) w4 htB fun c w' m => ?_) ?_
    · refine callV_of bod_Unhint_1 (V_lay_Unhint_1_of ?_)
      unfold V_lay_Unhint_1
      exact ⟨rfl, Mod.refl _ _⟩
    · rintro _ w5 ⟨rfl, m5⟩
      have H := H.frame m5
      refine asB_b (ite_intro (fun hc => ?_) (fun hc => ?_))
      · exact bad (H.front (L := [.blk p s.cells t_lay_Set]) (L2 := [.box fo fun w => Pols w out (unL b s.omega s.k)])) fun h => by rw [hall, hc] at h; cases h
      · have hz : unC b s.omega s.k = 0 := by unfold unC; rw [if_pos (hall.2 hc)]
        rw [hz]
        exact ⟨out, .nilIface, rfl, IsErr.zero _ _, H.mod, fun _ => H.boxed fun w2 k => (k 1 _ rfl : (Res.box fo _).ok w2).2 w2 fun _ _ => rfl⟩
end Go.Proofs.YtdnhoebcomffoaaGreatDoor
end
section
set_option linter.unusedVariables false
set_option linter.unusedSimpArgs false
/- SIGNING: one turn: the program's. -/
namespace Go.Proofs.YtdnhoebcomffoaaGreatDoor
open Go Go.Ev
set_option maxRecDepth 20000
set_option linter.unusedVariables false
def yL (set : Int) (r : List B8) (n l : Nat) : List (List Int) := (List.range l).map fun i => maskL set r ((n + i : Nat) : Int)
def low1 (g : Int) (m : Int) (f : List Int) : Int := f.foldl (fun m v => max (max m (prtL g v)) (0 - prtL g v)) m
def lowN (g : Int) (X : List (List Int)) : Int := X.foldl (low1 g) 0
def hntF (g : Int) (t f : List Int) : List Int := (List.range f.length).map fun i => hnt g (0 - t.getD i 0) (f.getD i 0 + t.getD i 0)
def hntsL (g : Int) (X T : List (List Int)) : List (List Int) := eachL (fun r f => hntF g (T.getD r []) f) X
def okT (s : LayS) (Z X T H : List (List Int)) : Bool := decide (normL Z < (s.g1 : Int) - s.beta) && (decide (lowN s.g2 X < (s.g2 : Int) - s.beta) && (decide (normL T < (s.g2 : Int)) && decide (hintC s H = 0)))
theorem hnt_bit (g z x : Int) : hnt g z x = 0 ∨ hnt g z x = 1 := by unfold hnt; split <;> simp
theorem hnts_below {g : Int} {X T : List (List Int)} (hX : Pos X) : Below 2 (hntsL g X T) := by
  refine eachL_all (p := fun f => f.length = 256 ∧ ∀ x ∈ f, 0 ≤ x ∧ x < 2) fun i hi => ⟨?_, fun x hx => ?_⟩
  · unfold hntF; rw [List.length_map, List.length_range]; exact (hX.get hi).len
  · unfold hntF at hx
    obtain ⟨j, _, rfl⟩ := List.mem_map.1 hx
    rcases hnt_bit g (0 - (T.getD i []).getD j 0) ((X.getD i []).getD j 0 + (T.getD i []).getD j 0) with h | h <;> omega
theorem yL_pos {set : Int} (his : isSet set = true) {r : List B8} (hr : r.length = 64) {n l : Nat} (hn : n + l ≤ 65536) : Pos (yL set r n l) := by
  intro f hf
  unfold yL at hf
  obtain ⟨i, hi, rfl⟩ := List.mem_map.1 hf
  have hi := List.mem_range.1 hi
  refine maskL_po ?_
  rw [hr]; unfold maskC
  rw [if_pos ⟨his, by omega, by omega⟩, if_pos rfl]
theorem bod_turn_1 : bodied Pr f_sign_secret_turn_1 = true := by kernel_rfl
theorem bod_turn_2 : bodied Pr f_sign_secret_turn_2 = true := by kernel_rfl
theorem turn_1_tells {w : World} {a : Addr} {g : Int} (hg : GG g) (h7 : w.cell? (Addr.add a 7) = some (.int .i64 g)) : TellsN w (.func (.func f_sign_secret_turn_1) ⟨[]⟩ ⟨[.pointer (some a)]⟩) (prtH g) := fun x w' m => by
  refine callV_of bod_turn_1 (V_sign_secret_turn_1_of ?_)
  unfold V_sign_secret_turn_1
  refine ⟨_, m.cell0 h7, call_of (round_Part_ok g x hg w') ?_⟩
  rintro _ w2 ⟨rfl, hw⟩
  subst hw
  exact ⟨_, rfl, _, rfl, _, rfl, rfl, rfl, Mod.refl _ _⟩
theorem turn_2_tells {w : World} {a b : Addr} {g : Int} (hg : GG g) (h7 : w.cell? (Addr.add a 7) = some (.int .i64 g)) {t : SlV} {T X : List (List Int)} (hb : w.cell? b = some (.slice t.a t.n t.c)) (ht : Pols w t T) (hT : Pos T) (hX : Pos X) (hTX : T.length = X.length)
    (i : Nat) (y : SlV) (w' : World) (hi : i < X.length) (m : Mod [] w w') (hy : Nums w' y (X.getD i [])) :
    callV Pr (.func (.func f_sign_secret_turn_2) ⟨[]⟩ ⟨[.pointer (some a), .pointer (some b)]⟩) [.int .i64 (i : Int), .slice y.a y.n y.c] w' fun v w'' => ∃ z : SlV, v = .slice z.a z.n z.c ∧ Boxed w' w'' fun w => Nums w z (hntF g (T.getD i []) (X.getD i [])) := by
  refine callV_of bod_turn_2 (V_sign_secret_turn_2_of ?_)
  unfold V_sign_secret_turn_2
  have hyl := hy.len
  have px := hX.get hi
  have pt := hT.get (i := i) (by omega)
  have e : hntF g (T.getD i []) (X.getD i []) = (List.range (X.getD i []).length).map fun k => hnt g (0 - (T.getD i []).getD k 0) ((X.getD i []).getD k 0 + (T.getD i []).getD k 0) := rfl
  rw [e]
  have hl := px.len
  have hlt := pt.len
  refine (Mine.start w').mkN elt_i64' zc_i64 (n := (X.getD i []).length) (by omega) (by omega) (by omega) fun z w2 H2 hzn => ?_
  obtain ⟨G, hG⟩ : ∃ G : Nat → Int, G = fun k => hnt g (0 - (T.getD i []).getD k 0) ((X.getD i []).getD k 0 + (T.getD i []).getD k 0) := ⟨_, rfl⟩
  rw [← hG]
  rw [List.nil_append, ← part_zero G] at H2
  refine loop1_up 0 (X.getD i []).length (fun k w'' => Mine w' [] w'' [.row t_int 1 z (i64s (part G (X.getD i []).length k))]) rfl (by omega) H2 ?_ ?_
  · intro again k w3 _ hk H3 hag
    have H4 := H3.drew
    have mm := m.trans H4.mod
    have rt := pt.rng ((T.getD i []).getD k 0) (mem_getD (by omega) 0)
    have rx := px.rng ((X.getD i []).getD k 0) (mem_getD (by omega) 0)
    refine ite_true (decide_eq_true (by omega)) ⟨_, mm.cell0 h7, _, mm.cell0 hb, (ht.mod0 mm).ld (i := i) (by omega) rfl fun u hu => hu.ld (i := k) (by omega) rfl ⟨⟨by omega, by omega⟩, (hy.mod0 H4.mod).ld (i := k) hk rfl ⟨_, mm.cell0 hb, (ht.mod0 mm).ld (i := i) (by omega) rfl fun u2 hu2 => hu2.ld (i := k) (by omega) rfl ⟨⟨by omega, by omega⟩, call_of (round_Hint_ok g _ _ hg _) ?_⟩⟩⟩⟩
    rintro _ w5 ⟨rfl, hw⟩
    subst hw
    refine asI_i (H4.stN 0 (i := k) rfl (by rw [part_len _ (by omega)]; omega) rfl fun w6 H6 => ⟨⟨by omega, by omega⟩, hag w6 ?_⟩)
    rw [← part_set G hk (by rw [hG])]
    exact H6
  · intro again w3 H3
    rw [part_all] at H3
    exact ite_false (decide_eq_false (by omega)) ⟨z, rfl, Boxed.of_own (H3.fresh0 0 rfl) H3.mod fun w2 h => h.nums⟩
theorem norm1_ge (l : List Int) (t : Int) : t ≤ norm1 t l ∧ ∀ x ∈ l, nrm x ≤ norm1 t l := by
  unfold norm1
  induction l generalizing t with
  | nil => exact ⟨Int.le_refl _, fun x h => by simp at h⟩
  | cons a r ih =>
    obtain ⟨h1, h2⟩ := ih (max t (nrm a))
    refine ⟨by rw [List.foldl_cons]; omega, fun x hx => ?_⟩
    rw [List.foldl_cons]
    rcases List.mem_cons.1 hx with rfl | hx
    · omega
    · exact h2 x hx
theorem normL_ge (ls : List (List Int)) (t : Int) : t ≤ ls.foldl norm1 t ∧ ∀ l ∈ ls, ∀ x ∈ l, nrm x ≤ ls.foldl norm1 t := by
  induction ls generalizing t with
  | nil => exact ⟨Int.le_refl _, fun x h => by simp at h⟩
  | cons a r ih =>
    obtain ⟨h1, h2⟩ := ih (norm1 t a)
    obtain ⟨h3, h4⟩ := norm1_ge a t
    refine ⟨by rw [List.foldl_cons]; omega, fun l hl x hx => ?_⟩
    rw [List.foldl_cons]
    rcases List.mem_cons.1 hl with rfl | hl
    · have := h4 x hx; omega
    · exact h2 l hl x hx
theorem lays_of_norm {g : Nat} (hg : g ≤ 524288) {Z : List (List Int)} (hp : Pos Z) (h : normL Z < (g : Int)) : Lays (g - 1) g Z := by
  refine ⟨hp, fun f hf x hx => ?_⟩
  have h1 := (normL_ge Z 0).2 f hf x hx
  have h2 := (hp f hf).rng x hx
  change nrm x ≤ normL Z at h1
  unfold nrm at h1
  omega
theorem near_flat_len (a b : Nat) (fs : List (List Int)) (hp : Pos fs) : (fs.flatMap (nearP a b)).length = 32 * blen (a + b) * fs.length := by
  induction fs with
  | nil => simp
  | cons f r ih =>
    rw [List.flatMap_cons, List.length_append, ih fun l hl => hp l (by simp [hl]), length_nearP a b (hp f (by simp)).len, List.length_cons, Nat.mul_add]
    omega
theorem flat_near_succ (a b : Nat) (ls : List (List Int)) (i : Nat) (h : i < ls.length) : (ls.take (i + 1)).flatMap (nearP a b) = (ls.take i).flatMap (nearP a b) ++ nearP a b (ls.getD i []) := by
  rw [take_succ_getD _ _ h [], List.flatMap_append]; simp
theorem low1_take (g m : Int) (f : List Int) (i : Nat) (h : i < f.length) : low1 g m (f.take (i + 1)) = max (max (low1 g m (f.take i)) (prtL g (f.getD i 0))) (0 - prtL g (f.getD i 0)) := foldl_take_succ _ _ _ _ h 0
theorem lowN_take (g : Int) (X : List (List Int)) (i : Nat) (h : i < X.length) : lowN g (X.take (i + 1)) = low1 g (lowN g (X.take i)) (X.getD i []) := foldl_take_succ _ _ _ _ h []
theorem high_len (g : Int) {HI : List (List Int)} (h : ∀ f ∈ HI, f.length = 256) : (highB g HI).length = 32 * hiW g * HI.length := by
  unfold highB
  induction HI with
  | nil => simp
  | cons f r ih =>
    rw [List.flatMap_cons, List.length_append, ih fun l hl => h l (by simp [hl]), length_packL, h f (by simp), List.length_cons, Nat.mul_add]
    omega
/-- a turn's bytes -/
def sigB (s : LayS) (CH : List B8) (Z H : List (List Int)) : List B8 := CH ++ Z.flatMap (nearP (s.g1 - 1) s.g1) ++ hintB s H
theorem ballC_of {set : Int} (hs : isSet set = true) : ballC set (layS set).c = 0 := by
  unfold ballC; rw [if_pos hs, if_pos rfl]
theorem yL_succ (set : Int) (r : List B8) (n i : Nat) : yL set r n (i + 1) = yL set r n i ++ [maskL set r ((n + i : Nat) : Int)] := range_succ_map _ _
/-- what a turn computes, name by name -/
structure TurnV (set : Int) (s : LayS) (A : List (List (List Int))) (s1 s2 t0 : List (List Int)) (mu rho3 : List B8) (n : Nat) (Y W : List (List Int)) (CH : List B8) (B : List Int) (Z X T HH : List (List Int)) : Prop where
  y : Y = yL set rho3 n s.l
  w : W = applyL A Y
  ch : CH = spOut 136 31 (mu ++ highB s.g2 (mappedL (prtH s.g2) W)) (s.c : Int)
  b : B = ballL set CH
  z : Z = plusL Y (scaledL B s1)
  x : X = lessL W (scaledL B s2)
  t : T = scaledL B t0
  h : HH = hntsL s.g2 X T
theorem sign_turn_ok (set : Int) (his : isSet set = true) (s : LayS) (hs : s = layS set) (c0 c1 c2 c3 c4 c5 ym xmu xr : SlV) (A : List (List (List Int))) (s1 s2 t0 : List (List Int)) (mu rho3 : List B8) (n : Nat) (hn : n ≤ 60000)
    (l1 : s1.length = s.l) (l2 : s2.length = s.k) (l0 : t0.length = s.k) (p1 : Pos s1) (p2 : Pos s2) (p0 : Pos t0) (hA : A.length = s.k) (hrows : ∀ r ∈ A, r.length = s.l ∧ Pos r) (hmu : mu.length = 64) (hr3 : rho3.length = 64)
    {Y W : List (List Int)} {CH : List B8} {B : List Int} {Z X T HH : List (List Int)} (V : TurnV set s A s1 s2 t0 mu rho3 n Y W CH B Z X T HH)
    (w : World) (ka : Mat w ym A) (km : Bytes w xmu mu) (kr : Bytes w xr rho3) (k1 : Pols w c3 s1) (k2 : Pols w c4 s2) (k0 : Pols w c5 t0) :
    Ok Pr f_sign_secret_turn [.agg ⟨cs_sign_secret c0 c1 c2 c3 c4 c5⟩, .int .i64 set, .slice ym.a ym.n ym.c, .slice xmu.a xmu.n xmu.c, .slice xr.a xr.n xr.c, .int .i64 (n : Int)] w fun v w' =>
      ∃ y : SlV, v = .tuple ⟨[.slice y.a y.n y.c, .bool (okT s Z X T HH)]⟩ ∧ (okT s Z X T HH = true → Own w' w.heap.size t_uint8 1 y (u8s (sigB s CH Z HH))) ∧ Mod [] w w' := by
  obtain ⟨vy, vw, vch, vb, vz, vx, vt, vh⟩ := V
  refine V_sign_secret_turn_of ?_
  unfold V_sign_secret_turn
  rw [zc_lSet]
  have hG := goodS his
  have hX := goodX his
  rw [← hs] at hG hX
  have hk8 := hG.k
  have hl7 := hG.l
  have hl0 := hG.l0
  have hc64 := hG.c
  refine (Mine.start w).nw fun p w1 H _ => call_of (lay_Of_ok set w1) ?_
  rintro _ w2 ⟨rfl, m2⟩
  have H := H.frame m2
  rw [his, ← hs]
  have bC : ballC set s.c = 0 := by rw [hs]; exact ballC_of his
  refine ⟨_, rfl, as_lSet ⟨_, rfl, rfl, H.nw fun q w3 H _ => H.sT_lay_Set 1 rfl rfl fun w4 H => H.ldI 1 rfl (ad1 q 1) rfl ?_⟩⟩
  have H : Mine w [] w4 [.blk p (cs_sign_secret c0 c1 c2 c3 c4 c5) t_sign_secret, .blk q s.cells t_lay_Set] := H
  have pY : Pos Y := by rw [vy]; exact yL_pos his hr3 (by omega)
  have nY : Y.length = s.l := by rw [vy]; unfold yL; simp
  refine loop2_up 0 s.l (fun i (y : SlV) w' => Col Nums t_s_int w4 [] [] w' y (yL set rho3 n i)) rfl (by omega) (Col.start (Mine.start w4)) ?_ ?_
  · intro again i y w5 _ hi C hag
    refine ite_true (decide_eq_true (by omega)) ⟨⟨by omega, by omega⟩, ?_⟩
    rw [show (n : Int) + (i : Int) = ((n + i : Nat) : Int) by omega]
    refine call_of (sift_Mask_all set xr rho3 _ _ ((kr.mod0 H.mod).mod0 C.mod)) ?_
    rintro _ w6 ⟨f, er, rfl, hf, he, -, m6⟩
    refine ⟨_, rfl, f, rfl, rfl, C.add (l := maskL set rho3 ((n + i : Nat) : Int)) (Boxed.of_own hf m6 fun w2 h => h.nums) elt_vec (by unfold yL; rw [List.length_map, List.length_range]; omega) fun y' w7 C => ⟨⟨by omega, by omega⟩, hag y' w7 ?_⟩⟩
    rw [yL_succ]
    exact C
  · intro again y w5 C
    rw [← vy] at C
    obtain ⟨fy, H⟩ := H.gotBox (C.boxed.mono fun w h => vec_pols h)
    refine ite_false (decide_eq_false (by omega)) ?_
    refine call_of (sign_apply_ok ym y A Y (by omega) (by omega) (by omega) (fun r h => by rw [nY]; exact hrows r h) pY _ (ka.mod0 H.mod) (H.box 2 rfl)) ?_
    rintro _ w6 ⟨yw, rfl, hyw⟩
    rw [← vw] at hyw
    obtain ⟨fw, H⟩ := H.gotBox hyw
    have pW : Pos W := by rw [vw]; exact applyL_pos _ _
    have nW : W.length = s.k := by rw [vw]; unfold applyL; rw [List.length_map, hA]
    have h7 : w6.cell? (Addr.add ⟨q, 0, none⟩ 7) = some (.int .i64 s.g2) := by rw [ad1, (H.blk 1 rfl).cell]; rfl
    refine asSl_s (call_of (sign_mapped_ok _ _ (prtH s.g2) yw W (by omega) (fun l h => by have := (pW l h).len; omega) _ (H.box 3 rfl) (turn_1_tells hX.g2 h7)) ?_)
    rintro _ w7 ⟨yh, rfl, hyh⟩
    obtain ⟨fh, H⟩ := H.gotBox hyh
    have bH : Below (mOf s.g2) (mappedL (prtH s.g2) W) := by
      refine eachL_all (p := fun f => f.length = 256 ∧ ∀ x ∈ f, 0 ≤ x ∧ x < mOf s.g2) fun i hi => ⟨by rw [List.length_map]; exact (pW.get hi).len, fun x hx => ?_⟩
      obtain ⟨z, _, rfl⟩ := List.mem_map.1 hx
      have := prt_rng (x := z) hX.g2
      omega
    have nH : (mappedL (prtH s.g2) W).length = s.k := (length_eachL _ _).trans nW
    have hbl : (highB s.g2 (mappedL (prtH s.g2) W)).length ≤ 1000000 := by
      have hw := hiW_blen hX.g2
      obtain ⟨_, _, _, _, _, hw⟩ := hw
      rw [high_len _ fun f hf => (bH f hf).1, nH]
      have : 32 * hiW s.g2 * s.k ≤ 32 * hiW s.g2 * 8 := Nat.mul_le_mul_left _ hk8
      omega
    generalize mappedL (prtH s.g2) W = HI at *
    refine asSl_s (call_of (lay_High_ok set his yh HI (by rw [← hs]; exact nH) (by rw [← hs]; exact bH) _ (H.box 4 rfl)) ?_)
    rintro _ w8 ⟨yb, rfl, hyb, m8⟩
    rw [← hs] at hyb
    have H := H.got m8 hyb
    generalize highB s.g2 HI = HB at *
    refine ⟨_, rfl, yb, rfl, rfl, H.ldI 1 rfl (ad1 q 8) rfl (H.nw fun p3 w9 H _ => ?_)⟩
    refine call_of (sponge_Shake256_ok _ ⟨some ⟨p3, 0, none⟩, 2, 2⟩ [mu, HB] _ (Parts.of2b (H.blk 6 rfl) (by simp) (km.mod0 H.mod) (off_nil _) (H.bytes 5 rfl) (off_nil _)) (small2b rfl (by omega) hbl)) ?_
    rintro _ w10 ⟨yc, rfl, hyc, m10⟩
    rw [show [mu, HB].flatten = mu ++ HB by simp, ← vch] at hyc
    have H := H.got m10 hyc
    have nC : CH.length = s.c := by rw [vch]; exact spOut_len 136 31 _ _ (by omega)
    refine asSl_s (call_of (sift_Ball_all set yc CH _ (H.bytes 7 rfl)) ?_)
    rintro _ w11 ⟨yB, eB, rfl, hyB, -, -, m11⟩
    rw [← vb] at hyB
    have H := H.got m11 hyB
    have pB : Po B := by rw [vb]; exact (ballL_okay (by rw [nC]; exact bC)).1
    have ns1 : (scaledL B s1).length = s.l := (length_eachL _ _).trans l1
    have ns2 : (scaledL B s2).length = s.k := (length_eachL _ _).trans l2
    have H : Mine w [] w11 [.blk p (cs_sign_secret c0 c1 c2 c3 c4 c5) t_sign_secret, .blk q s.cells t_lay_Set, .box fy fun w => Pols w y Y, .box fw fun w => Pols w yw W, .box fh fun w => Pols w yh HI, .row t_uint8 1 yb (u8s HB), .blk p3 [.slice xmu.a xmu.n xmu.c, .slice yb.a yb.n yb.c] t_s_uint8, .row t_uint8 1 yc (u8s CH), .row t_int 1 yB (i64s B)] := H
    refine ⟨_, rfl, yB, rfl, rfl, H.ldL 0 rfl (ad1 p 3) rfl (call_of (sign_scaled_ok yB c3 B s1 (by omega) pB p1 _ (H.nums 8 rfl) (k1.mod0 H.mod)) ?_)⟩
    rintro _ w12 ⟨ys, rfl, hys⟩
    obtain ⟨f9, H⟩ := H.gotBox hys
    refine asSl_s (call_of (sign_plus_ok y ys Y (scaledL B s1) (by omega) (by omega) pY (scaledL_pos _ _) _ (H.box 2 rfl) (H.box 9 rfl)) ?_)
    rintro _ w13 ⟨yz, rfl, hyz⟩
    have pZ : Pos Z := by rw [vz]; exact plusL_pos _ _
    have nZ : Z.length = s.l := by rw [vz]; exact (length_eachL _ _).trans nY
    change Boxed _ _ (fun w => Pols w yz (plusL Y (scaledL B s1))) at hyz
    rw [← vz] at hyz
    obtain ⟨f10, H⟩ := H.gotBox hyz
    refine asSl_s (H.ldL 0 rfl (ad1 p 4) rfl (call_of (sign_scaled_ok yB c4 B s2 (by omega) pB p2 _ (H.nums 8 rfl) (k2.mod0 H.mod)) ?_))
    rintro _ w14 ⟨ys2, rfl, hys2⟩
    obtain ⟨f11, H⟩ := H.gotBox hys2
    refine asSl_s (call_of (sign_less_ok yw ys2 W (scaledL B s2) (by omega) (by omega) pW (scaledL_pos _ _) _ (H.box 3 rfl) (H.box 11 rfl)) ?_)
    rintro _ w15 ⟨yx, rfl, hyx⟩
    rw [← vx] at hyx
    have pX : Pos X := by rw [vx]; exact lessL_pos _ _
    have nX : X.length = s.k := by rw [vx]; exact (length_eachL _ _).trans nW
    obtain ⟨f12, H⟩ := H.gotBox hyx
    refine asSl_s (H.ldL 0 rfl (ad1 p 5) rfl (call_of (sign_scaled_ok yB c5 B t0 (by omega) pB p0 _ (H.nums 8 rfl) (k0.mod0 H.mod)) ?_))
    rintro _ w16 ⟨yt, rfl, hyt⟩
    rw [← vt] at hyt
    have pT : Pos T := by rw [vt]; exact scaledL_pos _ _
    have nT : T.length = s.k := by rw [vt]; exact (length_eachL _ _).trans l0
    obtain ⟨f13, H⟩ := H.gotBox hyt
    refine asSl_s (H.nw fun p4 w17 H _ => H.st 14 (i := 0) rfl rfl (Nat.lt_succ_self 0) rfl fun w18 H => ?_)
    have H : Mine w [] w18 [.blk p (cs_sign_secret c0 c1 c2 c3 c4 c5) t_sign_secret, .blk q s.cells t_lay_Set, .box fy fun w => Pols w y Y, .box fw fun w => Pols w yw W, .box fh fun w => Pols w yh HI, .row t_uint8 1 yb (u8s HB), .blk p3 [.slice xmu.a xmu.n xmu.c, .slice yb.a yb.n yb.c] t_s_uint8, .row t_uint8 1 yc (u8s CH), .row t_int 1 yB (i64s B), .box f9 fun w => Pols w ys (scaledL B s1), .box f10 fun w => Pols w yz Z, .box f11 fun w => Pols w ys2 (scaledL B s2), .box f12 fun w => Pols w yx X, .box f13 fun w => Pols w yt T, .blk p4 [.slice yt.a yt.n yt.c] t_s_s_int] := H
    have hOK : okT s Z X T HH = (decide (normL Z < (s.g1 : Int) - s.beta) && (decide (lowN s.g2 X < (s.g2 : Int) - s.beta) && (decide (normL T < (s.g2 : Int)) && decide (hintC s HH = 0)))) := rfl
    have hSig : sigB s CH Z HH = CH ++ Z.flatMap (nearP (s.g1 - 1) s.g1) ++ hintB s HH := rfl
    generalize okT s Z X T HH = OK at *
    generalize sigB s CH Z HH = SIG at *
    have fin0 : ∀ {w' : World}, Mod [] w w' → OK = false → ∃ y : SlV, (Value.tuple ⟨[.slice none 0 0, .bool false]⟩) = .tuple ⟨[.slice y.a y.n y.c, .bool OK]⟩ ∧ (OK = true → Own w' w.heap.size t_uint8 1 y (u8s SIG)) ∧ Mod [] w w' := fun m h => ⟨⟨none, 0, 0⟩, by rw [h], fun h2 => absurd (h.symm.trans h2) (by decide), m⟩
    have hg0 : 0 < (s.g2 : Int) ∧ (s.g2 : Int) ≤ 261888 := by rcases hX.g2 with h | h <;> omega
    have hg1 : s.g1 ≤ 524288 ∧ 1 ≤ s.g1 := by rcases hX.g1 with h | h <;> omega
    have hbeta := hX.beta
    refine loop2_up 0 X.length (fun i (low : Int) w' => low = lowN s.g2 (X.take i) ∧ Mod [] w18 w') rfl (by omega) ⟨rfl, Mod.refl _ _⟩ ?_ ?_
    · rintro again1 i _ w19 _ hi ⟨rfl, m19⟩ hag1
      have hXn := (H.box 12 rfl : Pols w18 yx X).len
      have hpx := pX.get hi
      have hpl := hpx.len
      rw [lowN_take _ _ _ hi] at hag1
      generalize lowN s.g2 (X.take i) = L0 at *
      refine ite_true (decide_eq_true (by omega)) ((H.box 12 rfl : Pols w18 yx X).ldm m19 (i := i) hi rfl fun f hf => ?_)
      have hfn := hf.len
      refine loop2_up 0 (X.getD i []).length (fun j (low : Int) w' => low = low1 s.g2 L0 ((X.getD i []).take j) ∧ Mod [] w18 w') rfl (by omega) ⟨rfl, m19⟩ ?_ ?_
      · rintro again2 j _ w20 _ hj ⟨rfl, m20⟩ hag2
        have H2 := H.frame m20
        rw [low1_take _ _ _ _ hj] at hag2
        generalize low1 s.g2 L0 ((X.getD i []).take j) = L1 at *
        have hpr := prt_rng (x := (X.getD i []).getD j 0) hX.g2
        refine ite_true (decide_eq_true (by omega)) ((hf.mod0 m20).ld (i := j) hj rfl (H2.ldI 1 rfl (ad1 q 7) rfl (call_of (round_Part_ok _ _ hX.g2 w20) ?_)))
        rintro _ w21 ⟨rfl, hw⟩
        subst hw
        exact ⟨_, rfl, _, rfl, _, rfl, rfl, ⟨by omega, by omega⟩, lt_in ⟨⟨by omega, by omega⟩, hag2 _ _ ⟨rfl, m20⟩⟩⟩
      · rintro again2 _ w20 ⟨rfl, m20⟩
        rw [List.take_of_length_le (Nat.le_refl _)]
        exact ite_false (decide_eq_false (by omega)) ⟨⟨by omega, by omega⟩, hag1 _ w20 ⟨rfl, m20⟩⟩
    · rintro again1 _ w19 ⟨rfl, m19⟩
      rw [List.take_of_length_le (Nat.le_refl _)]
      have hXn := (H.box 12 rfl : Pols w18 yx X).len
      refine ite_false (decide_eq_false (by omega)) ?_
      have H := (H.frame m19).drew
      generalize lowN s.g2 X = LOW at *
      refine join0_of fun go hgo => join1_of fun go1 hgo1 => ?_
      have rest : ∀ w', Mod [] w19.drew w' → normL Z < (s.g1 : Int) - s.beta → LOW < (s.g2 : Int) - s.beta → normL T < (s.g2 : Int) → go w' := by
        intro w20 m20 hZ hL hT
        refine hgo w20 ?_
        have H := H.frame m20
        rw [decide_eq_true hZ, decide_eq_true hL, decide_eq_true hT, Bool.true_and, Bool.true_and, Bool.true_and] at hOK
        have h7 : w20.cell? (Addr.add ⟨q, 0, none⟩ 7) = some (.int .i64 s.g2) := by rw [ad1, (H.blk 1 rfl).cell]; rfl
        have h4 : w20.cell? ⟨p4, 0, none⟩ = some (.slice yt.a yt.n yt.c) := H.cell 14 rfl rfl rfl
        refine call_of (sign_each_ok _ (fun r f => hntF s.g2 (T.getD r []) f) yx X (by omega) w20 (H.box 12 rfl) fun i y w' hi m hy => turn_2_tells hX.g2 h7 h4 (H.box 13 rfl) pT pX (by omega) i y w' hi m hy) ?_
        rintro _ w21 ⟨yo, rfl, hyo⟩
        have nH2 : HH.length = s.k := by rw [vh]; exact (length_eachL _ _).trans nX
        have bH2 : Below 2 HH := by rw [vh]; exact hnts_below pX
        change Boxed _ _ (fun w => Pols w yo (hntsL s.g2 X T)) at hyo
        rw [← vh] at hyo
        obtain ⟨f15, H⟩ := H.gotBox hyo
        refine asSl_s (call_of (lay_Hints_ok set his yo HH (by rw [← hs]; exact nH2) bH2 _ (H.box 15 rfl)) ?_)
        rw [← hs]
        rintro _ w22 ⟨yq, er, rfl, hyq, he, hno, m22⟩
        have H := H.got2 m22 hyq he hno
        have hR : hintR s HH = if hintC s HH = 0 then hintB s HH else [] := rfl
        refine ⟨_, rfl, yq, rfl, rfl, (H.err 17 rfl).isNil ?_⟩
        by_cases h0 : hintC s HH = 0
        · rw [decide_eq_true h0] at hOK ⊢
          rw [if_pos h0] at hR
          rw [hR] at H
          have hhl : (hintB s HH).length ≤ 1000 := by
            unfold hintB
            have e : (plc HH HH.length).length ≤ s.omega := by
              by_cases h : (plc HH HH.length).length ≤ s.omega
              · exact h
              · unfold hintC at h0; rw [if_neg h] at h0; exact absurd h0 (by decide)
            have := hX.omega
            rw [List.length_append, List.length_append, List.length_replicate]
            unfold endsL
            rw [List.length_map, List.length_range]
            omega
          generalize hintB s HH = HB2 at *
          refine ite_false rfl (call_of (slices_Clone_byte_byte_ok yc CH (by omega) w22 (H.bytes 7 rfl)) ?_)
          rintro _ w23 ⟨yo2, rfl, hyo2, m23⟩
          have H22 := H
          have D := (Mine.start w22).got m23 hyo2
          have hLy := lays_of_norm hg1.1 pZ (by omega)
          have h20 : blen (s.g1 - 1 + s.g1) ≤ 24 := blen_le24 _ (by omega)
          have hfl := fun i => near_flat_len (s.g1 - 1) s.g1 (Z.take i) fun l h => pZ l (List.mem_of_mem_take h)
          refine asSl_s (loop2_up 0 Z.length (fun i (out : SlV) w' => Mine w22 [] w' [.row t_uint8 1 out (u8s (CH ++ (Z.take i).flatMap (nearP (s.g1 - 1) s.g1)))]) rfl (by omega) (by simpa using D) ?_ ?_)
          · intro again i out w24 _ hi D hag
            have H := H.frame D.mod
            have hzl := (H.box 10 rfl : Pols w24 yz Z).len
            refine ite_true (decide_eq_true (by omega)) ((H.box 10 rfl : Pols w24 yz Z).ld (i := i) hi rfl fun f hf => H.ldI 1 rfl (ad1 q 6) rfl ⟨⟨by omega, by omega⟩, H.ldI 1 rfl (ad1 q 6) rfl ?_⟩)
            rw [show (s.g1 : Int) - 1 = ((s.g1 - 1 : Nat) : Int) by omega]
            refine near_step (by omega) (by omega) (by omega) (pZ.get hi) (hLy.rng _ (mem_getD hi [])) D hf ?_ fun out' w25 D => ⟨⟨by omega, by omega⟩, hag out' w25 ?_⟩
            · have h1 := hfl i
              have h2 : (Z.take i).length ≤ 7 := by rw [List.length_take]; omega
              have h3 : 32 * blen (s.g1 - 1 + s.g1) * (Z.take i).length ≤ 32 * blen (s.g1 - 1 + s.g1) * 7 := Nat.mul_le_mul_left _ h2
              rw [List.length_append]
              omega
            · rw [flat_near_succ _ _ _ _ hi, ← List.append_assoc]
              exact D
          · intro again out w24 D
            rw [List.take_of_length_le (Nat.le_refl _)] at D
            have H := H.frame D.mod
            have hzl := (H.box 10 rfl : Pols w24 yz Z).len
            have hol := (D.bytes 0 rfl).len
            have hql := (H.bytes 16 rfl).len
            have h1 := hfl Z.length
            rw [List.take_of_length_le (Nat.le_refl _), nZ] at h1
            have h3 : 32 * blen (s.g1 - 1 + s.g1) * s.l ≤ 32 * blen (s.g1 - 1 + s.g1) * 7 := Nat.mul_le_mul_left _ hl7
            rw [List.length_append, h1] at hol
            refine ite_false (decide_eq_false (by omega)) (D.app8 0 elt_u8 rfl (H.bytes 16 rfl) (by omega) fun out' w25 D2 _ => ?_)
            have F := H22.got D2.mod (D2.fresh0 0 rfl)
            rw [← hSig] at F
            exact ⟨out', by rw [hOK], fun _ => F.fresh0 18 rfl, F.mod⟩
        · rw [decide_eq_false h0] at hOK ⊢
          exact ite_true rfl (fin0 H.mod hOK)
      refine H.ldI 1 rfl (ad1 q 6) rfl (H.ldI 1 rfl (ad1 q 4) rfl ⟨⟨by omega, by omega⟩, call_of (wave_Norm_ok yz Z (by omega) pZ _ (H.box 10 rfl)) ?_⟩)
      rintro _ w20 ⟨rfl, m20⟩
      have H1 := H.frame m20
      refine asI_i ⟨keptB (H.blk 1 rfl) (H1.blk 1 rfl) (add_block _ _), keptB (H.blk 1 rfl) (H1.blk 1 rfl) (add_block _ _), H1.ldI 1 rfl (ad1 q 7) rfl (H1.ldI 1 rfl (ad1 q 4) rfl (H1.ldL 14 rfl rfl rfl (H1.ldI 1 rfl (ad1 q 7) rfl ?_)))⟩
      rw [wrap_i64 (by omega) (by omega)]
      refine ite_intro (fun hc => ?_) (fun hc => ?_)
      · refine ⟨keptB (H1.blk 1 rfl) (H1.blk 1 rfl) (add_block _ _), hgo1 _ _ (ite_true rfl (fin0 H1.mod ?_))⟩
        rw [hOK]
        rw [Bool.or_eq_true, decide_eq_true_eq, decide_eq_true_eq] at hc
        rcases hc with hc | hc
        · rw [decide_eq_false (show ¬ normL Z < (s.g1 : Int) - s.beta by omega)]; rfl
        · rw [decide_eq_false (show ¬ LOW < (s.g2 : Int) - s.beta by omega), Bool.false_and, Bool.and_false]
      · rw [Bool.or_eq_false_iff, decide_eq_false_iff_not, decide_eq_false_iff_not] at hc
        refine call_of (wave_Norm_ok yt T (by omega) pT _ (H1.box 13 rfl)) ?_
        rintro _ w21 ⟨rfl, m21⟩
        have H2 := H1.frame m21
        refine asI_i ⟨keptB (H1.blk 1 rfl) (H2.blk 1 rfl) (add_block _ _), hgo1 _ _ (ite_intro (fun h => fin0 H2.mod ?_) (fun h => rest w21 (m20.trans m21) (by omega) (by omega) ?_))⟩
        · rw [hOK, decide_eq_false (show ¬ normL T < (s.g2 : Int) by have := of_decide_eq_true h; omega), Bool.false_and, Bool.and_false, Bool.and_false]
        · have := of_decide_eq_false h; omega
end Go.Proofs.YtdnhoebcomffoaaGreatDoor
end
section
set_option linter.unusedVariables false
set_option linter.unusedSimpArgs false
/- HINTS that were laid may be read. -/
namespace Go.Proofs.YtdnhoebcomffoaaGreatDoor
open Go Go.Ev
set_option maxRecDepth 20000
set_option linter.unusedVariables false
theorem onesTo_up (f : List Int) (n : Nat) (hn : n ≤ 256) : (∀ x ∈ onesTo f n, x.toNat < n) ∧ (onesTo f n).Pairwise fun a b => a.toNat < b.toNat := by
  induction n with
  | zero => exact ⟨fun x h => by simp [onesTo] at h, by simp [onesTo]⟩
  | succ n ih =>
    obtain ⟨h1, h2⟩ := ih (by omega)
    rw [onesTo_succ]
    have hb : (BitVec.ofNat 8 n : B8).toNat = n := by rw [BitVec.toNat_ofNat]; exact Nat.mod_eq_of_lt (by omega)
    split
    · refine ⟨fun x hx => ?_, ?_⟩
      · rcases List.mem_append.1 hx with h | h
        · have := h1 x h; omega
        · rw [List.mem_singleton.1 h, hb]; omega
      · rw [List.pairwise_append]
        refine ⟨h2, List.pairwise_singleton _ _, fun a ha b hb2 => ?_⟩
        rw [List.mem_singleton.1 hb2, hb]
        exact h1 a ha
    · rw [List.append_nil]
      exact ⟨fun x h => by have := h1 x h; omega, h2⟩
theorem plc_pre (fs : List (List Int)) {i j : Nat} (h : i ≤ j) : ∃ r, plc fs j = plc fs i ++ r := by
  induction j with
  | zero => rw [Nat.le_zero.1 h]; exact ⟨[], by simp⟩
  | succ j ih =>
    rcases Nat.lt_or_ge j i with h1 | h1
    · rw [show i = j + 1 by omega]; exact ⟨[], by simp⟩
    · obtain ⟨r, hr⟩ := ih h1
      exact ⟨r ++ onesTo (fs.getD j []) 256, by rw [plc_succ, hr, List.append_assoc]⟩
theorem getD_app_l {A : Type} (l m : List A) (d : A) {i : Nat} (h : i < l.length) : (l ++ m).getD i d = l.getD i d := by
  rw [List.getD_eq_getElem?_getD, List.getElem?_append_left h, ← List.getD_eq_getElem?_getD]
theorem getD_app_r {A : Type} (l m : List A) (d : A) (i : Nat) : (l ++ m).getD (l.length + i) d = m.getD i d := by
  rw [List.getD_eq_getElem?_getD, List.getElem?_append_right (by omega), Nat.add_sub_cancel_left, ← List.getD_eq_getElem?_getD]
theorem hint_good {s : LayS} {fs : List (List Int)} (hom : s.omega ≤ 80) (h : hintC s fs = 0) : uAll (hintB s fs) s.omega fs.length := by
  have hn : (plc fs fs.length).length ≤ s.omega := by
    by_cases h1 : (plc fs fs.length).length ≤ s.omega
    · exact h1
    · unfold hintC at h; rw [if_neg h1] at h; exact absurd h (by decide)
  have hmono : ∀ r, r ≤ fs.length → (plc fs r).length ≤ (plc fs fs.length).length := fun r hr => by
    obtain ⟨q, hq⟩ := plc_pre fs hr
    rw [hq, List.length_append]; omega
  have hB : hintB s fs = plc fs fs.length ++ (List.replicate (s.omega - (plc fs fs.length).length) 0 ++ endsL fs fs.length) := rfl
  have hat : ∀ r, r ≤ fs.length → uAt (hintB s fs) s.omega r = (plc fs r).length := fun r hr => by
    unfold uAt
    rcases Nat.eq_zero_or_pos r with h0 | h0
    · rw [if_pos h0, h0]; rfl
    · rw [if_neg (by omega)]
      have e : s.omega + (r - 1) = (plc fs fs.length ++ List.replicate (s.omega - (plc fs fs.length).length) (0 : B8)).length + (r - 1) := by
        rw [List.length_append, List.length_replicate]; omega
      rw [hB, ← List.append_assoc, e, getD_app_r]
      unfold endsL
      rw [List.getD_eq_getElem?_getD, List.getElem?_map, List.getElem?_range (by omega)]
      show (BitVec.ofNat 8 (min (plc fs (r - 1 + 1)).length 255) : B8).toNat = _
      rw [show r - 1 + 1 = r by omega, BitVec.toNat_ofNat]
      have := hmono r hr
      rw [show min (plc fs r).length 255 = (plc fs r).length by omega]
      exact Nat.mod_eq_of_lt (by omega)
  refine ⟨fun r hr => ?_, ?_⟩
  · have h1 := hat r (by omega)
    have h2 := hat (r + 1) (by omega)
    have h3 := hmono (r + 1) (by omega)
    have h4 := plc_succ fs r
    have h5 : (plc fs (r + 1)).length = (plc fs r).length + (onesTo (fs.getD r []) 256).length := by rw [h4, List.length_append]
    obtain ⟨q, hq⟩ := plc_pre fs (i := r + 1) (j := fs.length) (by omega)
    unfold uGood
    rw [h1, h2]
    refine ⟨by omega, by omega, fun m ha hm => ?_⟩
    have hget : ∀ j, (plc fs r).length ≤ j → j < (plc fs (r + 1)).length → (hintB s fs).getD j 0 = (onesTo (fs.getD r []) 256).getD (j - (plc fs r).length) 0 := fun j hj1 hj2 => by
      rw [hB, hq, List.append_assoc, getD_app_l _ _ _ hj2, h4]
      have := getD_app_r (plc fs r) (onesTo (fs.getD r []) 256) 0 (j - (plc fs r).length)
      rw [show (plc fs r).length + (j - (plc fs r).length) = j by omega] at this
      exact this
    rw [hget (m - 1) (by omega) (by omega), hget m (by omega) hm]
    have hp := (onesTo_up (fs.getD r []) 256 (by omega)).2
    clear hget h4
    generalize onesTo (fs.getD r []) 256 = O at *
    rw [List.pairwise_iff_getElem] at hp
    have := hp (m - 1 - (plc fs r).length) (m - (plc fs r).length) (by omega) (by omega) (by omega)
    rw [List.getD_eq_getElem?_getD, List.getD_eq_getElem?_getD, List.getElem?_eq_getElem (show m - 1 - (plc fs r).length < _ by omega), List.getElem?_eq_getElem (show m - (plc fs r).length < _ by omega)]
    exact this
  · rw [hat fs.length (Nat.le_refl _), hB, List.drop_left]
    rw [List.take_append_of_le_length (by rw [List.length_replicate]; omega), List.take_of_length_le (by rw [List.length_replicate]; omega)]
    rw [List.any_eq_false]
    intro x hx
    rw [List.eq_of_mem_replicate hx]
    decide
end Go.Proofs.YtdnhoebcomffoaaGreatDoor
end
section
set_option linter.unusedVariables false
set_option linter.unusedSimpArgs false
/- HINTS that were laid are read as they were. -/
namespace Go.Proofs.YtdnhoebcomffoaaGreatDoor
open Go Go.Ev
set_option maxRecDepth 20000
set_option linter.unusedVariables false
def setAll (l : List B8) : List Int := l.foldl (fun acc c => acc.set c.toNat 1) (List.replicate 256 0)
theorem setAll_snoc (l : List B8) (c : B8) : setAll (l ++ [c]) = (setAll l).set c.toNat 1 := by unfold setAll; rw [List.foldl_append, List.foldl_cons, List.foldl_nil]
theorem setAll_ones (f : List Int) (n : Nat) (hn : n ≤ 256) : setAll (onesTo f n) = (List.range 256).map fun j => if j < n ∧ f.getD j 0 = 1 then 1 else 0 := by
  induction n with
  | zero =>
    have e : onesTo f 0 = [] := rfl
    rw [e]
    unfold setAll
    rw [List.foldl_nil]
    refine List.ext_getElem (by rw [List.length_replicate, List.length_map, List.length_range]) fun i h1 h2 => ?_
    rw [List.getElem_replicate, List.getElem_map, if_neg fun h => absurd h.1 (Nat.not_lt_zero _)]
  | succ n ih =>
    rw [onesTo_succ]
    have ih := ih (by omega)
    split
    · rename_i h
      rw [setAll_snoc, ih, BitVec.toNat_ofNat, Nat.mod_eq_of_lt (by omega)]
      refine List.ext_getElem (by simp) fun i h1 h2 => ?_
      rw [List.getElem_set]
      simp only [List.getElem_map, List.getElem_range]
      by_cases hi : n = i
      · subst hi
        rw [if_pos rfl, if_pos ⟨by omega, h⟩]
      · rw [if_neg hi]
        by_cases hc : i < n ∧ f.getD i 0 = 1
        · rw [if_pos hc, if_pos ⟨by omega, hc.2⟩]
        · rw [if_neg hc, if_neg fun h2 => hc ⟨by omega, h2.2⟩]
    · rename_i h
      rw [List.append_nil, ih]
      refine List.map_congr_left fun i _ => ?_
      by_cases hc : i < n ∧ f.getD i 0 = 1
      · rw [if_pos hc, if_pos ⟨by omega, hc.2⟩]
      · rw [if_neg hc, if_neg fun h2 => hc ⟨?_, h2.2⟩]
        rcases Nat.lt_succ_iff_lt_or_eq.1 h2.1 with h3 | h3
        · exact h3
        · rw [h3] at h2; exact absurd h2.2 h
theorem setAll_bits {f : List Int} (hl : f.length = 256) (hf : ∀ x ∈ f, 0 ≤ x ∧ x < 2) : setAll (onesTo f 256) = f := by
  rw [setAll_ones f 256 (by omega)]
  refine List.ext_getElem (by simp [hl]) fun i h1 h2 => ?_
  simp only [List.getElem_map, List.getElem_range]
  have hg : f.getD i 0 = f[i] := by rw [List.getD_eq_getElem?_getD, List.getElem?_eq_getElem h2]; rfl
  have hr := hf f[i] (List.getElem_mem h2)
  rw [hg]
  split
  · rename_i h; exact h.2.symm
  · rename_i h
    have : ¬ f[i] = 1 := fun h3 => h ⟨by omega, h3⟩
    omega
theorem unF_seg (b : List B8) (a e : Nat) (l : List B8) (hl : l.length = e - a) (h : ∀ m, m < e - a → b.getD (a + m) 0 = l.getD m 0) : unF b a e = setAll l := by
  have hm : l = (List.range (e - a)).map fun m => b.getD (a + m) 0 := by
    refine List.ext_getElem (by simp [hl]) fun i h1 h2 => ?_
    simp only [List.getElem_map, List.getElem_range]
    rw [h i (by omega), List.getD_eq_getElem?_getD, List.getElem?_eq_getElem h1]; rfl
  unfold unF setAll
  rw [hm, List.foldl_map]
theorem hint_parts {s : LayS} {fs : List (List Int)} (hom : s.omega ≤ 80) (h : hintC s fs = 0) : (∀ r, r ≤ fs.length → uAt (hintB s fs) s.omega r = (plc fs r).length) ∧ ∀ r, r < fs.length → ∀ j, (plc fs r).length ≤ j → j < (plc fs (r + 1)).length → (hintB s fs).getD j 0 = (onesTo (fs.getD r []) 256).getD (j - (plc fs r).length) 0 := by
  have hn : (plc fs fs.length).length ≤ s.omega := by
    by_cases h1 : (plc fs fs.length).length ≤ s.omega
    · exact h1
    · unfold hintC at h; rw [if_neg h1] at h; exact absurd h (by decide)
  have hmono : ∀ r, r ≤ fs.length → (plc fs r).length ≤ (plc fs fs.length).length := fun r hr => by
    obtain ⟨q, hq⟩ := plc_pre fs hr
    rw [hq, List.length_append]; omega
  have hB : hintB s fs = plc fs fs.length ++ (List.replicate (s.omega - (plc fs fs.length).length) 0 ++ endsL fs fs.length) := rfl
  refine ⟨fun r hr => ?_, fun r hr j hj1 hj2 => ?_⟩
  · unfold uAt
    rcases Nat.eq_zero_or_pos r with h0 | h0
    · rw [if_pos h0, h0]; rfl
    · rw [if_neg (by omega)]
      have e : s.omega + (r - 1) = (plc fs fs.length ++ List.replicate (s.omega - (plc fs fs.length).length) (0 : B8)).length + (r - 1) := by
        rw [List.length_append, List.length_replicate]; omega
      rw [hB, ← List.append_assoc, e, getD_app_r]
      unfold endsL
      rw [List.getD_eq_getElem?_getD, List.getElem?_map, List.getElem?_range (by omega)]
      show (BitVec.ofNat 8 (min (plc fs (r - 1 + 1)).length 255) : B8).toNat = _
      rw [show r - 1 + 1 = r by omega, BitVec.toNat_ofNat]
      have := hmono r hr
      rw [show min (plc fs r).length 255 = (plc fs r).length by omega]
      exact Nat.mod_eq_of_lt (by omega)
  · obtain ⟨q, hq⟩ := plc_pre fs (i := r + 1) (j := fs.length) (by omega)
    have h4 := plc_succ fs r
    rw [hB, hq, List.append_assoc, getD_app_l _ _ _ hj2, h4]
    have := getD_app_r (plc fs r) (onesTo (fs.getD r []) 256) 0 (j - (plc fs r).length)
    rw [show (plc fs r).length + (j - (plc fs r).length) = j by omega] at this
    exact this
theorem hint_back {s : LayS} {fs : List (List Int)} (hom : s.omega ≤ 80) (h : hintC s fs = 0) (hb : Below 2 fs) : unL (hintB s fs) s.omega fs.length = fs := by
  obtain ⟨h1, h2⟩ := hint_parts hom h
  refine List.ext_getElem (by simp [unL]) fun r hr1 hr => ?_
  have e : (unL (hintB s fs) s.omega fs.length)[r] = unF (hintB s fs) (uAt (hintB s fs) s.omega r) (uAt (hintB s fs) s.omega (r + 1)) := by simp [unL]
  have hg : fs.getD r [] = fs[r] := by rw [List.getD_eq_getElem?_getD, List.getElem?_eq_getElem hr]; rfl
  rw [e, h1 r (by omega), h1 (r + 1) (by omega)]
  have h5 : (plc fs (r + 1)).length = (plc fs r).length + (onesTo (fs.getD r []) 256).length := by rw [plc_succ, List.length_append]
  rw [unF_seg _ _ _ (onesTo (fs.getD r []) 256) (by omega) fun m hm => ?_]
  · rw [hg]
    exact setAll_bits (hb _ (List.getElem_mem hr)).1 (hb _ (List.getElem_mem hr)).2
  · have := h2 r hr ((plc fs r).length + m) (by omega) (by omega)
    rw [this, Nat.add_sub_cancel_left]
end Go.Proofs.YtdnhoebcomffoaaGreatDoor
end
section
set_option linter.unusedVariables false
set_option linter.unusedSimpArgs false
/- WHY WHAT WAS SIGNED IS TAKEN: number by number. -/
namespace Go.Proofs.YtdnhoebcomffoaaGreatDoor
open Go Go.Ev
set_option maxRecDepth 20000
set_option linter.unusedVariables false
theorem low1_ge (g : Int) (f : List Int) (m : Int) : m ≤ low1 g m f ∧ ∀ v ∈ f, prtL g v ≤ low1 g m f ∧ -(prtL g v) ≤ low1 g m f := by
  unfold low1
  induction f generalizing m with
  | nil => exact ⟨Int.le_refl _, fun x h => by simp at h⟩
  | cons a r ih =>
    obtain ⟨h1, h2⟩ := ih (max (max m (prtL g a)) (0 - prtL g a))
    refine ⟨by rw [List.foldl_cons]; omega, fun x hx => ?_⟩
    rw [List.foldl_cons]
    rcases List.mem_cons.1 hx with rfl | hx
    · omega
    · exact h2 x hx
theorem lowN_ge (g : Int) (X : List (List Int)) (m : Int) : m ≤ X.foldl (low1 g) m ∧ ∀ f ∈ X, ∀ v ∈ f, prtL g v ≤ X.foldl (low1 g) m ∧ -(prtL g v) ≤ X.foldl (low1 g) m := by
  induction X generalizing m with
  | nil => exact ⟨Int.le_refl _, fun x h => by simp at h⟩
  | cons a r ih =>
    obtain ⟨h1, h2⟩ := ih (low1 g m a)
    obtain ⟨h3, h4⟩ := low1_ge g a m
    refine ⟨by rw [List.foldl_cons]; omega, fun f hf v hv => ?_⟩
    rw [List.foldl_cons]
    rcases List.mem_cons.1 hf with rfl | hf
    · have := h4 v hv; omega
    · exact h2 f hf v hv
/-- a number's high part and its low one -/
theorem spl_sum (x : Int) : (splH x * 8192 + splL x % 8380417) % 8380417 = x % 8380417 ∧ 0 ≤ splH x * 8192 ∧ splH x * 8192 < 8380417 := by
  obtain ⟨h1, h2, h3, h4⟩ := splL_rng x
  unfold splH
  have : 0 ≤ x % 8380417 ∧ x % 8380417 < 8380417 := by omega
  generalize x % 8380417 = r at *
  generalize splL x = l at *
  omega
theorem use_one {g b w s t : Int} (hg : GG g) (hb : 0 ≤ b ∧ b < g) (hs : nrm s ≤ b) (ht : nrm t < g) (hl : prtL g ((w - s) % 8380417) < g - b ∧ -(prtL g ((w - s) % 8380417)) < g - b) :
    use g (hnt g (0 - t) ((w - s) % 8380417 + t)) (((w - s) % 8380417 + t) % 8380417) = prtH g w := by
  rw [use_mod g _ _ ((w - s) % 8380417 + t) (by omega), use_hnt hg ht]
  exact (high_near hg hb hs (y := w) (by omega) ⟨by omega, hl.1⟩).symm
/-- what is made out of hints, poly by poly -/
def useL (g : Int) (HH W : List (List Int)) : List (List Int) := eachL (fun r f => (List.range f.length).map fun i => use g ((HH.getD r []).getD i 0) (f.getD i 0)) W
theorem getD_map_range {f : Nat → Int} {n i : Nat} (h : i < n) : ((List.range n).map f).getD i 0 = f i := by
  rw [List.getD_eq_getElem?_getD, List.getElem?_map, List.getElem?_range h]; rfl
theorem eachL_ext {F G : Nat → List Int → List Int} {fs gs : List (List Int)} (hl : fs.length = gs.length) (h : ∀ r, r < fs.length → F r (fs.getD r []) = G r (gs.getD r [])) : eachL F fs = eachL G gs := by
  unfold eachL
  rw [← hl]
  exact List.map_congr_left fun r hr => h r (List.mem_range.1 hr)
theorem taken_rows {g beta : Int} (hg : GG g) (hbeta : 0 ≤ beta ∧ beta < g) (A : List (List (List Int))) (Y s1 s2 T1 t0 : List (List Int)) (b : List Int) (hr : ∀ r ∈ A, r.length = Y.length) (h1 : s1.length = Y.length) (h2 : s2.length = A.length) (hT : T1.length = A.length) (h0 : t0.length = A.length)
    (ht : ∀ r, r < A.length → (plusL (applyL A s1) s2).getD r [] = addP (T1.getD r []) (t0.getD r [])) (hS : ∀ r, r < A.length → ∀ x ∈ (scaledL b s2).getD r [], nrm x ≤ beta)
    (hlow : lowN g (lessL (applyL A Y) (scaledL b s2)) < g - beta) (hn : normL (scaledL b t0) < g) :
    useL g (hntsL g (lessL (applyL A Y) (scaledL b s2)) (scaledL b t0)) (lessL (applyL A (plusL Y (scaledL b s1))) (scaledL b T1)) = mappedL (prtH g) (applyL A Y) := by
  have la : ∀ fs, (applyL A fs).length = A.length := fun fs => by unfold applyL; rw [List.length_map]
  have lle : ∀ fs gs : List (List Int), (lessL fs gs).length = fs.length := fun fs gs => length_eachL _ _
  refine eachL_ext (by rw [lle, la, la]) fun r hr' => ?_
  rw [lle, la] at hr'
  have hv := verify_row A Y s1 s2 T1 t0 b hr h1 h2 hT h0 ht hr'
  rw [hv]
  have hX := getD_lessL (applyL A Y) (scaledL b s2) (i := r) (by rw [la]; exact hr')
  have hH : (hntsL g (lessL (applyL A Y) (scaledL b s2)) (scaledL b t0)).getD r [] = hntF g ((scaledL b t0).getD r []) ((lessL (applyL A Y) (scaledL b s2)).getD r []) := getD_eachL _ _ (by rw [lle, la]; exact hr')
  have hlo := (lowN_ge g (lessL (applyL A Y) (scaledL b s2)) 0).2 _ (mem_getD (i := r) (by rw [lle, la]; exact hr') [])
  change ∀ v ∈ (lessL (applyL A Y) (scaledL b s2)).getD r [], prtL g v ≤ lowN g (lessL (applyL A Y) (scaledL b s2)) ∧ -(prtL g v) ≤ lowN g (lessL (applyL A Y) (scaledL b s2)) at hlo
  have hno := (normL_ge (scaledL b t0) 0).2 _ (mem_getD (i := r) (by rw [show (scaledL b t0).length = t0.length from length_eachL _ _]; omega) [])
  change ∀ x ∈ (scaledL b t0).getD r [], nrm x ≤ normL (scaledL b t0) at hno
  have hS := hS r hr'
  have pS : Po ((scaledL b s2).getD r []) := (scaledL_pos b s2).get (by rw [show (scaledL b s2).length = s2.length from length_eachL _ _]; omega)
  have pT : Po ((scaledL b t0).getD r []) := (scaledL_pos b t0).get (by rw [show (scaledL b t0).length = t0.length from length_eachL _ _]; omega)
  have pW : Po ((applyL A Y).getD r []) := (applyL_pos A Y).get (by rw [la]; exact hr')
  rw [hH]
  generalize lowN g (lessL (applyL A Y) (scaledL b s2)) = LOW at *
  generalize normL (scaledL b t0) = NT at *
  rw [hX] at hlo ⊢
  generalize (scaledL b s2).getD r [] = S at *
  generalize (scaledL b t0).getD r [] = T at *
  generalize (applyL A Y).getD r [] = W at *
  have lx : (subP W S).length = 256 := (subP_po W S).len
  refine ext256 (by rw [List.length_map, List.length_range]; exact (addP_po _ _).len) (by rw [List.length_map]; exact pW.len) fun i hi => ?_
  have ga : (addP (subP W S) T).getD i 0 = ((subP W S).getD i 0 + T.getD i 0) % 8380417 := getD_tab _ hi
  have gs : (subP W S).getD i 0 = (W.getD i 0 - S.getD i 0) % 8380417 := getD_tab _ hi
  have gm : (W.map (prtH g)).getD i 0 = prtH g (W.getD i 0) := by
    rw [List.getD_eq_getElem?_getD, List.getElem?_map, List.getD_eq_getElem?_getD, List.getElem?_eq_getElem (show i < W.length by rw [pW.len]; exact hi)]; rfl
  have gh : (hntF g T (subP W S)).getD i 0 = hnt g (0 - T.getD i 0) ((subP W S).getD i 0 + T.getD i 0) := by
    unfold hntF; exact getD_map_range (by rw [lx]; exact hi)
  rw [getD_map_range (by rw [(addP_po _ _).len]; exact hi), gm, gh, ga]
  have m1 := hlo _ (mem_getD (l := subP W S) (i := i) (by rw [lx]; exact hi) 0)
  rw [gs] at m1 ⊢
  exact use_one hg hbeta (hS _ (mem_getD (by rw [pS.len]; exact hi) 0)) (Int.lt_of_le_of_lt (hno _ (mem_getD (by rw [pT.len]; exact hi) 0)) hn) ⟨by omega, by omega⟩
end Go.Proofs.YtdnhoebcomffoaaGreatDoor
end
section
set_option linter.unusedVariables false
set_option linter.unusedSimpArgs false
/- SIGNING: the program's. -/
namespace Go.Proofs.YtdnhoebcomffoaaGreatDoor
open Go Go.Ev
set_option maxRecDepth 20000
set_option linter.unusedVariables false
/-- all that the turns of a signature need -/
structure Tn where
  set : Int
  s : LayS
  A : List (List (List Int))
  s1 : List (List Int)
  s2 : List (List Int)
  t0 : List (List Int)
  mu : List B8
  rho3 : List B8
def Tn.Y (t : Tn) (n : Nat) : List (List Int) := yL t.set t.rho3 n t.s.l
def Tn.W (t : Tn) (n : Nat) : List (List Int) := applyL t.A (t.Y n)
@[irreducible] def Tn.CH (t : Tn) (n : Nat) : List B8 := spOut 136 31 (t.mu ++ highB t.s.g2 (mappedL (prtH t.s.g2) (t.W n))) (t.s.c : Int)
def Tn.B (t : Tn) (n : Nat) : List Int := ballL t.set (t.CH n)
def Tn.Z (t : Tn) (n : Nat) : List (List Int) := plusL (t.Y n) (scaledL (t.B n) t.s1)
def Tn.X (t : Tn) (n : Nat) : List (List Int) := lessL (t.W n) (scaledL (t.B n) t.s2)
def Tn.T (t : Tn) (n : Nat) : List (List Int) := scaledL (t.B n) t.t0
def Tn.H (t : Tn) (n : Nat) : List (List Int) := hntsL t.s.g2 (t.X n) (t.T n)
def Tn.ok (t : Tn) (n : Nat) : Bool := okT t.s (t.Z n) (t.X n) (t.T n) (t.H n)
def Tn.sig (t : Tn) (n : Nat) : List B8 := sigB t.s (t.CH n) (t.Z n) (t.H n)
theorem Tn.V (t : Tn) (n : Nat) : TurnV t.set t.s t.A t.s1 t.s2 t.t0 t.mu t.rho3 n (t.Y n) (t.W n) (t.CH n) (t.B n) (t.Z n) (t.X n) (t.T n) (t.H n) := ⟨rfl, rfl, by unfold Tn.CH; rfl, rfl, rfl, rfl, rfl, rfl⟩
def Tn.find (t : Tn) : Option Nat := (List.range 500).find? fun i => t.ok (i * t.s.l)
theorem Tn.find_some {t : Tn} {i : Nat} (hi : i < 500) (h : ∀ j, j < i → t.ok (j * t.s.l) = false) (hp : t.ok (i * t.s.l) = true) : t.find = some i := by
  unfold Tn.find
  rw [List.find?_range_eq_some]
  exact ⟨hp, List.mem_range.2 hi, fun j hj => by rw [h j hj]; rfl⟩
theorem Tn.find_none {t : Tn} (h : ∀ j, j < 500 → t.ok (j * t.s.l) = false) : t.find = none := by
  unfold Tn.find
  rw [List.find?_eq_none]
  intro j hj
  rw [h j (List.mem_range.1 hj)]; decide
@[irreducible] def rhoOf (key rnd mu : List B8) : List B8 := spOut 136 31 (key ++ (rnd ++ mu)) 64
@[irreducible] def mu3 (tr note m : List B8) : List B8 := muL tr note m
def tnOf (set : Int) (l note m rnd : List B8) : Tn := ⟨set, layS set, matL (layS set).k (layS set).l (l.take 32), s1R (layS set) l, s2R (layS set) l, t0R (layS set) l, mu3 ((l.drop 64).take 64) note m, rhoOf ((l.drop 32).take 32) rnd (mu3 ((l.drop 64).take 64) note m)⟩
def sgC (set : Int) (l note m rnd : List B8) : Int :=
  if openC set l.length = 0 then
    (if rnd.length = 32 ∧ note.length ≤ 255 then
      (if leanB (layS set) (s1R (layS set) l) (s2R (layS set) l) = true then (if (tnOf set l note m rnd).find.isSome = true then 0 else 5) else 4)
    else 3)
  else openC set l.length
def sgL (set : Int) (l note m rnd : List B8) : List B8 := if sgC set l note m rnd = 0 then (tnOf set l note m rnd).sig ((tnOf set l note m rnd).find.getD 0 * (layS set).l) else []
theorem opened_of {set : Int} {n : Nat} (h : openC set n = 0) : isSet set = true ∧ n = skS set := by
  unfold openC at h
  split at h
  · rename_i h1
    split at h
    · rename_i h2; exact ⟨h1, h2⟩
    · exact absurd h (by decide)
  · exact absurd h (by decide)
theorem sign_Sign_ok (set : Int) (x xn xm xr : SlV) (l note m rnd : List B8) (h1 : note.length ≤ 100000) (h2 : m.length ≤ 100000) (h3 : rnd.length ≤ 100000) (w : World) (hx : Bytes w x l) (hxn : Bytes w xn note) (hxm : Bytes w xm m) (hxr : Bytes w xr rnd) :
    Ok Pr f_sign_Sign [.int .i64 set, .slice x.a x.n x.c, .slice xn.a xn.n xn.c, .slice xm.a xm.n xm.c, .slice xr.a xr.n xr.c] w fun v w' => Gave2 t_uint8 1 w w' v (u8s (sgL set l note m rnd)) (sgC set l note m rnd) := by
  refine V_sign_Sign_of ?_
  unfold V_sign_Sign
  rw [zc_lSet, zc_secret]
  have hrl := hxr.len
  have hP : sgC set l note m rnd = if openC set l.length = 0 then (if rnd.length = 32 ∧ note.length ≤ 255 then (if leanB (layS set) (s1R (layS set) l) (s2R (layS set) l) = true then (if (tnOf set l note m rnd).find.isSome = true then 0 else 5) else 4) else 3) else openC set l.length := rfl
  have hR : sgL set l note m rnd = if sgC set l note m rnd = 0 then (tnOf set l note m rnd).sig ((tnOf set l note m rnd).find.getD 0 * (layS set).l) else [] := rfl
  have ht : tnOf set l note m rnd = ⟨set, layS set, matL (layS set).k (layS set).l (l.take 32), s1R (layS set) l, s2R (layS set) l, t0R (layS set) l, mu3 ((l.drop 64).take 64) note m, rhoOf ((l.drop 32).take 32) rnd (mu3 ((l.drop 64).take 64) note m)⟩ := rfl
  refine call_of (sign_opened_ok set x l w hx) ?_
  rintro _ w1 ⟨c0, c1, c2, c3, c4, c5, er, rfl, he, m1, hop⟩
  generalize sgL set l note m rnd = R at *
  generalize sgC set l note m rnd = C at *
  generalize tnOf set l note m rnd = t at *
  refine ⟨_, rfl, as_sign_secret_of ?_⟩
  by_cases h0 : openC set l.length = 0
  · have hop := hop h0
    obtain ⟨his, hln⟩ := opened_of h0
    have hG := goodS his
    have hln2 := hln.trans (skS_skN his)
    obtain ⟨s, hs⟩ : ∃ s, s = layS set := ⟨_, rfl⟩
    rw [← hs] at hop hP hR ht hG hln2
    rw [h0] at he
    rw [if_pos h0] at hP
    obtain ⟨fb, H⟩ := (Mine.start w).gotBox hop.box
    obtain rfl : er = .nilIface := by
      rcases he.1 with ⟨h, _⟩ | ⟨_, _, _, _, h⟩
      · exact h
      · exact absurd rfl h
    refine ⟨rfl, H.nw fun p w2 H _ => H.sT_sign_secret 1 rfl rfl fun w3 H => ifn_nil (ite_false rfl (call_of (lay_Of_ok set w3) ?_))⟩
    rintro _ w4 ⟨rfl, m4⟩
    have H := H.frame m4
    rw [his]
    have hrd := reads_pos hG hln2
    have hlen32 : (l.take 32).length = 32 := by rw [List.length_take, hln2]; unfold skN; omega
    have hlen64 : ((l.drop 64).take 64).length = 64 := by rw [List.length_take, List.length_drop, hln2]; unfold skN; omega
    have hlenk : ((l.drop 32).take 32).length = 32 := by rw [List.length_take, List.length_drop, hln2]; unfold skN; omega
    rw [← hs]
    refine ⟨_, rfl, as_lSet ⟨_, rfl, rfl, H.nw fun p1 w5 H _ => H.sT_lay_Set 2 rfl rfl fun w6 H => ?_⟩⟩
    have H : Mine w [] w6 [.box fb fun w => Pols w c3 (s1R s l) ∧ Pols w c4 (s2R s l) ∧ Pols w c5 (t0R s l), .blk p (cs_sign_secret c0 c1 c2 c3 c4 c5) t_sign_secret, .blk p1 s.cells t_lay_Set] := H
    have bx : ∀ {w' : World} {T : List Res}, Mine w [] w' (.box fb (fun w => Pols w c3 (s1R s l) ∧ Pols w c4 (s2R s l) ∧ Pols w c5 (t0R s l)) :: T) → Pols w' c3 (s1R s l) ∧ Pols w' c4 (s2R s l) ∧ Pols w' c5 (t0R s l) := fun H => H.box 0 rfl
    have n1 : (s1R s l).length = s.l := length_polysL _ _ _ _
    have n2 : (s2R s l).length = s.k := length_polysL _ _ _ _
    have n0 : (t0R s l).length = s.k := length_polysL _ _ _ _
    have hk8 := hG.k
    have hl7 := hG.l
    refine H.ldL 1 rfl (ad1 p 2) rfl (call_of (sign_digest_ok c2 xn xm ((l.drop 64).take 64) note m (by omega) (by omega) (by omega) _ (hop.tr.mod0 H.mod) (hxn.mod0 H.mod) (hxm.mod0 H.mod)) ?_)
    rintro _ w7 ⟨ym, e7, rfl, hym, he7, hno7, m7⟩
    have H := H.got2 m7 hym he7 hno7
    have hmu3 : mu3 ((l.drop 64).take 64) note m = muL ((l.drop 64).take 64) note m := by unfold mu3; rfl
    have hmul : (muL ((l.drop 64).take 64) note m).length = 64 := by unfold muL; exact spOut_len 136 31 _ 64 (by omega)
    rw [← hmu3] at H hmul
    generalize mu3 ((l.drop 64).take 64) note m = mu at *
    have hrho : (rhoOf ((l.drop 32).take 32) rnd mu).length = 64 := by unfold rhoOf; exact spOut_len 136 31 _ 64 (by omega)
    have hrho2 : rhoOf ((l.drop 32).take 32) rnd mu = spOut 136 31 (((l.drop 32).take 32) ++ (rnd ++ mu)) 64 := by unfold rhoOf; rfl
    refine ⟨_, rfl, ym, rfl, rfl, join0_of fun go hgo => join1_of fun go1 hgo1 => ?_⟩
    have bad : go1 true w7 → True := fun _ => trivial
    have err3 : C = 3 → go1 true w7 := fun hC => by
      rw [hC, if_neg (by decide)] at hR
      refine hgo1 _ _ (ite_true rfl (call_of (sign_fault_ok 3 (by decide) w7) ?_))
      rintro e w8 ⟨h8, m8⟩
      rw [hC, hR]
      exact Gave2.no (h8.from H.mod.size) (H.frame m8).mod
    by_cases hr32 : rnd.length = 32
    · refine ite_false (by rw [decide_eq_true (show ((xr.n : Nat) : Int) = 32 by omega)]; rfl) ?_
      have hdig : digC note.length = if note.length ≤ 255 then 0 else 3 := rfl
      by_cases hn255 : note.length ≤ 255
      · rw [if_pos hn255] at hdig H
        rw [hdig] at H
        refine (H.err 4 rfl).isNil ?_
        rw [if_pos ⟨hr32, hn255⟩] at hP
        refine hgo1 _ _ (ite_false rfl ?_)
        refine H.ld_sign_secret 1 rfl (H.ld_lay_Set 2 rfl (call_of (sign_lean_ok s c0 c1 c2 c3 c4 c5 (s1R s l) (s2R s l) (by omega) (by omega) hrd.1 hrd.2.1 _ (bx H).1 (bx H).2.1) ?_))
        rintro _ w8 ⟨rfl, m8⟩
        have H := H.frame m8
        refine asB_b ?_
        by_cases hl : leanB s (s1R s l) (s2R s l) = true
        · rw [if_pos hl] at hP
          rw [hl]
          refine ite_false rfl (hgo _ ?_)
          refine H.ld_lay_Set 2 rfl (H.ldL 1 rfl (ad1 p 0) rfl (call_of (sign_matrix_ok s (by omega) (by omega) c0 (l.take 32) _ (hop.rho.mod0 H.mod)) ?_))
          rintro _ w9 ⟨yA, rfl, hyA⟩
          obtain ⟨fm, H⟩ := H.gotBox hyA
          have hrows := matL_rows (k := s.k) (l := s.l) hlen32
          have hAl : (matL s.k s.l (l.take 32)).length = s.k := length_matL _ _ _
          generalize matL s.k s.l (l.take 32) = A at *
          refine asSl_s (H.ldL 1 rfl (ad1 p 1) rfl (H.nw fun p2 w10 H _ => ?_))
          refine call_of (sponge_Shake256_ok 64 ⟨some ⟨p2, 0, none⟩, 3, 3⟩ [(l.drop 32).take 32, rnd, mu] _ ?_ ?_) ?_
          · refine Parts.ofs (ss := [c1, xr, ym]) (H.blk 6 rfl) (by simp) rfl fun i s l hs hl => ?_
            match i, hs, hl with
            | 0, hs, hl => cases hs; cases hl; exact ⟨hop.key.mod0 H.mod, off_nil _⟩
            | 1, hs, hl => cases hs; cases hl; exact ⟨hxr.mod0 H.mod, off_nil _⟩
            | 2, hs, hl => cases hs; cases hl; exact ⟨H.bytes 3 rfl, off_nil _⟩
            | i + 3, hs, hl => simp at hs
          · refine smallOf (by show 3 < 1000000; omega) fun k hk => ?_
            simp only [List.mem_cons, List.not_mem_nil, or_false] at hk
            rcases hk with rfl | rfl | rfl <;> omega
          rintro _ w11 ⟨yr, rfl, hyr, m11⟩
          rw [show [(l.drop 32).take 32, rnd, mu].flatten = ((l.drop 32).take 32) ++ (rnd ++ mu) by simp, ← hrho2] at hyr
          have H := H.got m11 hyr
          generalize rhoOf ((l.drop 32).take 32) rnd mu = rho3 at *
          have te : t.s = s := by rw [ht]
          refine asSl_s (loop2_up 0 500 (fun i (n : Int) w' => n = ((i * s.l : Nat) : Int) ∧ (∀ j, j < i → t.ok (j * s.l) = false) ∧ Mod [] w11 w') rfl (by omega) ⟨by simp, fun j h => by omega, Mod.refl _ _⟩ ?_ ?_)
          · rintro again i _ w12 _ hi ⟨rfl, hno, m12⟩ hag
            have H := H.frame m12
            have hil : i * s.l ≤ 500 * 7 := Nat.mul_le_mul (by omega) hl7
            have hV : TurnV set s A (s1R s l) (s2R s l) (t0R s l) mu rho3 (i * s.l) (t.Y (i * s.l)) (t.W (i * s.l)) (t.CH (i * s.l)) (t.B (i * s.l)) (t.Z (i * s.l)) (t.X (i * s.l)) (t.T (i * s.l)) (t.H (i * s.l)) := by rw [ht]; exact Tn.V ⟨set, s, A, s1R s l, s2R s l, t0R s l, mu, rho3⟩ (i * s.l)
            have hOK : t.ok (i * s.l) = okT s (t.Z (i * s.l)) (t.X (i * s.l)) (t.T (i * s.l)) (t.H (i * s.l)) := by rw [← te]; rfl
            have hSIG : t.sig (i * s.l) = sigB s (t.CH (i * s.l)) (t.Z (i * s.l)) (t.H (i * s.l)) := by rw [← te]; rfl
            generalize t.Y (i * s.l) = vY at *
            generalize t.W (i * s.l) = vW at *
            generalize t.CH (i * s.l) = vCH at *
            generalize t.B (i * s.l) = vB at *
            generalize t.Z (i * s.l) = vZ at *
            generalize t.X (i * s.l) = vX at *
            generalize t.T (i * s.l) = vT at *
            generalize t.H (i * s.l) = vH at *
            refine ite_false (decide_eq_false (by omega)) (H.ld_sign_secret 1 rfl (call_of (sign_turn_ok set his s hs c0 c1 c2 c3 c4 c5 yA ym yr A (s1R s l) (s2R s l) (t0R s l) mu rho3 (i * s.l) (by omega) n1 n2 n0 hrd.1 hrd.2.1 hrd.2.2 hAl hrows hmul hrho hV _ (H.box 5 rfl) (H.bytes 3 rfl) (H.bytes 7 rfl) (bx H).1 (bx H).2.1 (bx H).2.2) ?_))
            rintro _ w13 ⟨yo, rfl, hyo, m13⟩
            rw [← hOK] at hyo ⊢
            rw [← hSIG] at hyo
            refine ⟨_, rfl, yo, rfl, _, rfl, rfl, ?_⟩
            by_cases hok : t.ok (i * s.l) = true
            · have hfind := Tn.find_some (t := t) hi (by rw [te]; exact hno) (by rw [te]; exact hok)
              rw [hfind, Option.isSome_some, if_pos rfl] at hP
              rw [hfind, hP, if_pos rfl, Option.getD_some] at hR
              have F := H.got m13 (hyo hok)
              rw [hok, hP, hR]
              exact ite_true rfl (Gave2.yes (F.fresh0 8 rfl) F.mod)
            · have hok := Bool.not_eq_true _ |>.mp hok
              have H := H.frame m13
              rw [hok]
              have e1 : (i + 1) * s.l = i * s.l + s.l := Nat.succ_mul _ _
              refine ite_false rfl (H.ldI 2 rfl (ad1 p1 1) rfl ⟨⟨by omega, by omega⟩, ⟨by omega, by omega⟩, hag _ w13 ⟨by omega, fun j hj => ?_, m12.trans m13⟩⟩)
              rcases Nat.lt_succ_iff_lt_or_eq.1 hj with h | rfl
              · exact hno j h
              · exact hok
          · rintro again _ w12 ⟨rfl, hno, m12⟩
            have H := H.frame m12
            have hfind := Tn.find_none (t := t) (by rw [te]; exact hno)
            rw [hfind, if_neg (by decide)] at hP
            rw [hP, if_neg (by decide)] at hR
            refine ite_true (decide_eq_true (by omega)) (call_of (sign_fault_ok 5 (by decide) w12) ?_)
            rintro e w13 ⟨h13, m13⟩
            rw [hP, hR]
            exact Gave2.no (h13.from H.mod.size) (H.frame m13).mod
        · rw [if_neg hl] at hP
          rw [hP, if_neg (by decide)] at hR
          refine ite_true (by rw [Bool.not_eq_true _ |>.mp hl]; rfl) (call_of (sign_fault_ok 4 (by decide) w8) ?_)
          rintro e w9 ⟨h9, m9⟩
          rw [hP, hR]
          exact Gave2.no (h9.from H.mod.size) (H.frame m9).mod
      · rw [if_neg hn255] at hdig
        rw [hdig] at H
        rw [if_neg (by omega)] at hP
        exact (H.err 4 rfl).isNil (err3 hP)
    · rw [if_neg (by omega)] at hP
      exact ite_true (by rw [decide_eq_false (show ¬ ((xr.n : Nat) : Int) = 32 by omega)]; rfl) (by rw [decide_eq_false (show ¬ ((xr.n : Nat) : Int) = 32 by omega)]; exact err3 hP)
  · rw [if_neg h0] at hP
    rw [hP, if_neg h0] at hR
    rw [hP, hR]
    have H := (Mine.start w).gotE m1 he
    refine ⟨rfl, H.nw fun p w2 H _ => H.sT_sign_secret 1 rfl rfl fun w3 H => (H.err 0 rfl).isNil (ite_true (by rw [decide_eq_false h0]; rfl) (Gave2.no (H.isErr 0 rfl) H.mod))⟩
end Go.Proofs.YtdnhoebcomffoaaGreatDoor
end
section
set_option linter.unusedVariables false
set_option linter.unusedSimpArgs false
/- NUMBERS IN BITS, packed: the document's; read again what was packed. -/
namespace Go.Proofs.YtdnhoebcomffoaaGreatDoor
open Go Go.Ev
set_option maxRecDepth 20000
set_option linter.unusedVariables false
theorem or8 (x y : B8) : orI .u8 (x.toNat : Int) (y.toNat : Int) = ((x ||| y).toNat : Int) := by
  unfold orI
  have e : ∀ z : B8, BitVec.ofInt (IntKind.bits .u8) (z.toNat : Int) = z := fun z => by
    show BitVec.ofInt 8 (z.toNat : Int) = z
    rw [BitVec.ofInt_natCast]; simp
  rw [e, e]
  show IntKind.wrap .u8 ((((x ||| y).toNat : Nat)) : Int) = _
  rw [wrap_u8N]; simp
theorem bitI' {m k : Nat} (hm : m < 9223372036854775808) : andI .i64 (shr .i64 (m : Int) (k : Int)) 1 = ((m / 2 ^ k % 2 : Nat) : Int) := by
  rw [shrN hm, show (1 : Int) = ((1 : Nat) : Int) from rfl, andN (Nat.lt_of_le_of_lt (Nat.div_le_self _ _) hm) (by omega), Nat.and_one_is_mod]
theorem getD_nums8 (n N j : Nat) (h : j < n) : (nums8 n N).getD j 0 = BitVec.ofNat 8 (N / 2 ^ (8 * j)) := by
  unfold nums8
  rw [List.getD_eq_getElem?_getD, List.getElem?_map, List.getElem?_range h]; rfl
/-- one bit more -/
theorem nums8_bit (n N b B : Nat) (hN : N < 2 ^ B) (hb : b ≤ 1) (hn : B / 8 < n) : (nums8 n N).set (B / 8) ((nums8 n N).getD (B / 8) 0 ||| BitVec.ofNat 8 (b * 2 ^ (B % 8))) = nums8 n (N + b * 2 ^ B) := by
  have hl : (nums8 n N).length = n := length_nums8 n N
  refine List.ext_getElem (by rw [List.length_set, hl, length_nums8]) fun j h1 h2 => ?_
  have hj : j < n := by rw [length_nums8] at h2; exact h2
  have e2 : (nums8 n (N + b * 2 ^ B))[j] = BitVec.ofNat 8 ((N + b * 2 ^ B) / 2 ^ (8 * j)) := by simp [nums8]
  rw [e2]
  have hpos : 0 < 2 ^ B := Nat.pow_pos (by omega)
  have hsum : N + b * 2 ^ B < 2 ^ (B + 1) := by
    have : b * 2 ^ B ≤ 1 * 2 ^ B := Nat.mul_le_mul_right _ hb
    rw [Nat.pow_succ]; omega
  rcases Nat.lt_trichotomy j (B / 8) with h | h | h
  · rw [List.getElem_set_ne (by omega)]
    have e1 : (nums8 n N)[j]'(by rw [hl]; exact hj) = BitVec.ofNat 8 (N / 2 ^ (8 * j)) := by simp [nums8]
    rw [e1]
    refine BitVec.eq_of_toNat_eq ?_
    rw [BitVec.toNat_ofNat, BitVec.toNat_ofNat, Nat.mul_comm b]
    exact (low_of N b B (8 * j) 8 (by omega)).symm
  · subst h
    rw [List.getElem_set_self, getD_nums8 _ _ _ hn]
    have hr : N / 2 ^ (8 * (B / 8)) < 2 ^ (B % 8) := by
      refine Nat.div_lt_of_lt_mul ?_
      rw [← Nat.pow_add, show 8 * (B / 8) + B % 8 = B by omega]; exact hN
    have hs : (N + b * 2 ^ B) / 2 ^ (8 * (B / 8)) = N / 2 ^ (8 * (B / 8)) + b * 2 ^ (B % 8) := by
      conv => lhs; rw [show 2 ^ B = 2 ^ (8 * (B / 8)) * 2 ^ (B % 8) by rw [← Nat.pow_add]; congr 1; omega]
      rw [← Nat.mul_assoc, Nat.mul_comm b, Nat.mul_assoc, Nat.add_mul_div_left _ _ (Nat.pow_pos (by omega))]
    have h7 : 2 ^ (B % 8) ≤ 2 ^ 7 := Nat.pow_le_pow_right (by omega) (by omega)
    have h128 : (2 : Nat) ^ 7 = 128 := by decide
    have hb2 : b * 2 ^ (B % 8) ≤ 1 * 2 ^ (B % 8) := Nat.mul_le_mul_right _ hb
    rw [hs]
    refine BitVec.eq_of_toNat_eq ?_
    rw [BitVec.toNat_or, BitVec.toNat_ofNat, BitVec.toNat_ofNat, BitVec.toNat_ofNat, Nat.mod_eq_of_lt (show N / 2 ^ (8 * (B / 8)) < 2 ^ 8 by omega), Nat.mod_eq_of_lt (show b * 2 ^ (B % 8) < 2 ^ 8 by omega), or_high hr, Nat.mod_eq_of_lt (show N / 2 ^ (8 * (B / 8)) + b * 2 ^ (B % 8) < 2 ^ 8 by omega)]
  · rw [List.getElem_set_ne (by omega)]
    have e1 : (nums8 n N)[j]'(by rw [hl]; exact hj) = BitVec.ofNat 8 (N / 2 ^ (8 * j)) := by simp [nums8]
    rw [e1]
    have hge : 2 ^ (B + 1) ≤ 2 ^ (8 * j) := Nat.pow_le_pow_right (by omega) (by omega)
    rw [Nat.div_eq_of_lt (show N < 2 ^ (8 * j) by rw [Nat.pow_succ] at hge; omega), Nat.div_eq_of_lt (by omega)]
theorem ref5_Pack_ok (d : Nat) (hd1 : 1 ≤ d) (hd : d ≤ 24) (x : SlV) (xs : List Int) (hl : xs.length ≤ 10000) (hx : Dig d xs) (w : World) (hn : Nums w x xs) :
    Ok Pr f_ref5_Pack [.int .i64 (d : Int), .slice x.a x.n x.c] w fun v w' => Gave w w' v (packL d xs) := by
  refine V_ref5_Pack_of ?_
  unfold V_ref5_Pack
  have hxl := hn.len
  obtain ⟨C, hC⟩ : ∃ C, C = d * xs.length := ⟨_, rfl⟩
  have hCi : C ≤ 24 * 10000 := by rw [hC]; exact Nat.mul_le_mul hd hl
  have eC : (d : Int) * ((x.n : Nat) : Int) = (C : Int) := by rw [hC, ← hxl, Int.natCast_mul]
  have hpk : packL d xs = nums8 ((C + 7) / 8) (pnum d xs) := by unfold packL; rw [hC]
  refine ite_false (by rw [decide_eq_false (show ¬ (d : Int) < 1 by omega), decide_eq_false (show ¬ (24 : Int) < (d : Int) by omega)]; rfl) ?_
  rw [eC]
  refine ⟨⟨by omega, by omega⟩, ⟨by omega, by omega⟩, ⟨by omega, by rw [show IntKind.max .i64 = 9223372036854775807 by decide]; omega⟩, ?_⟩
  refine (Mine.start w).mkU elt_u8 (by kernel_rfl) (n := (C + 7) / 8) (by omega) (by omega) (by omega) fun y w1 H hyn => ?_
  have h24 : (2 : Nat) ^ 24 = 16777216 := by decide
  have hd24 : 2 ^ d ≤ 2 ^ 24 := Nat.pow_le_pow_right (by omega) hd
  have z0 : nums8 ((C + 7) / 8) 0 = List.replicate ((C + 7) / 8) 0 := by
    unfold nums8
    refine List.ext_getElem (by simp) fun j h1 h2 => by simp
  refine loop1_up 0 xs.length (fun i w' => Mine w [] w' [.row t_uint8 1 y (u8s (nums8 ((C + 7) / 8) (pnum d (xs.take i))))]) rfl (by omega) (by rw [show pnum d (xs.take 0) = 0 from rfl, z0]; exact H) ?_ ?_
  · intro again i w2 _ hi H hag
    obtain ⟨v, hv, hvd⟩ := hx.at hi
    have Hd := H.drew
    have hT := pnum_take_succ d xs i v hi hv
    have hlt := (hx.take i).pnum_lt
    rw [List.length_take, Nat.min_eq_left (by omega)] at hlt
    generalize pnum d (xs.take (i + 1)) = N' at *
    generalize pnum d (xs.take i) = N at *
    obtain ⟨c, hc⟩ : ∃ c, c = d * i := ⟨_, rfl⟩
    have hcC : c + d ≤ C := by
      rw [hc, hC]
      have : d * (i + 1) ≤ d * xs.length := Nat.mul_le_mul_left _ (by omega)
      rw [Nat.mul_add, Nat.mul_one] at this; omega
    have ec : (d : Int) * (i : Int) = (c : Int) := by rw [hc, Int.natCast_mul]
    rw [← hc] at hT hlt
    rw [ec]
    refine ite_true (decide_eq_true (by omega)) (join0_of fun go hgo => (hn.mod0 Hd.mod).ld (i := i) hi rfl ?_)
    rw [hv]
    refine ite_false (decide_eq_false (by omega)) ((hn.mod0 Hd.mod).ld (i := i) hi rfl ?_)
    rw [hv]
    have hsh : shl .i64 1 (d : Int) = ((2 ^ d : Nat) : Int) := by
      have := shlN (a := 1) (k := d) (by omega) (by omega)
      rw [Nat.one_mul] at this
      exact this
    refine cnt_of (by omega) (ite_false (by rw [hsh]; exact decide_eq_false (by omega)) (hgo _ ?_))
    refine loop1_up 0 d (fun k w' => Mine w [] w' [.row t_uint8 1 y (u8s (nums8 ((C + 7) / 8) (N + 2 ^ c * (v % 2 ^ k))))]) rfl (by omega) (by rw [Nat.pow_zero, Nat.mod_one, Nat.mul_zero, Nat.add_zero]; exact Hd) ?_ ?_
    · intro again1 k w3 _ hk H hag1
      have Hd := H.drew
      have hb := (H.bytes 0 rfl).len
      rw [length_nums8] at hb
      have e1 : (c : Int) + (k : Int) = ((c + k : Nat) : Int) := by omega
      have e2 : ((c + k : Nat) : Int) / 8 = (((c + k) / 8 : Nat) : Int) := by omega
      have e3 : ((c + k : Nat) : Int) % 8 = (((c + k) % 8 : Nat) : Int) := by omega
      have hB : (c + k) / 8 < (C + 7) / 8 := by omega
      have hv0 : v % 2 ^ k < 2 ^ k := Nat.mod_lt _ (Nat.pow_pos (by omega))
      have hNB : N + 2 ^ c * (v % 2 ^ k) < 2 ^ (c + k) := by
        have h1 : 2 ^ c * (v % 2 ^ k + 1) ≤ 2 ^ c * 2 ^ k := Nat.mul_le_mul_left _ hv0
        rw [Nat.mul_add, Nat.mul_one] at h1
        rw [Nat.pow_add]; omega
      have hbit := Nat.mod_lt (v / 2 ^ k) (show 0 < 2 by omega)
      have hstep := nums8_bit ((C + 7) / 8) (N + 2 ^ c * (v % 2 ^ k)) (v / 2 ^ k % 2) (c + k) hNB (by omega) hB
      have hnext : N + 2 ^ c * (v % 2 ^ k) + v / 2 ^ k % 2 * 2 ^ (c + k) = N + 2 ^ c * (v % 2 ^ (k + 1)) := by
        rw [Nat.mod_pow_succ, Nat.mul_add, Nat.pow_add, Nat.add_assoc]
        congr 2
        rw [Nat.mul_comm (v / 2 ^ k % 2), Nat.mul_assoc]
      rw [hnext] at hstep
      have hp7 : 2 ^ ((c + k) % 8) ≤ 2 ^ 7 := Nat.pow_le_pow_right (by omega) (by omega)
      have h128 : (2 : Nat) ^ 7 = 128 := by decide
      have hmul : v / 2 ^ k % 2 * 2 ^ ((c + k) % 8) ≤ 1 * 2 ^ ((c + k) % 8) := Nat.mul_le_mul_right _ (by omega)
      rw [e1, e2, e3]
      refine ite_true (decide_eq_true (by omega)) ⟨⟨by omega, by omega⟩, ⟨by omega, by omega⟩, ⟨by omega, by rw [show IntKind.max .i64 = 9223372036854775807 by decide]; omega⟩, ⟨by omega, by rw [show IntKind.max .i64 = 9223372036854775807 by decide]; omega⟩, ?_⟩
      refine (Hd.bytes 0 rfl).ld (i := (c + k) / 8) (by rw [length_nums8]; exact hB) ((hn.mod0 Hd.mod).ld (i := i) hi rfl ?_)
      rw [hv, bitI' (by omega), shlN (by omega) (by omega), wrap_u8N, or8]
      refine cnt_of (by omega) ⟨by omega, cnt_of (by omega) ⟨⟨(Hd.bytes 0 rfl).some (by omega), by omega, by omega⟩, ?_⟩⟩
      refine Hd.st8 0 _ rfl (by rw [Nat.mul_one]) (by rw [length_nums8, Int.toNat_natCast]; exact hB) rfl fun w4 H => ⟨⟨by omega, by omega⟩, hag1 w4 ?_⟩
      rw [← hstep]
      exact H
    · intro again1 w3 H
      rw [Nat.mod_eq_of_lt hvd, ← hT] at H
      exact ite_false (decide_eq_false (by omega)) ⟨⟨by omega, by omega⟩, hag w3 H⟩
  · intro again w2 H
    rw [List.take_of_length_le (Nat.le_refl _)] at H
    rw [hpk]
    exact ite_false (decide_eq_false (by omega)) ⟨y, rfl, H.fresh0 0 rfl, H.mod⟩
/-- what was packed is read again -/
theorem ptk_pnum (d : Nat) (xs : List Int) (h : Dig d xs) (i : Nat) (hi : i < xs.length) : ((ptk (pnum d xs) d i : Nat) : Int) = xs.getD i 0 := by
  induction xs generalizing i with
  | nil => simp at hi
  | cons x r ih =>
    have hr : Dig d r := ⟨fun y hy => h.pos y (by simp [hy]), fun y hy => h.lt y (by simp [hy])⟩
    have h1 := h.pos x (by simp)
    have h2 := h.lt x (by simp)
    unfold ptk
    cases i with
    | zero =>
      simp only [pnum, Nat.mul_zero, Nat.pow_zero, Nat.div_one, List.getD_cons_zero]
      rw [Nat.add_mul_mod_self_left, Nat.mod_eq_of_lt (by omega)]
      omega
    | succ i =>
      have h3 := ih hr i (by simpa using hi)
      unfold ptk at h3
      simp only [pnum, List.getD_cons_succ]
      rw [← h3, Nat.mul_add, Nat.mul_one, Nat.add_comm (d * i) d, Nat.pow_add, ← Nat.div_div_eq_div_mul, Nat.add_mul_div_left _ _ (Nat.pow_pos (by omega)), Nat.div_eq_of_lt (show x.toNat < 2 ^ d by omega), Nat.zero_add]
theorem num_nums8 (n N : Nat) (h : N < 2 ^ (8 * n)) : num (nums8 n N) = N := by
  induction n generalizing N with
  | zero => simp at h; subst h; rfl
  | succ n ih =>
    have e : nums8 (n + 1) N = BitVec.ofNat 8 N :: nums8 n (N / 256) := by
      unfold nums8
      rw [List.range_succ_eq_map, List.map_cons, List.map_map]
      congr 1
      · simp
      · refine List.map_congr_left fun j _ => ?_
        simp only [Function.comp_apply]
        rw [Nat.div_div_eq_div_mul, show 256 = 2 ^ 8 from rfl, ← Nat.pow_add, show 8 + 8 * j = 8 * (j.succ) by omega]
    rw [e]
    have hq : N / 256 < 2 ^ (8 * n) := by
      refine Nat.div_lt_of_lt_mul ?_
      rw [show 256 = 2 ^ 8 from rfl, ← Nat.pow_add, show 8 + 8 * n = 8 * (n + 1) by omega]; exact h
    simp only [num, ih _ hq, BitVec.toNat_ofNat]
    omega
theorem unpack_pack (d m : Nat) (hd : 0 < d) (xs : List Int) (h : Dig d xs) (hm : d * xs.length = 8 * m) : unpack d (packL d xs) = xs := by
  have hl := length_packL d xs
  have hlt := h.pnum_lt
  have e : (d * xs.length + 7) / 8 = m := by omega
  have hpk : packL d xs = nums8 m (pnum d xs) := by unfold packL; rw [e]
  rw [hpk]
  unfold unpack
  rw [length_nums8, ← hm, Nat.mul_div_cancel_left _ hd, num_nums8 m _ (by rw [← hm]; exact hlt)]
  refine List.ext_getElem (by simp) fun i h1 h2 => ?_
  have := ptk_pnum d xs h i h2
  rw [List.getD_eq_getElem?_getD, List.getElem?_eq_getElem h2] at this
  simpa using this
end Go.Proofs.YtdnhoebcomffoaaGreatDoor
end
section
set_option linter.unusedVariables false
set_option linter.unusedSimpArgs false
/- SIGNING, the document's: polys laid, lists of polys. -/
namespace Go.Proofs.YtdnhoebcomffoaaGreatDoor
open Go Go.Ev
set_option maxRecDepth 20000
set_option linter.unusedVariables false
theorem ref13_matrix_ok (s : LayS) (hk : s.k ≤ 100) (hl : s.l ≤ 100) (x : SlV) (rho : List B8) (w : World) (hx : Bytes w x rho) : Ok Pr f_ref13_matrix [.agg ⟨s.cells⟩, .slice x.a x.n x.c] w fun v w' => GaveM w w' v (matL s.k s.l rho) := by
  refine V_ref13_matrix_of ?_
  unfold V_ref13_matrix
  refine (Mine.start w).nw fun p w1 H _ => ?_
  refine loop2_up 0 s.k (fun i (out : SlV) w' => Col Pols t_s_s_int w [] [.blk p s.cells t_ref11_Set] w' out (matL i s.l rho)) rfl (by omega) (Col.start H) ?_ ?_
  · intro again i out w2 _ hi C hag
    have H := C.front
    refine H.ldI 0 rfl (ad1 p 0) rfl (ite_true (decide_eq_true (by omega)) ?_)
    have hs : matL (i + 1) s.l rho = matL i s.l rho ++ [(List.range s.l).map fun (q : Nat) => svenL rho (BitVec.ofInt 8 (q : Int)) (BitVec.ofInt 8 (i : Int))] := range_succ_map _ _
    rw [hs] at hag
    have hlen : (matL i s.l rho).length ≤ 1000000 := by rw [length_matL]; omega
    refine loop2_up 0 s.l (fun j (row : SlV) w' => Col Nums t_s_int w2 [] [] w' row ((List.range j).map fun (q : Nat) => svenL rho (BitVec.ofInt 8 (q : Int)) (BitVec.ofInt 8 (i : Int)))) rfl (by omega) (Col.start (Mine.start w2)) ?_ ?_
    · intro again1 j row w3 _ hj D hag1
      have H3 := H.frame D.mod
      refine H3.ldI 0 rfl (ad1 p 1) rfl (ite_true (decide_eq_true (by omega)) ?_)
      rw [wrap_u8_any, wrap_u8_any]
      refine call_of (ref12_Even_all x rho _ _ _ ((hx.mod0 H.mod).mod0 D.mod)) ?_
      rintro _ w4 ⟨y, rfl, hy, m4⟩
      refine ⟨_, rfl, y, rfl, _, rfl, rfl, D.add (Boxed.of_own hy m4 fun w2 h => h.nums) elt_vec (by rw [List.length_map, List.length_range]; omega) fun row' w5 D => ⟨⟨by omega, by omega⟩, hag1 row' w5 ?_⟩⟩
      rw [range_succ_map]
      exact D
    · intro again1 row w3 D
      have H3 := H.frame D.mod
      exact H3.ldI 0 rfl (ad1 p 1) rfl (ite_false (decide_eq_false (by omega)) (C.add (D.boxed.mono fun w h => vec_pols h) elt_mat hlen fun out' w4 C => ⟨⟨by omega, by omega⟩, hag out' w4 C⟩))
  · intro again out w2 C
    have H := C.front
    exact H.ldI 0 rfl (ad1 p 0) rfl (ite_false (decide_eq_false (by omega)) ⟨out, rfl, C.boxed⟩)
theorem ref13_overs_ok (x : SlV) (fs : List (List Int)) (hl : fs.length ≤ 1000) (hp : Pos fs) (w : World) (hx : Pols w x fs) : Ok Pr f_ref13_overs [.slice x.a x.n x.c] w fun v w' => GaveP w w' v (oversL fs) := by
  refine V_ref13_overs_of ?_
  unfold V_ref13_overs
  have hxl := hx.len
  refine loop2_up 0 fs.length (fun i (out : SlV) w' => Col Nums t_s_int w [] [] w' out ((List.range i).map fun i => overL (fs.getD i []))) rfl (by omega) (Col.start (Mine.start w)) ?_ ?_
  · intro again i out w1 _ hi C hag
    refine ite_true (decide_eq_true (by omega)) ((hx.mod0 C.mod).ld (i := i) hi rfl fun y hy => call_of (ref10_Over_ok y _ (hp.get hi) _ hy) ?_)
    rintro _ w2 h
    obtain ⟨z, rfl, hz⟩ := h.box
    refine asSl_s (C.add hz elt_vec (by rw [List.length_map, List.length_range]; omega) fun out' w3 C => ⟨⟨by omega, by omega⟩, hag out' w3 ?_⟩)
    rw [range_succ_map]
    exact C
  · intro again out w1 C
    exact ite_false (decide_eq_false (by omega)) ⟨out, rfl, C.boxed.mono fun w h => vec_pols h⟩
theorem ref13_product_ok (x y : SlV) (a : List (List (List Int))) (fs : List (List Int)) (h0 : 0 < fs.length) (hl : fs.length ≤ 1000) (ha : a.length ≤ 1000) (hr : ∀ r ∈ a, r.length = fs.length ∧ Pos r) (w : World) (hx : Mat w x a) (hy : Pols w y (oversL fs)) :
    Ok Pr f_ref13_product [.slice x.a x.n x.c, .slice y.a y.n y.c] w fun v w' => GaveP w w' v (applyL a fs) := by
  refine V_ref13_product_of ?_
  unfold V_ref13_product
  have hxl := Vec.len hx
  have hol : (oversL fs).length = fs.length := length_eachL _ _
  refine loop2_up 0 a.length (fun i (out : SlV) w' => Col Nums t_s_int w [] [] w' out (applyL (a.take i) fs)) rfl (by omega) (Col.start (Mine.start w)) ?_ ?_
  · intro again i out w2 _ hi C hag
    have hm := hr _ (mem_getD hi [])
    refine ite_true (decide_eq_true (by omega)) (Vec.ld (hx.mod0 C.mod) (i := i) hi rfl (d := []) fun r hrow => ?_)
    have hs : applyL (a.take (i + 1)) fs = applyL (a.take i) fs ++ [backL (dotL (a.getD i []) (oversL fs))] := by
      unfold applyL; rw [take_succ_getD _ _ hi [], List.map_append]; rfl
    rw [hs] at hag
    have hlen : (applyL (a.take i) fs).length ≤ 1000000 := by unfold applyL; rw [List.length_map, List.length_take]; omega
    generalize a.getD i [] = A at *
    refine call_of (ref10_Dot_ok r y A (oversL fs) (by omega) (by omega) (by omega) hm.2 (oversL_pos fs) _ hrow (hy.mod0 C.mod)) ?_
    rintro _ w3 ⟨d, rfl, hd, m3⟩
    have C := C.frame m3
    refine asSl_s (call_of (ref10_Back_ok d _ (dotL_po _ _) _ hd.nums) ?_)
    rintro _ w4 h4
    obtain ⟨b, rfl, hb⟩ := h4.box
    exact asSl_s (C.add hb elt_vec hlen fun out' w5 C => ⟨⟨by omega, by omega⟩, hag out' w5 C⟩)
  · intro again out w2 C
    rw [List.take_of_length_le (Nat.le_refl _)] at C
    exact ite_false (decide_eq_false (by omega)) ⟨out, rfl, C.boxed.mono fun w h => vec_pols h⟩
end Go.Proofs.YtdnhoebcomffoaaGreatDoor
end
section
set_option linter.unusedVariables false
set_option linter.unusedSimpArgs false
/- SIGNING, the document's: lists of polys, high parts and hints. -/
namespace Go.Proofs.YtdnhoebcomffoaaGreatDoor
open Go Go.Ev
set_option maxRecDepth 20000
set_option linter.unusedVariables false
theorem ref13_times_ok (x y : SlV) (b : List Int) (fs : List (List Int)) (hl : fs.length ≤ 1000) (w : World) (hx : Nums w x (overL b)) (hy : Pols w y (oversL fs)) :
    Ok Pr f_ref13_times [.slice x.a x.n x.c, .slice y.a y.n y.c] w fun v w' => GaveP w w' v (scaledL b fs) := by
  refine V_ref13_times_of ?_
  unfold V_ref13_times
  have hyl := hy.len
  rw [show (oversL fs).length = fs.length from length_eachL _ _] at hyl
  have hol : (oversL fs).length = fs.length := length_eachL _ _
  refine loop2_up 0 fs.length (fun i (out : SlV) w' => Col Nums t_s_int w [] [] w' out ((List.range i).map fun i => backL (mulP (overL b) (overL (fs.getD i []))))) rfl (by omega) (Col.start (Mine.start w)) ?_ ?_
  · intro again i out w1 _ hi C hag
    refine ite_true (decide_eq_true (by omega)) ((hy.mod0 C.mod).ld (i := i) (by omega) rfl fun f hf => ?_)
    rw [show (oversL fs).getD i [] = overL (fs.getD i []) from getD_eachL _ _ hi] at hf
    refine call_of (ref10_Times_ok x f _ _ (overL_po _) (overL_po _) _ (hx.mod0 C.mod) hf) ?_
    rintro _ w2 ⟨u, rfl, hu, m2⟩
    have C := C.frame m2
    refine asSl_s (call_of (ref10_Back_ok u _ (mulP_po _ _) _ hu.nums) ?_)
    rintro _ w3 h
    obtain ⟨z, rfl, hz⟩ := h.box
    refine asSl_s (C.add hz elt_vec (by rw [List.length_map, List.length_range]; omega) fun out' w3 C => ⟨⟨by omega, by omega⟩, hag out' w3 ?_⟩)
    rw [range_succ_map]
    exact C
  · intro again out w1 C
    exact ite_false (decide_eq_false (by omega)) ⟨out, rfl, C.boxed.mono fun w h => vec_pols h⟩
end Go.Proofs.YtdnhoebcomffoaaGreatDoor
end
section
set_option linter.unusedVariables false
set_option linter.unusedSimpArgs false
/- BYTES THAT STATEMENTS MAKE of some. -/
namespace Go.Proofs.YtdnhoebcomffoaaGreatDoor
open Go Go.Ev
set_option maxRecDepth 100000
set_option linter.unusedVariables false
/-- so many bytes of some -/
def fullB (b : List B8) (n : Int) (i : Nat) : B8 := BitVec.ofInt 8 (n + i) + (if 0 < b.length then b.getD (i % b.length) 0 else 0)
def fullL (b : List B8) (n : Int) (many : Nat) : List B8 := (List.range many).map (fullB b n)
theorem length_fullL (b : List B8) (n : Int) (many : Nat) : (fullL b n many).length = many := by simp [fullL]
theorem set_mid {A : Type} (p q : List A) (x y : A) (n : Nat) (hn : n = p.length) : (p ++ x :: q).set n y = p ++ y :: q := by
  subst hn
  rw [List.set_append_right _ _ (Nat.le_refl _), Nat.sub_self, List.set_cons_zero]
theorem getD_mid {A : Type} (p q : List A) (x d : A) (n : Nat) (hn : n = p.length) : (p ++ x :: q).getD n d = x := by
  subst hn
  simp [List.getD_eq_getElem?_getD]
theorem law13_full_ok (x : SlV) (l : List B8) (n : Int) (hn : 0 ≤ n ∧ n ≤ 1000000) (many : Nat) (hm : many ≤ 1000000) (w : World) (hx : Bytes w x l) :
    Ok Pr f_law13_full [.slice x.a x.n x.c, .int .i64 n, .int .i64 (many : Int)] w fun v w' => Gave w w' v (fullL l n many) := by
  refine V_law13_full_of ?_
  unfold V_law13_full
  have hxl := hx.len
  refine (Mine.start w).mkU elt_u8 (by kernel_rfl) (n := many) rfl rfl (by omega) fun y w1 H hyn => ?_
  refine loop1_up 0 many (fun i w' => Mine w [] w' [.row t_uint8 1 y (u8s (fullL l n i ++ List.replicate (many - i) 0))]) rfl (by omega) (by simpa [fullL] using H) ?_ ?_
  · intro again i w2 _ hi H hag
    have hlen : (fullL l n i).length = i := length_fullL l n i
    have hrep : List.replicate (many - i) (0 : B8) = 0 :: List.replicate (many - (i + 1)) 0 := by rw [show many - i = (many - (i + 1)) + 1 by omega]; rfl
    have hsucc : fullL l n (i + 1) ++ List.replicate (many - (i + 1)) 0 = fullL l n i ++ fullB l n i :: List.replicate (many - (i + 1)) 0 := by
      unfold fullL; rw [List.range_succ, List.map_append, List.append_assoc]; rfl
    rw [hsucc] at hag
    have hB : fullB l n i = BitVec.ofInt 8 (n + i) + (if 0 < l.length then l.getD (i % l.length) 0 else 0) := rfl
    generalize fullB l n i = B at *
    rw [hrep] at H
    generalize fullL l n i = F at *
    generalize List.replicate (many - (i + 1)) (0 : B8) = Z at *
    have hb := (H.bytes 0 rfl).len
    have hsm : (y.a.isSome = true ∧ 0 ≤ (i : Int) ∧ (i : Int) < ((y.n : Nat) : Int)) := ⟨(H.bytes 0 rfl).some (by omega), by omega, by omega⟩
    refine ite_true (decide_eq_true (by omega)) ⟨⟨by omega, by omega⟩, hsm, ?_⟩
    refine H.st8 0 (BitVec.ofInt 8 (n + i)) rfl (by rw [Nat.mul_one]) (by simp [hlen]) (wrap_u8_any _) fun w3 H => ?_
    change Mine w [] w3 [.row t_uint8 1 y (u8s ((F ++ 0 :: Z).set (Int.toNat (i : Int)) (BitVec.ofInt 8 (n + i))))] at H
    rw [set_mid _ _ _ _ _ (by rw [hlen]; rfl)] at H
    refine ite_intro (fun hc => ?_) (fun hc => ?_)
    · have hc := of_decide_eq_true hc
      have H := H.drew
      refine (H.bytes 0 rfl).ld (i := i) (by simp [hlen]) ?_
      rw [getD_mid _ _ _ _ _ hlen.symm]
      have hxm : i % l.length < l.length := Nat.mod_lt _ (by omega)
      have emod : (i : Int) % ((x.n : Nat) : Int) = ((i % l.length : Nat) : Int) := by rw [← hxl]; exact (Int.natCast_emod i l.length).symm
      refine pos_of hc ⟨by omega, ?_⟩
      rw [emod]
      refine (hx.mod0 H.mod).ld (i := i % l.length) hxm ⟨hsm, ?_⟩
      have eB : IntKind.wrap .u8 (((BitVec.ofInt 8 (n + i)).toNat : Int) + ((l.getD (i % l.length) 0).toNat : Int)) = (B.toNat : Int) := by
        rw [if_pos (by omega)] at hB
        rw [hB, show ((BitVec.ofInt 8 (n + i)).toNat : Int) + ((l.getD (i % l.length) 0).toNat : Int) = (((BitVec.ofInt 8 (n + i)).toNat + (l.getD (i % l.length) 0).toNat : Nat) : Int) by omega, wrap_u8N, BitVec.toNat_add, BitVec.toNat_ofNat]
      refine H.st8 0 B rfl (by rw [Nat.mul_one]) (by simp [hlen]) eB fun w4 H => ⟨⟨by omega, by omega⟩, hag w4 ?_⟩
      change Mine w [] w4 [.row t_uint8 1 y (u8s ((F ++ BitVec.ofInt 8 (n + i) :: Z).set (Int.toNat (i : Int)) B))] at H
      rw [set_mid _ _ _ _ _ (by rw [hlen]; rfl)] at H
      exact H
    · have hc := of_decide_eq_false hc
      refine ⟨⟨by omega, by omega⟩, hag w3 ?_⟩
      rw [if_neg (by omega)] at hB
      rw [hB, show BitVec.ofInt 8 (n + i) + (0 : B8) = BitVec.ofInt 8 (n + i) by simp]
      exact H
  · intro again w2 H
    rw [Nat.sub_self, List.replicate_zero, List.append_nil] at H
    exact ite_false (decide_eq_false (by omega)) ⟨y, rfl, H.fresh0 0 rfl, H.mod⟩
end Go.Proofs.YtdnhoebcomffoaaGreatDoor
end
section
set_option linter.unusedVariables false
set_option linter.unusedSimpArgs false
/- SIGNING, the document's: high parts and hints. -/
namespace Go.Proofs.YtdnhoebcomffoaaGreatDoor
open Go Go.Ev
set_option maxRecDepth 20000
set_option linter.unusedVariables false
theorem ref11_High_ok (set : Int) (his : isSet set = true) (x : SlV) (fs : List (List Int)) (hl : fs.length = (layS set).k) (hb : Below (mOf (layS set).g2) fs) (w : World) (hx : Pols w x fs) :
    Ok Pr f_ref11_High [.int .i64 set, .slice x.a x.n x.c] w fun v w' => GaveC t_uint8 1 w w' v (u8s (highB (layS set).g2 fs)) 0 := by
  refine V_ref11_High_of ?_
  unfold V_ref11_High
  rw [zc_refSet]
  have hG := goodS his
  have hX := goodX his
  refine call_of (ref11_Of_ok set w) ?_
  rintro _ w1 ⟨rfl, m1⟩
  rw [his]
  generalize layS set = s at *
  have hk8 := hG.k
  have hg2 := hX.g2
  have hg0 : 0 < (s.g2 : Int) ∧ (s.g2 : Int) ≤ 261888 := by rcases hg2 with h | h <;> omega
  have hm := mOf_rng hg2
  obtain ⟨m, hm1, hm2, hm3, hm4, hm5⟩ := hiW_blen hg2
  have hxl := hx.len
  have e : 8380416 / (2 * (s.g2 : Int)) = mOf s.g2 := rfl
  have hD := fun i (hi : i < fs.length) => hb.dig hg2 hi
  have hbB : highB s.g2 fs = fs.flatMap (packL (hiW s.g2)) := rfl
  have hw : hiW s.g2 = if (s.g2 : Int) = 95232 then 6 else 4 := rfl
  generalize highB s.g2 fs = HB at *
  refine ⟨_, rfl, as_rSet ⟨_, rfl, rfl, ((Mine.start w).frame m1).nw fun p w2 H _ => H.sT_ref11_Set 0 rfl rfl fun w3 H => ite_false rfl (H.ldI 0 rfl (ad1 p 0) rfl (ite_false (by rw [decide_eq_true (show ((x.n : Nat) : Int) = (s.k : Int) by omega)]; rfl) (join1_of fun go hgo => ?_)))⟩⟩
  have rest : ∀ d : Nat, hiW s.g2 = d → go (d : Int) w3 := by
    intro d hd
    refine hgo _ _ ?_
    rw [hd] at hbB hD hm2 hm3 hm4 hm5
    have H : Mine w [] w3 [.blk p s.cells t_ref11_Set, .row t_uint8 1 ⟨none, 0, 0⟩ (u8s [])] := H.nilrow t_uint8 1
    refine loop2_up 0 fs.length (fun i (out : SlV) w' => out.n = 32 * d * i ∧ Mine w [] w' [.blk p s.cells t_ref11_Set, .row t_uint8 1 out (u8s ((fs.take i).flatMap (packL d)))]) rfl (by omega) ⟨rfl, H⟩ ?_ ?_
    · rintro again i out w5 _ hi ⟨hn, H⟩ hag
      obtain ⟨h256, hd⟩ := hD i hi
      have hbi := (hb _ (mem_getD hi [])).2
      refine H.ldI 0 rfl (ad1 p 0) rfl (ite_true (decide_eq_true (by omega)) ((hx.mod0 H.mod).ld (i := i) hi rfl fun f hf => ?_))
      have hfl := hf.len
      refine ite_false (by rw [decide_eq_true (show ((f.n : Nat) : Int) = 256 by omega)]; rfl) ?_
      refine loop1_up 0 256 (fun k w' => Mine w [] w' [.blk p s.cells t_ref11_Set, .row t_uint8 1 out (u8s ((fs.take i).flatMap (packL d)))]) rfl (by omega) H ?_ ?_
      · intro again1 k w6 _ hk H hag1
        have hv := hbi _ (mem_getD (l := fs.getD i []) (i := k) (by omega) 0)
        refine ite_true (decide_eq_true (by omega)) (join1_of fun go1 hgo1 => ?_)
        have H := H.drew
        have hxx := hx.mod0 H.mod
        refine hxx.ld (i := i) hi rfl fun f1 hf1 => hf1.ld (i := k) (by omega) rfl (ite_false (decide_eq_false (by omega)) (hxx.ld (i := i) hi rfl fun f2 hf2 => hf2.ld (i := k) (by omega) rfl (H.ldI 0 rfl (ad1 p 7) rfl ⟨⟨by omega, by omega⟩, pos_of (by omega) ⟨⟨by omega, by rw [i64max]; omega⟩, ?_⟩⟩)))
        rw [e]
        exact hgo1 _ _ (ite_false (decide_eq_false (by omega)) ⟨⟨by omega, by omega⟩, hag1 _ H⟩)
      · intro again1 w6 H
        refine ite_false (decide_eq_false (by omega)) ((hx.mod0 H.mod).ld (i := i) hi rfl fun f2 hf2 => ?_)
        rw [flatMap_take_succ _ _ _ hi] at hag
        generalize fs.getD i [] = A at *
        generalize (fs.take i).flatMap (packL d) = B at *
        refine call_of (ref5_Pack_ok d (by omega) (by omega) f2 A (by omega) hd _ hf2) ?_
        rintro _ w7 ⟨q, rfl, hq, m7⟩
        have H := H.got m7 hq
        have hql := (H.bytes 2 rfl).len
        rw [length_packL, h256] at hql
        have hmul : 32 * d * (i + 1) = 32 * d * i + 32 * d := by rw [Nat.mul_add, Nat.mul_one]
        have hmm : 32 * d * (i + 1) ≤ 32 * d * 8 := Nat.mul_le_mul_left _ (by omega)
        refine asSl_s (H.app8 1 elt_u8 rfl (H.bytes 2 rfl) (by omega) fun out' w8 H hn' => ⟨⟨by omega, by omega⟩, hag out' w8 ⟨by omega, ?_⟩⟩)
        exact H.front (L := [.blk p s.cells t_ref11_Set, .row t_uint8 1 out' (u8s (B ++ packL d A))]) (L2 := [.row t_uint8 1 q (u8s (packL d A))])
    · rintro again out w5 ⟨hn, H⟩
      rw [List.take_of_length_le (Nat.le_refl _), ← hbB] at H
      exact H.ldI 0 rfl (ad1 p 0) rfl (ite_false (decide_eq_false (by omega)) ⟨out, rfl, H.fresh0 1 rfl, H.mod⟩)
  refine H.ldI 0 rfl (ad1 p 7) rfl (ite_intro (fun hc => ?_) (fun hc => ?_))
  · rw [if_pos (of_decide_eq_true hc)] at hw
    exact rest 6 hw
  · rw [if_neg (of_decide_eq_false hc)] at hw
    exact rest 4 hw
theorem byte_set {w0 w : World} {S : List Nat} {L : List Res} (H : Mine w0 S w L) (k : Nat) {y : SlV} {A Z : List B8} {b : B8} (x : B8) {n idx : Int} {K : World → Prop} (hk : L[k]? = some (.row t_uint8 1 y (u8s (A ++ b :: Z)))) (hi : idx = (A.length : Int)) (hn : n = (x.toNat : Int))
    (h : ∀ w', Mine w0 S w' (L.set k (.row t_uint8 1 y (u8s (A ++ x :: Z)))) → K w') : idxS y.a idx y.n (st (Addr.add (base y.a) (Int.toNat idx * 1)) (.int .u8 n) w K) := by
  subst hi hn
  have hb := (H.bytes k hk).len
  rw [List.length_append, List.length_cons] at hb
  refine ⟨⟨(H.bytes k hk).some (by omega), by omega, by omega⟩, H.st8 k (i := A.length) x hk (by rw [Nat.mul_one, Int.toNat_natCast]) (by simp) rfl fun w' H => h w' ?_⟩
  rw [set_mid _ _ _ _ _ rfl] at H
  exact H
theorem onesTo_mono (f : List Int) {i j : Nat} (h : i ≤ j) : (onesTo f i).length ≤ (onesTo f j).length := by
  induction j with
  | zero => rw [Nat.le_zero.1 h]; exact Nat.le_refl _
  | succ j ih =>
    rcases Nat.lt_or_ge j i with h1 | h1
    · rw [show i = j + 1 by omega]; exact Nat.le_refl _
    · have := ih h1
      rw [onesTo_succ, List.length_append]; omega
theorem plc_mono (fs : List (List Int)) {i j : Nat} (h : i ≤ j) : (plc fs i).length ≤ (plc fs j).length := by
  induction j with
  | zero => rw [Nat.le_zero.1 h]; exact Nat.le_refl _
  | succ j ih =>
    rcases Nat.lt_or_ge j i with h1 | h1
    · rw [show i = j + 1 by omega]; exact Nat.le_refl _
    · have := ih h1
      rw [plc_succ, List.length_append]; omega
theorem ref11_Hints_ok (set : Int) (his : isSet set = true) (x : SlV) (fs : List (List Int)) (hl : fs.length = (layS set).k) (hb : Below 2 fs) (w : World) (hx : Pols w x fs) :
    Ok Pr f_ref11_Hints [.int .i64 set, .slice x.a x.n x.c] w fun v w' => GaveC t_uint8 1 w w' v (u8s (hintR (layS set) fs)) (hintC (layS set) fs) := by
  refine V_ref11_Hints_of ?_
  unfold V_ref11_Hints
  rw [zc_refSet]
  have hG := goodS his
  have hX := goodX his
  refine call_of (ref11_Of_ok set w) ?_
  rintro _ w1 ⟨rfl, m1⟩
  rw [his]
  generalize layS set = s at *
  have hk8 := hG.k
  have hom := hX.omega
  have hxl := hx.len
  have hR : hintR s fs = if hintC s fs = 0 then hintB s fs else [] := rfl
  have hC : hintC s fs = if (plc fs fs.length).length ≤ s.omega then 0 else 5 := rfl
  have hB : hintB s fs = plc fs fs.length ++ (List.replicate (s.omega - (plc fs fs.length).length) 0 ++ endsL fs fs.length) := rfl
  have hE := fun i => range_succ_map (fun j => (BitVec.ofNat 8 (min (plc fs (j + 1)).length 255) : B8)) i
  change ∀ i, endsL fs (i + 1) = endsL fs i ++ [BitVec.ofNat 8 (min (plc fs (i + 1)).length 255)] at hE
  have hEl2 : ∀ i, (endsL fs i).length = i := fun i => by simp [endsL]
  generalize hintR s fs = RR at *
  generalize hintC s fs = C at *
  generalize hintB s fs = BB at *
  refine ⟨_, rfl, as_rSet ⟨_, rfl, rfl, ((Mine.start w).frame m1).nw fun p w2 H _ => H.sT_ref11_Set 0 rfl rfl fun w3 H => ite_false rfl (H.ldI 0 rfl (ad1 p 0) rfl (ite_false (by rw [decide_eq_true (show ((x.n : Nat) : Int) = (s.k : Int) by omega)]; rfl) ?_))⟩⟩
  have H : Mine w [] w3 [.blk p s.cells t_ref11_Set] := H
  refine loop1_up 0 fs.length (fun i w' => Mine w [] w' [.blk p s.cells t_ref11_Set]) rfl (by omega) H ?_ ?_
  · intro again i w4 _ hi H hag
    obtain ⟨h256, hbi⟩ := hb _ (mem_getD hi [])
    refine ite_true (decide_eq_true (by omega)) ((hx.mod0 H.mod).ld (i := i) hi rfl fun f hf => ?_)
    have hfl := hf.len
    refine ite_false (by rw [decide_eq_true (show ((f.n : Nat) : Int) = 256 by omega)]; rfl) ?_
    refine loop1_up 0 256 (fun k w' => Mine w [] w' [.blk p s.cells t_ref11_Set]) rfl (by omega) H ?_ ?_
    · intro again1 k w5 _ hk H hag1
      have hv := hbi _ (mem_getD (l := fs.getD i []) (i := k) (by omega) 0)
      have hxx := hx.mod0 H.mod
      refine ite_true (decide_eq_true (by omega)) (join1_of fun go1 hgo1 => ?_)
      have ok : go1 false w5 := hgo1 _ _ (ite_false rfl ⟨⟨by omega, by omega⟩, hag1 _ H⟩)
      refine hxx.ld (i := i) hi rfl fun f1 hf1 => hf1.ld (i := k) (by omega) rfl (ite_intro (fun hc => ?_) (fun hc => ok))
      have hc : ¬ (fs.getD i []).getD k 0 = 0 := by simpa using hc
      refine hxx.ld (i := i) hi rfl fun f2 hf2 => hf2.ld (i := k) (by omega) rfl ?_
      rw [decide_eq_true (show (fs.getD i []).getD k 0 = 1 by omega)]
      exact ok
    · intro again1 w5 H
      exact ite_false (decide_eq_false (by omega)) ⟨⟨by omega, by omega⟩, hag w5 H⟩
  · intro again w4 H
    have hp0 : plc fs 0 = [] := rfl
    have he0 : endsL fs 0 = [] := rfl
    refine ite_false (decide_eq_false (by omega)) (H.ldI 0 rfl (ad1 p 5) rfl (H.ldI 0 rfl (ad1 p 0) rfl ⟨⟨by omega, by omega⟩, H.mkU elt_u8 (by kernel_rfl) (n := s.omega + s.k) (by omega) (by omega) (by omega) fun z w5 H hzn => ?_⟩))
    refine loop2_up 0 fs.length (fun i (n : Int) w' => n = ((plc fs i).length : Int) ∧ (plc fs i).length ≤ s.omega ∧ Mine w [] w' [.blk p s.cells t_ref11_Set, .row t_uint8 1 z (u8s (plc fs i ++ (List.replicate (s.omega - (plc fs i).length) 0 ++ (endsL fs i ++ List.replicate (fs.length - i) 0))))]) rfl (by omega) ⟨by rw [hp0]; rfl, by rw [hp0]; simp, ?_⟩ ?_ ?_
    · rw [hp0, he0, List.nil_append, List.nil_append, List.length_nil, Nat.sub_zero, Nat.sub_zero, List.replicate_append_replicate, hl]
      exact H
    · rintro again1 i _ w6 _ hi ⟨rfl, hle, H⟩ hag1
      obtain ⟨h256, hbi⟩ := hb _ (mem_getD hi [])
      have hps := plc_succ fs i
      have hpm := plc_mono fs (i := i + 1) (j := fs.length) (by omega)
      have hE := hE i
      have hEl := hEl2 i
      generalize endsL fs (i + 1) = E1 at *
      generalize endsL fs i = E at *
      generalize plc fs (i + 1) = P1 at *
      generalize plc fs i = P at *
      generalize hZ : List.replicate (fs.length - i) (0 : B8) = Z at *
      refine H.ldI 0 rfl (ad1 p 0) rfl (ite_true (decide_eq_true (by omega)) ?_)
      refine loop2_up 0 256 (fun j (n : Int) w' => n = ((P ++ onesTo (fs.getD i []) j).length : Int) ∧ (P ++ onesTo (fs.getD i []) j).length ≤ s.omega ∧ Mine w [] w' [.blk p s.cells t_ref11_Set, .row t_uint8 1 z (u8s ((P ++ onesTo (fs.getD i []) j) ++ (List.replicate (s.omega - (P ++ onesTo (fs.getD i []) j).length) 0 ++ (E ++ Z))))]) rfl (by omega) ⟨by simp [onesTo], by simpa [onesTo] using hle, by simpa [onesTo] using H⟩ ?_ ?_
      · rintro again2 j _ w7 _ hj ⟨rfl, hle2, H⟩ hag2
        have hos := onesTo_succ (fs.getD i []) j
        have hmo := onesTo_mono (fs.getD i []) (i := j + 1) (j := 256) (by omega)
        have hpl : P1.length = P.length + (onesTo (fs.getD i []) 256).length := by rw [hps, List.length_append]
        generalize onesTo (fs.getD i []) (j + 1) = O1 at *
        generalize hQ : P ++ onesTo (fs.getD i []) j = Q at *
        have hQl : Q.length = P.length + (onesTo (fs.getD i []) j).length := by rw [← hQ, List.length_append]
        refine ite_true (decide_eq_true (by omega)) ((hx.mod0 H.mod).ld (i := i) hi rfl fun f hf => hf.ld (i := j) (by omega) rfl (ite_intro (fun hc => ?_) (fun hc => ?_)))
        · rw [if_pos (of_decide_eq_true hc)] at hos
          have hol : O1.length = (onesTo (fs.getD i []) j).length + 1 := by rw [hos, List.length_append]; rfl
          refine H.ldI 0 rfl (ad1 p 5) rfl (ite_intro (fun hc2 => ?_) (fun hc2 => ?_))
          · have hc2 := of_decide_eq_true hc2
            rw [if_neg (by omega)] at hC
            rw [hC, if_neg (by decide)] at hR
            rw [hC, hR]
            exact ⟨⟨none, 0, 0⟩, rfl, Own.nil _ _ _ _, H.mod⟩
          · have hc2 := of_decide_eq_false hc2
            have hrep : List.replicate (s.omega - Q.length) (0 : B8) = 0 :: List.replicate (s.omega - (Q.length + 1)) 0 := by rw [show s.omega - Q.length = (s.omega - (Q.length + 1)) + 1 by omega]; rfl
            rw [hrep, List.cons_append] at H
            refine byte_set H 1 (BitVec.ofNat 8 j) rfl rfl (wrap_u8N j) fun w8 H => ⟨⟨by omega, by omega⟩, ⟨by omega, by omega⟩, hag2 _ w8 ?_⟩
            have e1 : P ++ O1 = Q ++ [BitVec.ofNat 8 j] := by rw [hos, ← hQ, List.append_assoc]
            rw [e1]
            refine ⟨by simp, by simp; omega, ?_⟩
            rw [show (Q ++ [BitVec.ofNat 8 j]).length = Q.length + 1 by simp, List.append_assoc]
            exact H
        · rw [if_neg (of_decide_eq_false hc), List.append_nil] at hos
          refine ⟨⟨by omega, by omega⟩, hag2 _ w7 ?_⟩
          rw [hos, hQ]
          exact ⟨rfl, hle2, H⟩
      · rintro again2 _ w7 ⟨rfl, hle2, H⟩
        rw [← hps] at H hle2 ⊢
        have hrep : Z = 0 :: List.replicate (fs.length - (i + 1)) 0 := by rw [← hZ, show fs.length - i = (fs.length - (i + 1)) + 1 by omega]; rfl
        have e1 : P1 ++ (List.replicate (s.omega - P1.length) 0 ++ (E ++ Z)) = (P1 ++ (List.replicate (s.omega - P1.length) 0 ++ E)) ++ 0 :: List.replicate (fs.length - (i + 1)) 0 := by rw [hrep]; simp
        rw [e1] at H
        refine ite_false (decide_eq_false (by omega)) (H.ldI 0 rfl (ad1 p 5) rfl ⟨⟨by omega, by omega⟩, byte_set H 1 (BitVec.ofNat 8 (min P1.length 255)) rfl (by rw [List.length_append, List.length_append, List.length_replicate]; omega) (by rw [show min P1.length 255 = P1.length by omega]; exact wrap_u8N _) fun w8 H => ⟨⟨by omega, by omega⟩, hag1 _ w8 ⟨rfl, hle2, ?_⟩⟩⟩)
        have e2 : P1 ++ (List.replicate (s.omega - P1.length) 0 ++ (E1 ++ List.replicate (fs.length - (i + 1)) 0)) = (P1 ++ (List.replicate (s.omega - P1.length) 0 ++ E)) ++ BitVec.ofNat 8 (min P1.length 255) :: List.replicate (fs.length - (i + 1)) 0 := by rw [hE]; simp
        rw [e2]
        exact H
    · rintro again1 _ w6 ⟨rfl, hle, H⟩
      rw [if_pos hle] at hC
      rw [hC, if_pos rfl] at hR
      rw [Nat.sub_self, List.replicate_zero, List.append_nil, ← hB] at H
      refine H.ldI 0 rfl (ad1 p 0) rfl (ite_false (decide_eq_false (by omega)) ?_)
      rw [hC, hR]
      exact ⟨z, rfl, H.fresh0 1 rfl, H.mod⟩
end Go.Proofs.YtdnhoebcomffoaaGreatDoor
end
section
set_option linter.unusedVariables false
set_option linter.unusedSimpArgs false
namespace Go.Ev
open Go
theorem wpIn_of_wp {P : Program} {o : Oper} (hd : ∀ c, o.op ≠ .defer c) {l n : Nat} {a : Act} {w : World} {next : Act → World → Prop} {Q : Exit → Act → World → Prop} (h : o.wp P a w next Q) : o.wpIn (Fence.wide.inRound l) n P a w next Q := by
  refine ⟨fun f _ => trivial, ?_⟩
  rw [Oper.semAt_eq _ _ _ hd]
  unfold Oper.wp at h
  revert h
  generalize (execOp a.eval o).run P w = r
  intro h
  match r, h with
  | .ok (.value v) w', h => exact h
  | .ok .skip w', h => exact h
  | .ok (.defer d) w', h => exact h
  | .ok (.enter f args) w', h => exact ⟨fun h => absurd h (by simp [Fence.inRound, Fence.wide]), (callsIn_wide.2 h : CallsIn Fence.wide _ _ _ _ _ _)⟩
  | .ok (.row row args) w', h => exact ⟨fun h => absurd h (by simp [Fence.inRound, Fence.wide]), fun c cs _ => let ⟨v, w2, hr, hs⟩ := h c cs; ⟨v, w2, hr, by rw [fenced_inRound]; exact stepsIn_wide.2 hs⟩⟩
  | .halt (.panic v) w', h => exact h
theorem opsIn_of {P : Program} {ops : Array Oper} (hd : ∀ (i : Nat) o, ops[i]? = some o → ∀ c, o.op ≠ .defer c) {Q : Exit → Act → World → Prop} (hno : ¬ LetsOut Q) {l n : Nat} : ∀ (idx : List Nat) (a : Act) (w : World), wpOps P ops Q idx a w → wpOpsIn (Fence.wide.inRound l) n P ops Q idx a w
  | [], a, w, h => h
  | i :: rest, a, w, h => by
    unfold wpOps at h
    unfold wpOpsIn
    cases ho : ops[i]? with
    | none =>
      rw [ho] at h
      exact opsIn_of hd hno rest a w h
    | some o =>
      rw [ho] at h
      simp only at h ⊢
      split
      · rename_i hw
        rw [if_pos hw] at h
        rcases h with h | h
        · exact wpIn_of_wp (hd i o ho) (Oper.wp_mono (fun a w h => opsIn_of hd hno rest a w h) h)
        · exact absurd h.2 hno
      · rename_i hw
        rw [if_neg hw] at h
        exact ⟨fun f _ => trivial, opsIn_of hd hno rest _ w h⟩
end Go.Ev
end
section
set_option linter.unusedVariables false
set_option linter.unusedSimpArgs false
/- THE EVALUATOR IN A ROUND OF A LOOP OVER A FUNCTION: regions. -/
namespace Go.Ev
open Go
variable {P : Program} {n : Nat} {ws : List Nat} {f0 : Fr} {ops : Array Oper}
theorem evR_in [Dfr] (hP : Good P) (hnd : ∀ (i : Nat) o, ops[i]? = some o → ∀ c, o.op ≠ .defer c) {m : Mode} {draw : Bool} {id l k : Nat} {fr : Fr} {a : Act} {w : World} {K : Fr → World → Prop} {Q : Exit → Act → World → Prop} (hQ : ∀ fr a w, Kn n ws f0 ⟨fr, [], []⟩ a → K fr w → Q .normal a w)
    (hd : ∀ o ∈ ops.toList, ∀ d, o.dst = some d → d < n ∧ d ∈ ws) (hk : Kn n ws f0 ⟨fr, [], []⟩ a) (h : evR P m ops draw fr w K) : (Code.region id ops draw).wpIn (Fence.wide.inRound l) k P Q a w := by
  have hno : ¬ LetsOut (Q0 fun a w => Q .normal a w) := fun ⟨a, w, h⟩ => h.elim
  unfold evR at h
  cases draw with
  | false =>
    have h1 : wpList P ops (Q0 fun a w => Q .normal a w) ops.toList a w := evL_ok (Q := Q0 fun a w => Q .normal a w) hP hd (fun fr a w h1 h2 => hQ fr a w h1 h2) _ _ a w hd hk h
    have h2 : (Code.region id ops false).wpIn (Fence.wide.inRound l) k P (Q0 fun a w => Q .normal a w) a w := wpIn_region (opsIn_of hnd hno _ _ _ (by rw [List.range_eq_range', ← Array.length_toList, wpOps_eq_wpList ops.toList 0 (by simp)]; exact h1))
    exact wpIn_mono h2 fun e a w hq => by cases e <;> first | exact hq | exact hq.elim
  | true =>
    obtain ⟨hc, h⟩ := cond_ok h
    simp only [Bool.and_eq_true] at hc
    have hl : Lst ops [] (Array.replicate ops.size false) := ⟨by simp, fun j hj => (by simp [hj]), fun j hj => (by cases hj), fun j o _ hm => (by cases hm)⟩
    have h1 := evD_ok hP (Q := fun a w => Q .normal a w) (fun fr a w h1 h2 => hQ fr a w h1 h2) hc.1 hc.2 hd _ [] [] _ a w.drew _ hl hk h
    have h2 : (Code.region id ops true).wpIn (Fence.wide.inRound l) k P (Q0 fun a w => Q .normal a w) a w := wpIn_region_draw fun t => opsIn_of hnd hno _ _ _ (by
      have := anyC_any h1
      rw [Array.length_toList] at this
      simp only [Region.schedule, hP.mixed, Bool.true_or, if_true]
      exact wpAny_sound ops.size t _ a _ this)
    exact wpIn_mono h2 fun e a w hq => by cases e <;> first | exact hq | exact hq.elim
end Go.Ev
end
section
set_option linter.unusedVariables false
set_option linter.unusedSimpArgs false
/- THE EVALUATOR IN A ROUND OF A LOOP OVER A FUNCTION: code. -/
set_option linter.unusedVariables false
namespace Go.Ev
open Go
variable {P : Program} {n : Nat} {m : Mode} {J L : Ann}
/-- may not lay a deferred call -/
def noDefR : List Oper → Bool
  | [] => true
  | o :: r => match o.op with | .defer _ => false | _ => noDefR r
theorem noDefR_ok : ∀ {l : List Oper}, noDefR l = true → ∀ o ∈ l, ∀ c, o.op ≠ .defer c
  | [], _, o, h, _, _ => by cases h
  | x :: r, h, o, ho, c, hc => by
    simp only [noDefR] at h
    rcases List.mem_cons.1 ho with rfl | h1
    · rw [hc] at h; cases h
    · split at h
      · cases h
      · exact noDefR_ok h o h1 c hc
def noDef : Code → Bool
  | .skip | .exit _ | .ret | .label _ => true
  | .region _ ops _ => noDefR ops.toList
  | .seq a b => noDef a && noDef b
  | .cond _ a b => noDef a && noDef b
  | .block _ a => noDef a
  | .loop a => noDef a
  | _ => false
/-- round a loop, in a round of a loop over a function -/
def AgainIn (l i : Nat) (P : Program) (c : Code) (Q : Exit → Act → World → Prop) (a : Act) (w : World) : Prop :=
  ∀ (b : Frame) (k : List Item) (cs : List Frame), b.roundOf = (Fence.wide.inRound l).round → (Fence.wide.inRound l).fn b.fn → (Fence.wide.inRound l).room (cs.length + 1 + i) → ∃ e a' w', Q e a' w' ∧ ArrivesIn (Machine.fenced P (Fence.wide.inRound l)) P (lone (b.atR a (.code c :: .inLoop c :: k)) cs w) b k cs e a' w'
theorem againIn_of {l i : Nat} {c : Code} {Q : Exit → Act → World → Prop} {a : Act} {w : World} (h : c.wpIn (Fence.wide.inRound l) i P (Exit.then (AgainIn l i P c Q) Q) a w) : AgainIn l i P c Q a w := by
  intro b k cs hro hb hr
  obtain ⟨e, a₁, w₁, hq, harr⟩ := h b (.inLoop c :: k) cs hro hb hr
  cases e with
  | normal =>
    obtain ⟨e₂, a₂, w₂, hq₂, harr₂⟩ := hq b k cs hro hb hr
    exact ⟨e₂, a₂, w₂, hq₂, .of_steps (StepsIn.trans harr (.one (fenced_calm hb hr rfl) stepR_inLoop)) harr₂⟩
  | exit id => exact ⟨_, a₁, w₁, hq, .pass (x := .inLoop c) rfl (fun _ _ => .inl (by simp)) harr⟩
  | goto l => exact ⟨_, a₁, w₁, hq, .pass (x := .inLoop c) rfl (fun _ _ => .inl (by simp)) harr⟩
  | ret => exact ⟨_, a₁, w₁, hq, .pass (x := .inLoop c) rfl (fun _ _ => .inl (by simp)) harr⟩
  | panic ch => exact ⟨_, a₁, w₁, hq, .pass (x := .inLoop c) rfl (fun _ _ => .inl (by simp)) harr⟩
  | outgrown => exact ⟨_, a₁, w₁, hq, .pass (x := .inLoop c) rfl (fun _ _ => .inl (by simp)) harr⟩
theorem loopIn_of {l i : Nat} {c : Code} {Q : Exit → Act → World → Prop} {a : Act} {w : World} (h : AgainIn l i P c Q a w) : (Code.loop c).wpIn (Fence.wide.inRound l) i P Q a w := by
  intro b k cs hro hb hr
  obtain ⟨e, a', w', hq, harr⟩ := h b k cs hro hb hr
  exact ⟨e, a', w', hq, .of_steps (.one (fenced_calm hb hr rfl) stepR_loop) harr⟩
theorem evC_in [Dfr] (hP : Good P) {l i : Nat} : ∀ (c : Code), noDef c = true → (∀ d ∈ writes c, d < n) → ∀ {fr : Fr} {a : Act} {w : World} {Q' : Cont} {Q : Exit → Act → World → Prop}, KF n fr a →
    (∀ e fr' a' w', KF n fr' a' → Same (writes c) fr fr' → Q' e fr' w' → Q e a' w') → evC P m J L c fr w Q' → c.wpIn (Fence.wide.inRound l) i P Q a w
  | .skip, _, _, fr, a, w, Q', Q, hk, hq, h => wpIn_skip (hq _ _ _ _ hk (fun _ _ => rfl) h)
  | .exit id, _, _, fr, a, w, Q', Q, hk, hq, h => wpIn_exit (hq _ _ _ _ hk (fun _ _ => rfl) h)
  | .ret, _, _, fr, a, w, Q', Q, hk, hq, h => wpIn_ret (hq _ _ _ _ hk (fun _ _ => rfl) h)
  | .region id ops draw, hn, hw, fr, a, w, Q', Q, hk, hq, h => by
    refine evR_in (n := n) (ws := dsts ops.toList) (f0 := fr) (m := m) hP (fun j o ho c hc => noDefR_ok hn o (Array.mem_toList_iff.2 (Array.mem_of_getElem? ho)) c hc) (K := fun fr' w' => Q' .normal fr' w') (fun fr' a' w' h1 h2 => hq .normal fr' a' w' h1.kf (fun t ht => h1.pres t ht) h2) (fun o ho d hd => ?_) (hk.kn _) h
    have : d ∈ dsts ops.toList := mem_dsts.2 ⟨o, ho, hd⟩
    exact ⟨hw d this, this⟩
  | .cond c x y, hn, hw, fr, a, w, Q', Q, hk, hq, h => by
    simp only [noDef, Bool.and_eq_true] at hn
    simp only [evC] at h
    split at h
    · rename_i t ht
      have hc := (hk.kn []).val (Sat.nil a) ht
      have hx : ∀ d ∈ writes x, d < n := fun d hd => hw d (List.mem_append_left _ hd)
      have hy : ∀ d ∈ writes y, d < n := fun d hd => hw d (List.mem_append_right _ hd)
      refine wpIn_cond hc ?_
      cases t with
      | true =>
        exact evC_in hP x hn.1 hx hk (fun e fr' a' w' h1 h2 h3 => hq e fr' a' w' h1 (fun t ht => h2 t (fun hm => ht (List.mem_append_left _ hm))) h3) h
      | false =>
        exact evC_in hP y hn.2 hy hk (fun e fr' a' w' h1 h2 h3 => hq e fr' a' w' h1 (fun t ht => h2 t (fun hm => ht (List.mem_append_right _ hm))) h3) h
    · exact h.elim
  | .block id c, hn, hw, fr, a, w, Q', Q, hk, hq, h => by
    refine wpIn_block (evC_in hP c hn hw hk (fun e fr' a' w' h1 h2 h3 => ?_) h)
    cases e with
    | exit i =>
      simp only [inBlockC] at h3
      simp only [Exit.inBlock]
      cases hb : Nat.beq i id with
      | true => rw [hb] at h3; rw [if_pos (beq_eq.1 hb)]; exact hq _ _ _ _ h1 h2 h3
      | false => rw [hb] at h3; rw [if_neg (beq_ne.1 hb)]; exact hq _ _ _ _ h1 h2 h3
    | _ => exact hq _ _ _ _ h1 h2 h3
  | .seq x y, hn, hw, fr, a, w, Q', Q, hk, hq, h => by
    simp only [noDef, Bool.and_eq_true] at hn
    have hx : ∀ d ∈ writes x, d < n := fun d hd => hw d (List.mem_append_left _ hd)
    have hy : ∀ d ∈ writes y, d < n := fun d hd => hw d (List.mem_append_right _ hd)
    simp only [evC] at h
    refine wpIn_seq ?_
    split at h
    · refine evC_in hP x hn.1 hx hk (fun e fr' a' w' h1 h2 h3 => ?_) h
      have off : ∀ e, Q' e fr' w' → Q e a' w' := fun e h4 => hq e fr' a' w' h1 (fun t ht => h2 t (fun hm => ht (List.mem_append_left _ hm))) h4
      cases e with
      | normal =>
        exact evC_in hP y hn.2 hy h1 (fun e fr2 a2 w2 h4 h5 h6 => hq e fr2 a2 w2 h4 (fun t ht =>
          (h5 t (fun hm => ht (List.mem_append_right _ hm))).trans (h2 t (fun hm => ht (List.mem_append_left _ hm)))) h6) h3
      | _ => exact off _ h3
    · rename_i ls hls
      obtain ⟨hin, h⟩ := cond_ok h
      have hin := allIn_iff hin
      have h' := h (fun fr1 w' => ∀ a', KF n (fr1 ++ strip (writes x) fr) a' → y.wpIn (Fence.wide.inRound l) i P Q a' w') (allFr_intro fun fr1 hf w' hy' a' hk' =>
        evC_in hP y hn.2 hy hk' (fun e fr2 a2 w2 h4 h5 h6 => hq e fr2 a2 w2 h4 (fun t ht =>
          (h5 t (fun hm => ht (List.mem_append_right _ hm))).trans (look_meet hf hin (fun hm => ht (List.mem_append_left _ hm)))) h6) hy')
      refine evC_in hP x hn.1 hx hk (fun e fr' a' w' h1 h2 h3 => ?_) h'
      have off : ∀ e, Q' e fr' w' → Q e a' w' := fun e h4 => hq e fr' a' w' h1 (fun t ht => h2 t (fun hm => ht (List.mem_append_left _ hm))) h4
      cases e with
      | normal => exact h3 a' (kf_meet h1 h2)
      | _ => exact off _ h3
  | .loop c, hn, hw, fr, a, w, Q', Q, hk, hq, h => by
    simp only [evC] at h
    split at h
    · exact h.elim
    · rename_i ls hls
      obtain ⟨hin, h⟩ := cond_ok h
      have hin := allIn_iff hin
      have h' := h (fun fr1 w' => ∀ a', KF n (fr1 ++ strip (writes c) fr) a' → AgainIn l i P c Q a' w') (allFr_intro fun fr1 hf w' hc' a' hk' => againIn_of (
        evC_in hP c hn hw hk' (fun e fr2 a2 w2 h4 h5 h6 => by
          have same : ∀ t, t ∉ writes c → look t fr2 = look t fr := fun t ht => (h5 t ht).trans (look_meet hf hin ht)
          have off : ∀ e, Q' e fr2 w2 → Q e a2 w2 := fun e h7 => hq e fr2 a2 w2 h4 same h7
          cases e with
          | normal => exact h6 a2 (kf_meet h4 same)
          | _ => exact off _ h6) hc'))
      exact loopIn_of (h' a (kf_meet hk (fun _ _ => rfl)))
  | .rangeFunc .., _, _, _, _, _, _, _, _, _, h => (by simp only [evC] at h)
  | .scope c, hn, _, _, _, _, _, _, _, _, _ => (by cases hn)
  | .label l, _, hw, fr, a, w, Q', Q, hk, hq, h => by
    simp only [evC] at h
    exact wpIn_label (hq _ _ _ _ hk (fun _ _ => rfl) h)
  | .goto _, _, _, _, _, _, _, _, _, _, h => (by simp only [evC] at h)
  | .refuse _, _, _, _, _, _, _, _, _, _, h => (by simp only [evC] at h)
#print axioms evC_in
end Go.Ev
end
section
set_option linter.unusedVariables false
set_option linter.unusedSimpArgs false
/- THE EVALUATOR OVER A FUNCTION WITH A LOOP OVER A FUNCTION ('for x := range seq'): words, and that they are sound. Nothing of a program stands here. -/
set_option linter.unusedVariables false
namespace Go.Ev
open Go Go.RowKit
theorem grown_put (W : World) (l : Nat) (o : Obj) : W.grownBy (W.putObj l o) (some l) :=
  ⟨rfl, rfl, rfl, by simp, fun k _ hk => World.putObj_heap_other (fun e => hk (by rw [e]))⟩

/-! ### words -/
/-- what an iterator promises: gf at yield and what it has caught; Kp: what a round must keep; T: what it turns itself -/
def SeqK (P : Program) {A : Type} (gf : Nat) (lb : List Value) (enc : A → Value) (Kp : World → World → Prop) (T : World → Nat → Prop) (S Sp : List A → Prop) (N : Nat) (w : World) : Prop :=
  ∀ (l : Nat) (J Jx : List A → World → Prop),
    (∀ s W W' row, J s W → W.grownBy W' row → (∀ r, row = some r → T W r) → J s W') →
    (∀ s W W' row, Jx s W → W.grownBy W' row → (∀ r, row = some r → T W r) → Jx s W') →
    (∀ pre x W, J pre W → pre.length < N → YieldAt Fence.wide 0 P l #[enc x] W fun e W' =>
      (e = .returned (.bool true) ∧ J (pre ++ [x]) W' ∧ Kp W W') ∨ (e = .returned (.bool false) ∧ Jx (pre ++ [x]) W')) →
    J [] w → CallsIn Fence.wide 1 P gf (#[.func (.yield l) #[] #[]] ++ ⟨lb⟩) w fun e W' => (∃ v, e = .returned v) ∧ ((∃ xs, S xs ∧ J xs W') ∨ (∃ pre, Sp pre ∧ Jx pre W'))
/-- a loop over a function; D: the block of its rounds' deferred calls, D + 1: its record -/
def rangeK (P : Program) (g : Value) (w : World) (round : Value → World → (World → Prop) → (World → Prop) → Prop) (done stop : World → Prop) : Prop :=
  ∃ gf lb, g = .func (.func gf) #[] ⟨lb⟩ ∧ bodied P gf = true ∧ ∀ (w1 : World) (rec : Obj), w1 = (w.alloc (.deferred (some []))).alloc rec →
    ∃ (A : Type) (enc : A → Value) (Kp : World → World → Prop) (T : World → Nat → Prop) (S Sp : List A → Prop) (N : Nat) (I Ir : List A → World → Prop),
      SeqK P gf lb enc Kp T S Sp N w1 ∧ I [] w1 ∧
      (∀ W r, T W r → r ≠ w.heap.size ∧ r ≠ w.heap.size + 1) ∧
      (∀ W W' o o', Kp (W.putObj (w.heap.size + 1) o) W' → Kp W (W'.putObj (w.heap.size + 1) o')) ∧
      (∀ pre W W' row, I pre W → W.grownBy W' row → (∀ r, row = some r → r = w.heap.size + 1 ∨ T W r) → I pre W') ∧
      (∀ pre W W' row, Ir pre W → W.grownBy W' row → (∀ r, row = some r → r = w.heap.size + 1 ∨ T W r) → Ir pre W') ∧
      (∀ pre x W, I pre W → pre.length < N → round (enc x) W
        (fun W' => W'.heap[w.heap.size]? = W.heap[w.heap.size]? ∧ W'.heap[w.heap.size + 1]? = W.heap[w.heap.size + 1]? ∧ Kp W W' ∧ I (pre ++ [x]) W')
        (fun W' => W'.heap[w.heap.size]? = W.heap[w.heap.size]? ∧ W'.heap[w.heap.size + 1]? = W.heap[w.heap.size + 1]? ∧ Ir (pre ++ [x]) W')) ∧
      (∀ xs W, S xs → I xs W → W.heap[w.heap.size]? = some (.deferred (some [])) → done W) ∧
      (∀ pre W, Sp pre → Ir pre W → W.heap[w.heap.size]? = some (.deferred (some [])) → stop W)
/-- the block of the rounds' deferred calls is shut -/
def retD (D : Nat) (w : World) (K : World → Prop) : Prop := w.heap[D]? = some (.deferred (some [])) ∧ K (w.putObj D (.deferred none))

/-! ### code -/
abbrev ContX := Exit → Fr → List Nat → World → Prop
def hasRange : Code → Bool
  | .rangeFunc .. => true
  | .seq a b | .cond _ a b => hasRange a || hasRange b
  | .block _ a | .loop a | .scope a => hasRange a
  | _ => false
/-- what an element is, if its kind is written down -/
def elemOf (p : Nat) (L : Ann) : Sh := match annOf (some (1000000 + p)) L with | some [(_, sh)] => sh | _ => .val
/-- an assignment of one slot to another -/
def asgOf : Code → Option (Nat × Nat)
  | .region _ ops false => (match ops.toList with
    | [o] => (match o.op, o.dst, o.guard with | .assign (.tmp t), some d, none => some (d, t) | _, _, _ => none)
    | _ => none)
  | _ => none
def writesX : Code → List Nat
  | .rangeFunc _ ps a b => ps.toList ++ (writes a ++ writes b)
  | .seq a b | .cond _ a b => writesX a ++ writesX b
  | .block _ a | .loop a | .scope a => writesX a
  | .region _ ops _ => dsts ops.toList
  | _ => []
def evX (P : Program) (m : Mode) (J L : Ann) : Code → Fr → List Nat → World → ContX → Prop
  | .seq a b, fr, ds, w, Q => cond (hasRange a)
      (match annOf (keyOf b) J with
       | none => evX P m J L a fr ds w fun e fr' ds' w' => match e with | .normal => evX P m J L b fr' ds' w' Q | e => Q e fr' ds' w'
       | some _ => False)
      (cond (hasRange b)
        (match annOf (keyOf b) J with
         | none => evC P m J L a fr w fun e fr' w' => match e with | .normal => evX P m J L b fr' ds w' Q | e => Q e fr' ds w'
         | some ls => cond (allIn ls (writes a)) (∀ K : Fr → World → Prop, (allFr ls fun fr' => ∀ w', evX P m J L b (fr' ++ strip (writes a) fr) ds w' Q → K fr' w') → evC P m J L a fr w fun e fr' w' => match e with | .normal => K (carry fr' ls) w' | e => Q e fr' ds w') False)
        (evC P m J L (.seq a b) fr w fun e fr' w' => Q e fr' ds w'))
  | .block id a, fr, ds, w, Q => cond (hasRange a)
      (evX P m J L a fr ds w fun e fr' ds' w' => match e with | .exit i => cond (Nat.beq i id) (Q .normal fr' ds' w') (Q (.exit i) fr' ds' w') | e => Q e fr' ds' w')
      (evC P m J L (.block id a) fr w fun e fr' w' => Q e fr' ds w')
  | .rangeFunc g ps assign body, fr, ds, w, Q => (match ds, ps.toList, (⟨fr, [], []⟩ : St).val [] g, asgOf assign with
    | [], [p], some gv, some (d, t) => cond (Nat.beq t p && noDef body)
        (rangeK P gv w (fun v W K Kr => asLeaf (elemOf p L) v fun x => evC P m J L body ((d, some x) :: (p, some x) :: fr) W fun e _ W' => match e with | .normal => K W' | .ret => Kr W' | _ => False)
          (fun W => Q .normal fr [w.heap.size] W) (fun W => Q .ret fr [w.heap.size] W)) False
    | _, _, _, _ => False)
  | c, fr, ds, w, Q => cond (hasRange c) False (evC P m J L c fr w fun e fr' w' => Q e fr' ds w')
def bodyX (P : Program) (fn : Func) (R : Value → World → Prop) : ContX := fun e fr ds w => match e with
  | .normal | .ret => (match ds with
    | [] => resAll P fr w fn.results.toList (resOne R w)
    | [D] => retD D w fun w' => resAll P fr w' fn.results.toList (resOne R w')
    | _ => False)
  | _ => False
@[irreducible] def evXF (P : Program) (m : Mode) (J L : Ann) (fn : Func) (args : List Value) (w : World) (R : Value → World → Prop) : Prop :=
  match fn.body with
  | some c => cond (allLt fn.ntmps (writesX c)) (evX P m J L c (frOf 0 args) [] w (bodyX P fn R)) False
  | none => False

/-! ### soundness -/
variable {P : Program} {n : Nat} {m : Mode} {J L : Ann}
abbrev dfr (ds : List Nat) : Dfr := ⟨ds.map fun D => { target := .collected D, args := #[] }⟩
abbrev KX (n : Nat) (ds : List Nat) (fr : Fr) (a : Act) : Prop := @KF (dfr ds) n fr a
theorem writes_of_X : ∀ {c : Code}, ∀ d ∈ writes c, d ∈ writesX c
  | .region _ _ _, d, h => h
  | .seq a b, d, h => by
    rcases List.mem_append.1 h with h | h
    · exact List.mem_append_left _ (writes_of_X d h)
    · exact List.mem_append_right _ (writes_of_X d h)
  | .cond _ a b, d, h => by
    rcases List.mem_append.1 h with h | h
    · exact List.mem_append_left _ (writes_of_X d h)
    · exact List.mem_append_right _ (writes_of_X d h)
  | .block _ a, d, h => writes_of_X (c := a) d h
  | .loop a, d, h => writes_of_X (c := a) d h
  | .scope a, d, h => writes_of_X (c := a) d h
  | .rangeFunc .., d, h => by cases h
  | .skip, d, h => by cases h
  | .exit _, d, h => by cases h
  | .label _, d, h => by cases h
  | .goto _, d, h => by cases h
  | .ret, d, h => by cases h
  | .refuse _, d, h => by cases h
theorem evC_wide (hP : Good P) {c : Code} (hw : ∀ d ∈ writesX c, d < n) {ds : List Nat} {fr : Fr} {a : Act} {w : World} {Q' : Cont} {Q : Exit → Act → World → Prop} {i : Nat} (hk : KX n ds fr a)
    (hq : ∀ e fr' a' w', KX n ds fr' a' → Same (writes c) fr fr' → Q' e fr' w' → Q e a' w') (h : evC P m J L c fr w Q') : c.wpIn Fence.wide i P Q a w :=
  wpIn_wide.2 (@evC_ok P n m J L (dfr ds) hP c (fun d hd => hw d (writes_of_X d hd)) fr a w Q' Q hk hq h)
theorem asgOf_ok {c : Code} {d t : Nat} (h : asgOf c = some (d, t)) : ∃ id o, c = .region id #[o] false ∧ o.op = .assign (.tmp t) ∧ o.dst = some d ∧ o.guard = none := by
  unfold asgOf at h
  split at h
  · rename_i id ops
    split at h
    · rename_i o ho
      split at h
      · rename_i h1 h2 h3
        simp only [Option.some.injEq, Prod.mk.injEq] at h
        obtain ⟨rfl, rfl⟩ := h
        refine ⟨id, o, ?_, h1, h2, h3⟩
        congr 1
        exact Array.toList_inj.1 (by simpa using ho)
      · cases h
    · cases h
  · cases h
theorem asg_in (hP : Good P) {id d t l i : Nat} {o : Oper} (h1 : o.op = .assign (.tmp t)) (h2 : o.dst = some d) (h3 : o.guard = none) (hd : d < n) {fr : Fr} {a : Act} {x : Value} (hk : KX n [] ((t, some x) :: fr) a) {W : World} {K : Act → World → Prop}
    (hK : ∀ a', KX n [] ((d, some x) :: (t, some x) :: fr) a' → K a' W) : (Code.region id #[o] false).wpIn (Fence.wide.inRound l) i P (Exit.then K fun _ _ _ => False) a W := by
  refine @evR_in P n [d] ((t, some x) :: fr) #[o] (dfr []) hP (fun j o' ho c hc => ?_) ⟨true, true⟩ false id l i ((t, some x) :: fr) a W (fun fr' w' => fr' = (d, some x) :: (t, some x) :: fr ∧ w' = W) _ (fun fr' a' w' hk' h => ?_) (fun o' ho d' hd' => ?_) (@KF.kn n (dfr []) _ a hk [d]) ?_
  · have : o' = o := by
      match j, ho with
      | 0, ho => simpa using ho.symm
      | j + 1, ho => simp at ho
    subst this; rw [h1] at hc; cases hc
  · obtain ⟨rfl, rfl⟩ := h
    exact hK a' (@Kn.kf n (dfr []) _ _ _ a' hk')
  · have : o' = o := by simpa using ho
    subst this
    rw [h2] at hd'; cases hd'
    exact ⟨hd, by simp⟩
  · simp only [evR, cond_false, evL, stepEv, h3, runEv, h1, h2, St.put, St.val, lookC, look, Nat.beq_refl, cond_true, tomb, and_self]
theorem asLeaf_self {sh : Sh} {v : Value} {K : Value → Prop} (h : asLeaf sh v K) : K v := by
  cases sh <;> first | exact h | (obtain ⟨_, rfl, h⟩ := h; exact h)
theorem foldl_one (ps : Array Tmp) (p : Nat) (hp : ps.toList = [p]) (x : Value) (t0 : Array Value) : (ps.zip #[x]).foldl (fun tmps (t, v) => tmps.setIfInBounds t v) t0 = t0.setIfInBounds p x := by
  obtain rfl : ps = #[p] := Array.toList_inj.1 (by simpa using hp)
  simp
theorem KX.round {fr : Fr} {a : Act} (hk : KX n [] fr a) {p : Nat} (hp : p < n) (x : Value) : KX n [] ((p, some x) :: fr) { tmps := a.tmps.setIfInBounds p x, defers := [] } := by
  refine @KF.mk (dfr []) n _ _ (by simp [hk.size]) rfl fun t v hl => ?_
  simp only [look] at hl
  cases hb : Nat.beq p t with
  | true =>
    rw [hb] at hl
    cases hl
    have e := beq_eq.1 hb
    subst e
    show Array.getD (a.tmps.setIfInBounds p x) p undef = x
    simp [Array.getD_eq_getD_getElem?, hk.size, hp]
  | false =>
    rw [hb] at hl
    have := hk.fr t v hl
    show Array.getD (a.tmps.setIfInBounds p x) t undef = v
    have hne := beq_ne.1 hb
    rw [Array.getD_eq_getD_getElem?, Array.getElem?_setIfInBounds_ne hne, ← Array.getD_eq_getD_getElem?]
    exact this
/-- the statement 'for x := range g' -/
theorem range_ok (hP : Good P) {g : Operand} {ps : Array Tmp} {assign body : Code} {p d : Nat} {gv : Value} (hps : ps.toList = [p]) (hasg : asgOf assign = some (d, p)) (hnd : noDef body = true)
    (hw : ∀ x ∈ writesX (.rangeFunc g ps assign body), x < n) {fr : Fr} {a : Act} {w : World} (hk : KX n [] fr a) (hg : a.eval g = gv) {done stop : World → Prop} {Q : Exit → Act → World → Prop}
    (h : rangeK P gv w (fun v W K Kr => asLeaf (elemOf p L) v fun x => evC P m J L body ((d, some x) :: (p, some x) :: fr) W fun e _ W' => match e with | .normal => K W' | .ret => Kr W' | _ => False) done stop)
    (hdone : ∀ a' W, KX n [w.heap.size] fr a' → done W → Q .normal a' W) (hstop : ∀ a' W, KX n [w.heap.size] fr a' → stop W → Q .ret a' W) :
    (Code.rangeFunc g ps assign body).wpIn Fence.wide 2 P Q a w := by
  refine wpIn_rangeFunc fun fn _ => ?_
  obtain ⟨gf, lb, rfl, hbod, h⟩ := h
  obtain ⟨rec, hrec⟩ : ∃ rec : LoopState → Option Code → Loop, rec = fun st pe => { state := st, pending := pe, fn, tmps := a.tmps, params := ps, assign, body, defers := w.heap.size } := ⟨_, rfl⟩
  obtain ⟨w1, hw1⟩ : ∃ w1, w1 = (w.alloc (.deferred (some []))).alloc (.loop (rec .ready none)) := ⟨_, rfl⟩
  obtain ⟨A, enc, Kp, T, S, Sp, N, I, Ir, hseq, h0, hT, hKp, hI, hIr, hround, hd, hs⟩ := h w1 (.loop (rec .ready none)) hw1
  have hL1 : w1.heap[w.heap.size + 1]? = some (.loop (rec .ready none)) := by
    rw [hw1]; have := World.alloc_heap_new (w.alloc (.deferred (some []))) (.loop (rec .ready none)); rwa [World.size_alloc] at this
  have hD1 : w1.heap[w.heap.size]? = some (.deferred (some [])) := by
    rw [hw1]; exact (Below.heap_alloc _ _ _ (by simp)).trans (World.alloc_heap_new w _)
  have hp : p < n := hw p (List.mem_append_left _ (by rw [hps]; simp))
  obtain ⟨aid, ao, rfl, ha1, ha2, ha3⟩ := asgOf_ok hasg
  have hdn : d < n := hw d (List.mem_append_right _ (List.mem_append_left _ (mem_dsts.2 ⟨ao, by simp, ha2⟩)))
  have hwb : ∀ x ∈ writes body, x < n := fun x hx => hw x (List.mem_append_right _ (List.mem_append_right _ hx))
  refine ⟨w.heap.size + 1, [{ target := .collected w.heap.size, args := #[] }], w1, { target := .fn (.func gf) ⟨lb⟩, args := #[.func (.yield (w.heap.size + 1)) #[] #[]] }, w1, gf,
    #[.func (.yield (w.heap.size + 1)) #[] #[]] ++ ⟨lb⟩, w1, ?_, ?_, fun _ _ => trivial, ?_, fun h => by simp [Fence.wide] at h, ?_⟩
  · rw [hw1, hrec]; exact run_enterLoop_outer _ _ _ _ _
  · simp only [resolve, hg]
    simp [go_sem]
  · have := callFunc_ok hP hbod (#[.func (.yield (w.heap.size + 1)) #[] #[]] ++ (⟨lb⟩ : Array Value)) w1
    simp [invoke, go_sem]
    simpa using this
  · have stab : ∀ {I : List A → World → Prop}, (∀ pre W W' row, I pre W → W.grownBy W' row → (∀ r, row = some r → r = w.heap.size + 1 ∨ T W r) → I pre W') → ∀ pre W o, I pre W → I pre (W.putObj (w.heap.size + 1) o) :=
      fun hI pre W o h => hI pre W _ (some (w.heap.size + 1)) h (grown_put W _ o) fun r e => .inl (Option.some.inj e).symm
    have keep : ∀ {W W' : World} {row : Option Nat} {k : Nat} {o : Obj}, W.grownBy W' row → (∀ r, row = some r → T W r) → (k = w.heap.size ∨ k = w.heap.size + 1) → W.heap[k]? = some o → W'.heap[k]? = some o := fun {W W' row k o} hg hr hk ho => by
      refine (hg.block k (Array.getElem?_eq_some_iff.1 ho).1 fun e => ?_).trans ho
      have := hT W k (hr k e.symm)
      omega
    refine (hseq (w.heap.size + 1)
      (fun pre W => I pre W ∧ W.heap[w.heap.size + 1]? = some (.loop (rec .ready none)) ∧ W.heap[w.heap.size]? = some (.deferred (some [])))
      (fun pre W => Ir pre W ∧ W.heap[w.heap.size + 1]? = some (.loop (rec .done (some .ret))) ∧ W.heap[w.heap.size]? = some (.deferred (some [])))
      (fun s W W' row hs hg' hr => ⟨hI s W W' row hs.1 hg' fun r e => .inr (hr r e), keep hg' hr (.inr rfl) hs.2.1, keep hg' hr (.inl rfl) hs.2.2⟩)
      (fun s W W' row hs hg' hr => ⟨hIr s W W' row hs.1 hg' fun r e => .inr (hr r e), keep hg' hr (.inr rfl) hs.2.1, keep hg' hr (.inl rfl) hs.2.2⟩)
      ?_ ⟨h0, hL1, hD1⟩).mono ?_
    · rintro pre x W ⟨hi, hl, hD⟩ hlen
      have hlt : w.heap.size + 1 < W.heap.size := (Array.getElem?_eq_some_iff.1 hl).1
      have hps' : ps = #[p] := Array.toList_inj.1 (by simpa using hps)
      have hy := run_yield (P := P) (args := #[enc x]) hl (by rw [hrec]; simp [hps'])
      rw [hrec] at hy
      simp only [foldl_one ps p hps] at hy
      refine ⟨fn, _, _, body, hy, roundIn_of_wpIn (F := Fence.wide) trivial (asg_in hP ha1 ha2 ha3 hdn (hk.round hp (enc x)) fun a₁ hk1 => ⟨_, run_beginRound hl (by rw [hrec]), ?_⟩)⟩
      obtain ⟨Wb, hWb⟩ : ∃ Wb, Wb = W.putObj (w.heap.size + 1) (.loop { rec .ready none with state := .busy }) := ⟨_, rfl⟩
      have hl2 : Wb.heap[w.heap.size + 1]? = some (.loop { rec .ready none with state := .busy }) := by rw [hWb]; exact World.putObj_heap_same hlt
      have hD2 : Wb.heap[w.heap.size]? = some (.deferred (some [])) := by rw [hWb]; exact (World.putObj_heap_other (by omega)).trans hD
      rw [← hWb]
      have hi2 : I pre Wb := by rw [hWb]; exact stab hI pre W _ hi
      have hb := asLeaf_self (hround pre x Wb hi2 hlen)
      refine @evC_in P n m J L (dfr []) hP (w.heap.size + 1) 0 body hnd hwb _ a₁ Wb _ _ hk1 ?_ hb
      intro e fr' a' W3 _ _ hp3
      have fin : ∀ (jump : Option Code), W3.heap[w.heap.size]? = Wb.heap[w.heap.size]? → W3.heap[w.heap.size + 1]? = Wb.heap[w.heap.size + 1]? →
          (Instr.endRound (w.heap.size + 1) jump).run P W3 = .ok (.bool jump.isNone) (W3.putObj (w.heap.size + 1) (.loop (rec (if jump.isNone then .ready else .done) jump))) ∧
          (W3.putObj (w.heap.size + 1) (.loop (rec (if jump.isNone then .ready else .done) jump))).heap[w.heap.size + 1]? = some (.loop (rec (if jump.isNone then .ready else .done) jump)) ∧
          (W3.putObj (w.heap.size + 1) (.loop (rec (if jump.isNone then .ready else .done) jump))).heap[w.heap.size]? = some (.deferred (some [])) := fun jump hkD hkL => by
        have hl3 := hkL.trans hl2
        have := run_endRound (P := P) jump hl3
        rw [hrec] at this ⊢
        exact ⟨this, World.putObj_heap_same (Array.getElem?_eq_some_iff.1 hl3).1, (World.putObj_heap_other (by omega)).trans (hkD.trans hD2)⟩
      cases e with
      | normal =>
        obtain ⟨h1, h2, h3, h4⟩ := hp3
        obtain ⟨hr, hl4, hD4⟩ := fin none h1 h2
        exact ⟨_, _, hr, .inl ⟨rfl, ⟨stab hI _ _ _ h4, hl4, hD4⟩, hKp _ _ _ _ (by rw [← hWb]; exact h3)⟩⟩
      | ret =>
        obtain ⟨h1, h2, h3⟩ := hp3
        obtain ⟨hr, hl4, hD4⟩ := fin (some .ret) h1 h2
        exact ⟨_, _, hr, .inr ⟨rfl, stab hIr _ _ _ h3, hl4, hD4⟩⟩
      | exit id => exact hp3.elim
      | goto t => exact hp3.elim
      | panic ch => exact hp3.elim
      | outgrown => exact hp3.elim
    · have hk2 : ∀ (b : Bool), KX n [w.heap.size] fr { a with defers := [{ target := .collected w.heap.size, args := #[] }] ++ a.defers } := fun _ => by
        refine @KF.mk (dfr [w.heap.size]) n _ _ hk.size ?_ hk.fr
        have := hk.defers
        show [_] ++ a.defers = _
        rw [this]; rfl
      rintro e W2 ⟨⟨v, rfl⟩, (⟨xs, hS, hi, hl, hD⟩ | ⟨pre, hSp, hi, hl, hD⟩)⟩
      · refine ⟨none, _, by have := run_endLoop (P := P) hl (by rw [hrec]; simp); rw [hrec] at this; exact this, ?_⟩
        exact hdone _ _ (hk2 true) (hd xs _ hS (stab hI _ _ _ hi) ((World.putObj_heap_other (by omega)).trans hD))
      · refine ⟨some .ret, _, by have := run_endLoop (P := P) hl (by rw [hrec]; simp); rw [hrec] at this; exact this, ?_⟩
        exact wpIn_ret (hstop _ _ (hk2 true) (hs pre _ hSp (stab hIr _ _ _ hi) ((World.putObj_heap_other (by omega)).trans hD)))
theorem evX_ok (hP : Good P) : ∀ (c : Code), (∀ d ∈ writesX c, d < n) → ∀ {fr : Fr} {ds : List Nat} {a : Act} {w : World} {Q' : ContX} {Q : Exit → Act → World → Prop}, KX n ds fr a →
    (∀ e fr' ds' a' w', KX n ds' fr' a' → Same (writes c) fr fr' → Q' e fr' ds' w' → Q e a' w') → evX P m J L c fr ds w Q' → c.wpIn Fence.wide 2 P Q a w
  | .seq x y, hw, fr, ds, a, w, Q', Q, hk, hq, h => by
    have hx : ∀ d ∈ writesX x, d < n := fun d hd => hw d (List.mem_append_left _ hd)
    have hy : ∀ d ∈ writesX y, d < n := fun d hd => hw d (List.mem_append_right _ hd)
    simp only [evX] at h
    cases hrx : hasRange x with
    | true =>
      rw [hrx, cond_true] at h
      split at h
      · refine wpIn_seq (evX_ok hP x hx hk (fun e fr' ds' a' w' h1 h2 h3 => ?_) h)
        have off : ∀ e, Q' e fr' ds' w' → Q e a' w' := fun e h4 => hq e fr' ds' a' w' h1 (fun t ht => h2 t (fun hm => ht (List.mem_append_left _ hm))) h4
        cases e with
        | normal =>
          exact evX_ok hP y hy h1 (fun e fr2 ds2 a2 w2 h4 h5 h6 => hq e fr2 ds2 a2 w2 h4 (fun t ht =>
            (h5 t (fun hm => ht (List.mem_append_right _ hm))).trans (h2 t (fun hm => ht (List.mem_append_left _ hm)))) h6) h3
        | _ => exact off _ h3
      · exact h.elim
    | false =>
      rw [hrx, cond_false] at h
      cases hry : hasRange y with
      | false =>
        rw [hry, cond_false] at h
        exact evC_wide (m := m) (J := J) (L := L) hP (c := .seq x y) hw hk (fun e fr' a' w' h1 h2 h3 => hq e fr' ds a' w' h1 h2 h3) h
      | true =>
        rw [hry, cond_true] at h
        split at h
        · refine wpIn_seq (evC_wide hP hx hk (fun e fr' a' w' h1 h2 h3 => ?_) h)
          have off : ∀ e, Q' e fr' ds w' → Q e a' w' := fun e h4 => hq e fr' ds a' w' h1 (fun t ht => h2 t (fun hm => ht (List.mem_append_left _ hm))) h4
          cases e with
          | normal =>
            exact evX_ok hP y hy h1 (fun e fr2 ds2 a2 w2 h4 h5 h6 => hq e fr2 ds2 a2 w2 h4 (fun t ht =>
              (h5 t (fun hm => ht (List.mem_append_right _ hm))).trans (h2 t (fun hm => ht (List.mem_append_left _ hm)))) h6) h3
          | _ => exact off _ h3
        · rename_i ls hls
          obtain ⟨hin, h⟩ := cond_ok h
          have hin := allIn_iff hin
          have h' := h (fun fr1 w' => ∀ a', KX n ds (fr1 ++ strip (writes x) fr) a' → y.wpIn Fence.wide 2 P Q a' w') (allFr_intro fun fr1 hf w' hy' a' hk' =>
            evX_ok hP y hy hk' (fun e fr2 ds2 a2 w2 h4 h5 h6 => hq e fr2 ds2 a2 w2 h4 (fun t ht =>
              (h5 t (fun hm => ht (List.mem_append_right _ hm))).trans (look_meet hf hin (fun hm => ht (List.mem_append_left _ hm)))) h6) hy')
          refine wpIn_seq (evC_wide hP hx hk (fun e fr' a' w' h1 h2 h3 => ?_) h')
          have off : ∀ e, Q' e fr' ds w' → Q e a' w' := fun e h4 => hq e fr' ds a' w' h1 (fun t ht => h2 t (fun hm => ht (List.mem_append_left _ hm))) h4
          cases e with
          | normal => exact h3 a' (@kf_meet n (dfr ds) _ _ _ _ _ h1 h2)
          | _ => exact off _ h3
  | .block id c, hw, fr, ds, a, w, Q', Q, hk, hq, h => by
    simp only [evX] at h
    cases hr : hasRange c with
    | false =>
      rw [hr, cond_false] at h
      exact evC_wide (m := m) (J := J) (L := L) hP (c := .block id c) hw hk (fun e fr' a' w' h1 h2 h3 => hq e fr' ds a' w' h1 h2 h3) h
    | true =>
      rw [hr, cond_true] at h
      refine wpIn_block (evX_ok hP c hw hk (fun e fr' ds' a' w' h1 h2 h3 => ?_) h)
      cases e with
      | exit i =>
        simp only [Exit.inBlock]
        cases hb : Nat.beq i id with
        | true => simp only [hb, cond_true] at h3; rw [if_pos (beq_eq.1 hb)]; exact hq _ _ _ _ _ h1 h2 h3
        | false => simp only [hb, cond_false] at h3; rw [if_neg (beq_ne.1 hb)]; exact hq _ _ _ _ _ h1 h2 h3
      | _ => exact hq _ _ _ _ _ h1 h2 h3
  | .rangeFunc g ps assign body, hw, fr, ds, a, w, Q', Q, hk, hq, h => by
    simp only [evX] at h
    split at h
    · rename_i p gv d t hps hg hasg
      obtain ⟨hc, h⟩ := cond_ok h
      simp only [Bool.and_eq_true] at hc
      have e := beq_eq.1 hc.1
      subst e
      have hgv : a.eval g = gv := @Kn.val (dfr []) n [] fr _ a (@KF.kn n (dfr []) _ a hk []) [] (Sat.nil a) _ _ hg
      exact range_ok hP hps hasg hc.2 hw hk hgv h (fun a' W h1 h2 => hq _ _ _ _ _ h1 (fun _ _ => rfl) h2) (fun a' W h1 h2 => hq _ _ _ _ _ h1 (fun _ _ => rfl) h2)
    · exact h.elim
  | .skip, hw, fr, ds, a, w, Q', Q, hk, hq, h => evC_wide (m := m) (J := J) (L := L) hP (c := .skip) hw hk (fun e fr' a' w' h1 h2 h3 => hq e fr' ds a' w' h1 h2 h3) h
  | .exit id, hw, fr, ds, a, w, Q', Q, hk, hq, h => evC_wide (m := m) (J := J) (L := L) hP (c := .exit id) hw hk (fun e fr' a' w' h1 h2 h3 => hq e fr' ds a' w' h1 h2 h3) h
  | .ret, hw, fr, ds, a, w, Q', Q, hk, hq, h => evC_wide (m := m) (J := J) (L := L) hP (c := .ret) hw hk (fun e fr' a' w' h1 h2 h3 => hq e fr' ds a' w' h1 h2 h3) h
  | .label l, hw, fr, ds, a, w, Q', Q, hk, hq, h => evC_wide (m := m) (J := J) (L := L) hP (c := .label l) hw hk (fun e fr' a' w' h1 h2 h3 => hq e fr' ds a' w' h1 h2 h3) h
  | .goto l, hw, fr, ds, a, w, Q', Q, hk, hq, h => evC_wide (m := m) (J := J) (L := L) hP (c := .goto l) hw hk (fun e fr' a' w' h1 h2 h3 => hq e fr' ds a' w' h1 h2 h3) h
  | .refuse l, hw, fr, ds, a, w, Q', Q, hk, hq, h => evC_wide (m := m) (J := J) (L := L) hP (c := .refuse l) hw hk (fun e fr' a' w' h1 h2 h3 => hq e fr' ds a' w' h1 h2 h3) h
  | .region i o r, hw, fr, ds, a, w, Q', Q, hk, hq, h => evC_wide (m := m) (J := J) (L := L) hP (c := .region i o r) hw hk (fun e fr' a' w' h1 h2 h3 => hq e fr' ds a' w' h1 h2 h3) h
  | .cond c x y, hw, fr, ds, a, w, Q', Q, hk, hq, h => by
    simp only [evX] at h
    cases hr : hasRange (.cond c x y) with
    | false => rw [hr] at h; exact evC_wide (m := m) (J := J) (L := L) hP (c := .cond c x y) hw hk (fun e fr' a' w' h1 h2 h3 => hq e fr' ds a' w' h1 h2 h3) h
    | true => rw [hr] at h; exact h.elim
  | .loop c, hw, fr, ds, a, w, Q', Q, hk, hq, h => by
    simp only [evX] at h
    cases hr : hasRange (.loop c) with
    | false => rw [hr] at h; exact evC_wide (m := m) (J := J) (L := L) hP (c := .loop c) hw hk (fun e fr' a' w' h1 h2 h3 => hq e fr' ds a' w' h1 h2 h3) h
    | true => rw [hr] at h; exact h.elim
  | .scope c, hw, fr, ds, a, w, Q', Q, hk, hq, h => by
    simp only [evX] at h
    cases hr : hasRange (.scope c) with
    | false => rw [hr] at h; exact evC_wide (m := m) (J := J) (L := L) hP (c := .scope c) hw hk (fun e fr' a' w' h1 h2 h3 => hq e fr' ds a' w' h1 h2 h3) h
    | true => rw [hr] at h; exact h.elim
/-- THE EVALUATOR IS SOUND -/
theorem evXF_ok (hP : Good P) {f : FuncId} {fn : Func} (hf : P.funcs[f]? = some fn) {args : List Value} (hlen' : Nat.ble args.length fn.ntmps = true) {w : World} {R : Value → World → Prop}
    (h : evXF P m J L fn args w R) : Ok P f args w R := by
  have hlen : args.length ≤ fn.ntmps := Nat.le_of_ble_eq_true hlen'
  unfold evXF at h
  split at h
  · rename_i c hc
    obtain ⟨hlt, h⟩ := cond_ok h
    refine callsIn_wide.1 (callsIn_of_wp_marks (F := Fence.wide) (n := 2) hf hc trivial (evX_ok (n := fn.ntmps) (m := m) (J := J) (L := L) hP c (allLt_iff hlt) (fr := frOf 0 args) (@KF.mk (dfr []) _ _ _ ?_ rfl fun t v hl => ?_) (fun e fr' ds' a' w' hk _ hq => ?_) h))
    · simp; omega
    · obtain ⟨_, h2⟩ := frOf_look hl
      have h3 : args[t]? = some v := by simpa using h2
      have h4 : t < args.length := (List.getElem?_eq_some_iff.1 h3).1
      show Array.getD _ t undef = v
      rw [Array.getD_eq_getD_getElem?, Array.getElem?_append_left (by simpa using h4)]
      simp [h3]
    · have out : bodyX P fn R .ret fr' ds' w' → LeavesInM Fence.wide 2 P fn a'.tmps (fun e w' => ∃ v, e = .returned v ∧ R v w') a'.defers .returning w' := fun hq => by
        have hd := @KF.defers (dfr ds') _ _ _ hk
        rw [hd]
        revert hk hq
        match ds' with
        | [] =>
          intro hk hq
          obtain ⟨v, h1, h2⟩ := @results_ok P fn.ntmps (dfr []) fn fr' a' hk w' R hq
          exact ⟨v, h1, v, rfl, h2⟩
        | [D] =>
          rintro hk ⟨hD, hq⟩
          obtain ⟨v, h1, h2⟩ := @results_ok P fn.ntmps (dfr [D]) fn fr' a' hk _ R hq
          exact ⟨by simp, .inl ⟨D, _, rfl, run_takeDeferred hD, v, h1, v, rfl, h2⟩⟩
        | _ :: _ :: _ =>
          intro hk hq
          exact hq.elim
      cases e with
      | normal => exact out hq
      | ret => exact out hq
      | _ => exact hq.elim
  · exact h.elim
#print axioms evXF_ok
end Go.Ev
end
section
set_option linter.unusedVariables false
set_option linter.unusedSimpArgs false
/- THE EVALUATOR OVER AN ITERATOR'S OWN CODE: it calls yield. Nothing of a program stands here. -/
set_option linter.unusedVariables false
namespace Go.Ev
open Go Go.RowKit
/-! ### words -/
/-- yield is called: a round of loop l -/
def yieldK (P : Program) (l : Nat) (vs : List Value) (w : World) (K : Value → World → Prop) : Prop := YieldAt Fence.wide 0 P l ⟨vs⟩ w fun e w' => ∃ v, e = .returned v ∧ K v w'
def splitY : List Oper → Option (List Oper × Oper × List Oper)
  | [] => none
  | o :: r => match o.op with
    | .call { callee := .value (.tmp _), .. } => some ([], o, r)
    | _ => match splitY r with | some (a, x, b) => some (o :: a, x, b) | none => none
def yieldOp (P : Program) (o : Oper) (fr : Fr) (w : World) (K : Value → World → Prop) : Prop :=
  match o.op, o.guard with
  | .call { callee := .value g, args, .. }, none => (match (⟨fr, [], []⟩ : St).val [] g, valsOf ((⟨fr, [], []⟩ : St).val []) args.toList with
    | some (.func (.yield l) first cap), some vs => yieldK P l (first.toList ++ vs) w fun v w' => resEv P o.dst o.type v fun v' => K v' w'
    | _, _ => False)
  | _, _ => False
def evRY (P : Program) (m : Mode) (ops : Array Oper) (draw : Bool) (fr : Fr) (w : World) (K : Fr → World → Prop) : Prop :=
  match splitY ops.toList with
  | none => evR P m ops draw fr w K
  | some (a, o, b) => cond draw False (evL P m ops a ⟨fr, [], []⟩ w fun fr1 w1 => yieldOp P o fr1 w1 fun v w2 => evL P m ops b ((⟨fr1, [], []⟩ : St).put o.dst (some v)) w2 K)
def evY (P : Program) (m : Mode) (J L : Ann) : Code → Fr → World → Cont → Prop
  | .skip, fr, w, Q => Q .normal fr w
  | .region _ ops draw, fr, w, Q => evRY P m ops draw fr w fun fr' w' => Q .normal fr' w'
  | .seq a b, fr, w, Q => (match annOf (keyOf b) J with
    | none => evY P m J L a fr w (thenC (fun fr' w' => evY P m J L b fr' w' Q) Q)
    | some ls => cond (allIn ls (writes a)) (∀ K : Fr → World → Prop, (allFr ls fun fr' => ∀ w', evY P m J L b (fr' ++ strip (writes a) fr) w' Q → K fr' w') → evY P m J L a fr w (thenC (fun fr' w' => K (carry fr' ls) w') Q)) False)
  | .cond c a b, fr, w, Q => (match (⟨fr, [], []⟩ : St).val [] c with
    | some (.bool t) => iteP t (evY P m J L a fr w Q) (evY P m J L b fr w Q)
    | _ => False)
  | .block id a, fr, w, Q => evY P m J L a fr w (inBlockC id Q)
  | .loop a, fr, w, Q => (match annOf (keyOf a) L with
    | none => False
    | some ls => cond (allIn ls (writes a)) (∀ X : Fr → World → Prop, (allFr ls fun fr' => ∀ w', evY P m J L a (fr' ++ strip (writes a) fr) w' (thenC (fun fr'' w'' => X (carry fr'' ls) w'') Q) → X fr' w') → X (carry fr ls) w) False)
  | .exit id, fr, w, Q => Q (.exit id) fr w
  | .ret, fr, w, Q => Q .ret fr w
  | .label _, fr, w, Q => Q .normal fr w
  | _, _, _, _ => False
@[irreducible] def evYF (P : Program) (m : Mode) (J L : Ann) (fn : Func) (args : List Value) (w : World) (R : Value → World → Prop) : Prop :=
  match fn.body with
  | some c => cond (allLt fn.ntmps (writes c)) (evY P m J L c (frOf 0 args) w (bodyC P fn R)) False
  | none => False
/-- what a call of an iterator's function comes to -/
def OkY (P : Program) (f : FuncId) (args : List Value) (w : World) (R : Value → World → Prop) : Prop := CallsIn Fence.wide 1 P f ⟨args⟩ w fun e w' => ∃ v, e = .returned v ∧ R v w'

/-! ### soundness -/
variable {P : Program} {n : Nat} {ws : List Nat} {f0 : Fr} {ops : Array Oper} {m : Mode} {J L : Ann}
theorem splitY_ok : ∀ {l a b : List Oper} {o : Oper}, splitY l = some (a, o, b) → l = a ++ o :: b
  | [], _, _, _, h => by cases h
  | x :: r, a, b, o, h => by
    simp only [splitY] at h
    split at h
    · simp only [Option.some.injEq, Prod.mk.injEq] at h
      obtain ⟨rfl, rfl, rfl⟩ := h
      rfl
    · split at h
      · rename_i a' x' b' h'
        simp only [Option.some.injEq, Prod.mk.injEq] at h
        obtain ⟨rfl, rfl, rfl⟩ := h
        rw [splitY_ok h']; rfl
      · cases h
theorem wideIn_of_wp {o : Oper} {i : Nat} {a : Act} {w : World} {next next' Q1 : Act → World → Prop} {Q : Exit → Act → World → Prop} (h : o.wp P a w next (Q0 Q1)) (hn : ∀ a w, next a w → next' a w) : o.wpIn Fence.wide i P a w next' Q := by
  refine ⟨fun f _ => trivial, ?_⟩
  show o.uponIn Fence.wide i P a next' Q ((execOp a.eval o).run P w)
  unfold Oper.wp at h
  revert h
  generalize (execOp a.eval o).run P w = r
  intro h
  match r, h with
  | .ok (.value v) w', h => exact hn _ _ h
  | .ok .skip w', h => exact hn _ _ h
  | .ok (.defer d) w', h => exact hn _ _ h
  | .ok (.enter f args) w', h =>
    refine ⟨fun h => absurd h (by simp [Fence.wide]), (callsIn_wide.2 h).mono fun e w2 hr => ?_⟩
    cases e with
    | returned v => exact hn _ _ hr
    | panicked ch => exact hr.elim
    | outgrown => obtain ⟨_, _, hr⟩ := hr; exact hr.elim
  | .ok (.row row args) w', h => exact ⟨fun h => absurd h (by simp [Fence.wide]), fun c cs _ => let ⟨v, w2, hr, hs⟩ := h c cs; ⟨v, w2, hn _ _ hr, stepsIn_wide.2 hs⟩⟩
  | .halt (.panic v) w', h => exact h.elim
theorem listIn_of {i : Nat} {Q1 : Act → World → Prop} {Q : Exit → Act → World → Prop} {l2 : List Oper} : ∀ (l1 : List Oper) (a : Act) (w : World), wpList P ops (Q0 Q1) l1 a w → (∀ a w, Q1 a w → wpListIn Fence.wide i P ops Q l2 a w) → wpListIn Fence.wide i P ops Q (l1 ++ l2) a w
  | [], a, w, h, hQ => hQ a w h
  | o :: r, a, w, h, hQ => by
    unfold wpList at h
    show wpListIn Fence.wide i P ops Q (o :: (r ++ l2)) a w
    unfold wpListIn
    split
    · rename_i hw
      rw [if_pos hw] at h
      rcases h with h | h
      · exact wideIn_of_wp h fun a w h => listIn_of r a w h hQ
      · obtain ⟨_, _, _, hr⟩ := h; exact hr.elim
    · rename_i hw
      rw [if_neg hw] at h
      exact ⟨fun f _ => trivial, listIn_of r _ w h hQ⟩
theorem yieldOp_ok [Dfr] {o : Oper} {fr : Fr} {a : Act} {w : World} {K : Value → World → Prop} {next : Act → World → Prop} {Q : Exit → Act → World → Prop} (hk : Kn n ws f0 ⟨fr, [], []⟩ a) (h : yieldOp P o fr w K)
    (hn : ∀ v w', K v w' → next (a.put o.dst v) w') : o.guard = none ∧ o.wpIn Fence.wide 1 P a w next Q := by
  unfold yieldOp at h
  split at h
  · rename_i g args ats hop hgd
    split at h
    · rename_i l first cap vs hg hvs
      refine ⟨hgd, fun f _ => trivial, ?_⟩
      show o.uponIn Fence.wide 1 P a next Q ((execOp a.eval o).run P w)
      obtain ⟨fn, tmps, asg, bd, hy, hr⟩ := h
      have hsnd : Snd ((⟨fr, [], []⟩ : St).val []) a.eval := fun x v hx => hk.val (Sat.nil a) hx
      have hrun : (execOp a.eval o).run P w = .ok (.round l fn tmps asg bd) w := by
        have hv' := vals_arr hsnd hvs
        obtain ⟨dst, op, ty, ps, af, gd⟩ := o
        simp only at hop
        subst hop
        simp only [execOp, resolve, hv', hsnd _ _ hg, Deferred.ofValue, invoke, Sem.run_bind, Sem.run_pure, Result.andThen_ok]
        refine Eq.trans ?_ hy
        congr 2
        apply Array.ext'
        simp
      rw [hrun]
      refine ⟨fun h => absurd h (by simp [Fence.wide]), hr.mono fun e w' he => ?_⟩
      obtain ⟨v, rfl, he⟩ := he
      exact hn _ _ (resEv_ok he)
    · exact h.elim
  · exact h.elim
theorem evRY_ok [Dfr] (hP : Good P) {draw : Bool} {id : Nat} {fr : Fr} {a : Act} {w : World} {K : Fr → World → Prop} {Q : Exit → Act → World → Prop} (hQ : ∀ fr a w, Kn n ws f0 ⟨fr, [], []⟩ a → K fr w → Q .normal a w)
    (hd : ∀ o ∈ ops.toList, ∀ d, o.dst = some d → d < n ∧ d ∈ ws) (hk : Kn n ws f0 ⟨fr, [], []⟩ a) (h : evRY P m ops draw fr w K) : (Code.region id ops draw).wpIn Fence.wide 1 P Q a w := by
  unfold evRY at h
  split at h
  · exact wpIn_wide.2 (evR_ok hP hQ hd hk h)
  · rename_i l1 o l2 hs
    have hl := splitY_ok hs
    cases draw with
    | true => exact h.elim
    | false =>
      refine wpIn_region_list ?_
      have hd1 : ∀ x ∈ l1, ∀ d, x.dst = some d → d < n ∧ d ∈ ws := fun x hx => hd x (by rw [hl]; simp [hx])
      have hd2 : ∀ x ∈ l2, ∀ d, x.dst = some d → d < n ∧ d ∈ ws := fun x hx => hd x (by rw [hl]; simp [hx])
      have hdo : ∀ d, o.dst = some d → d < n ∧ d ∈ ws := hd o (by rw [hl]; simp)
      rw [hl]
      refine listIn_of l1 a w (evL_ok (Q := Q0 fun a w => ∃ fr1, Kn n ws f0 ⟨fr1, [], []⟩ a ∧ yieldOp P o fr1 w fun v w2 => evL P m ops l2 ((⟨fr1, [], []⟩ : St).put o.dst (some v)) w2 K) hP hd (fun fr1 a w h1 h2 => ⟨fr1, h1, h2⟩) _ _ a w hd1 hk h) ?_
      rintro a1 w1 ⟨fr1, hk1, hy⟩
      have h3 := yieldOp_ok (next := wpListIn Fence.wide 1 P ops Q l2) (Q := Q) hk1 hy fun v w2 h4 => by
        have hk2 : Kn n ws f0 ((⟨fr1, [], []⟩ : St).put o.dst (some v)) (a1.put o.dst v) := hk1.put hdo (fun x hx => by cases hx; rfl)
        have := listIn_of (i := 1) (Q := Q) (l2 := []) l2 _ _ (evL_ok (Q := Q0 fun a w => Q .normal a w) hP hd (fun fr a w h1 h2 => hQ fr a w h1 h2) _ _ _ w2 hd2 hk2 h4) fun a w h => h
        rwa [List.append_nil] at this
      unfold wpListIn
      rw [if_pos (wanted_none h3.1)]
      exact h3.2
/-- round a loop, in a round of a loop over a function -/
def AgainW (i : Nat) (P : Program) (c : Code) (Q : Exit → Act → World → Prop) (a : Act) (w : World) : Prop :=
  ∀ (b : Frame) (k : List Item) (cs : List Frame), b.roundOf = Fence.wide.round → Fence.wide.fn b.fn → Fence.wide.room (cs.length + 1 + i) → ∃ e a' w', Q e a' w' ∧ ArrivesIn (Machine.fenced P Fence.wide) P (lone (b.atR a (.code c :: .inLoop c :: k)) cs w) b k cs e a' w'
theorem againW_of {i : Nat} {c : Code} {Q : Exit → Act → World → Prop} {a : Act} {w : World} (h : c.wpIn Fence.wide i P (Exit.then (AgainW i P c Q) Q) a w) : AgainW i P c Q a w := by
  intro b k cs hro hb hr
  obtain ⟨e, a₁, w₁, hq, harr⟩ := h b (.inLoop c :: k) cs hro hb hr
  cases e with
  | normal =>
    obtain ⟨e₂, a₂, w₂, hq₂, harr₂⟩ := hq b k cs hro hb hr
    exact ⟨e₂, a₂, w₂, hq₂, .of_steps (StepsIn.trans harr (.one (fenced_calm hb hr rfl) stepR_inLoop)) harr₂⟩
  | exit id => exact ⟨_, a₁, w₁, hq, .pass (x := .inLoop c) rfl (fun _ _ => .inl (by simp)) harr⟩
  | goto l => exact ⟨_, a₁, w₁, hq, .pass (x := .inLoop c) rfl (fun _ _ => .inl (by simp)) harr⟩
  | ret => exact ⟨_, a₁, w₁, hq, .pass (x := .inLoop c) rfl (fun _ _ => .inl (by simp)) harr⟩
  | panic ch => exact ⟨_, a₁, w₁, hq, .pass (x := .inLoop c) rfl (fun _ _ => .inl (by simp)) harr⟩
  | outgrown => exact ⟨_, a₁, w₁, hq, .pass (x := .inLoop c) rfl (fun _ _ => .inl (by simp)) harr⟩
theorem loopW_of {i : Nat} {c : Code} {Q : Exit → Act → World → Prop} {a : Act} {w : World} (h : AgainW i P c Q a w) : (Code.loop c).wpIn Fence.wide i P Q a w := by
  intro b k cs hro hb hr
  obtain ⟨e, a', w', hq, harr⟩ := h b k cs hro hb hr
  exact ⟨e, a', w', hq, .of_steps (.one (fenced_calm hb hr rfl) stepR_loop) harr⟩
theorem evY_ok [Dfr] (hP : Good P) : ∀ (c : Code), (∀ d ∈ writes c, d < n) → ∀ {fr : Fr} {a : Act} {w : World} {Q' : Cont} {Q : Exit → Act → World → Prop}, KF n fr a →
    (∀ e fr' a' w', KF n fr' a' → Same (writes c) fr fr' → Q' e fr' w' → Q e a' w') → evY P m J L c fr w Q' → c.wpIn Fence.wide 1 P Q a w
  | .skip, _, fr, a, w, Q', Q, hk, hq, h => wpIn_skip (hq _ _ _ _ hk (fun _ _ => rfl) h)
  | .exit id, _, fr, a, w, Q', Q, hk, hq, h => wpIn_exit (hq _ _ _ _ hk (fun _ _ => rfl) h)
  | .ret, _, fr, a, w, Q', Q, hk, hq, h => wpIn_ret (hq _ _ _ _ hk (fun _ _ => rfl) h)
  | .region id ops draw, hw, fr, a, w, Q', Q, hk, hq, h => by
    refine evRY_ok (n := n) (ws := dsts ops.toList) (f0 := fr) (m := m) hP (K := fun fr' w' => Q' .normal fr' w') (fun fr' a' w' h1 h2 => hq .normal fr' a' w' h1.kf (fun t ht => h1.pres t ht) h2) (fun o ho d hd => ?_) (hk.kn _) h
    have : d ∈ dsts ops.toList := mem_dsts.2 ⟨o, ho, hd⟩
    exact ⟨hw d this, this⟩
  | .cond c x y, hw, fr, a, w, Q', Q, hk, hq, h => by
    simp only [evY] at h
    split at h
    · rename_i t ht
      have hc := (hk.kn []).val (Sat.nil a) ht
      have hx : ∀ d ∈ writes x, d < n := fun d hd => hw d (List.mem_append_left _ hd)
      have hy : ∀ d ∈ writes y, d < n := fun d hd => hw d (List.mem_append_right _ hd)
      refine wpIn_cond hc ?_
      cases t with
      | true =>
        exact evY_ok hP x hx hk (fun e fr' a' w' h1 h2 h3 => hq e fr' a' w' h1 (fun t ht => h2 t (fun hm => ht (List.mem_append_left _ hm))) h3) h
      | false =>
        exact evY_ok hP y hy hk (fun e fr' a' w' h1 h2 h3 => hq e fr' a' w' h1 (fun t ht => h2 t (fun hm => ht (List.mem_append_right _ hm))) h3) h
    · exact h.elim
  | .block id c, hw, fr, a, w, Q', Q, hk, hq, h => by
    refine wpIn_block (evY_ok hP c hw hk (fun e fr' a' w' h1 h2 h3 => ?_) h)
    cases e with
    | exit i =>
      simp only [inBlockC] at h3
      simp only [Exit.inBlock]
      cases hb : Nat.beq i id with
      | true => rw [hb] at h3; rw [if_pos (beq_eq.1 hb)]; exact hq _ _ _ _ h1 h2 h3
      | false => rw [hb] at h3; rw [if_neg (beq_ne.1 hb)]; exact hq _ _ _ _ h1 h2 h3
    | _ => exact hq _ _ _ _ h1 h2 h3
  | .seq x y, hw, fr, a, w, Q', Q, hk, hq, h => by
    have hx : ∀ d ∈ writes x, d < n := fun d hd => hw d (List.mem_append_left _ hd)
    have hy : ∀ d ∈ writes y, d < n := fun d hd => hw d (List.mem_append_right _ hd)
    simp only [evY] at h
    refine wpIn_seq ?_
    split at h
    · refine evY_ok hP x hx hk (fun e fr' a' w' h1 h2 h3 => ?_) h
      have off : ∀ e, Q' e fr' w' → Q e a' w' := fun e h4 => hq e fr' a' w' h1 (fun t ht => h2 t (fun hm => ht (List.mem_append_left _ hm))) h4
      cases e with
      | normal =>
        exact evY_ok hP y hy h1 (fun e fr2 a2 w2 h4 h5 h6 => hq e fr2 a2 w2 h4 (fun t ht =>
          (h5 t (fun hm => ht (List.mem_append_right _ hm))).trans (h2 t (fun hm => ht (List.mem_append_left _ hm)))) h6) h3
      | _ => exact off _ h3
    · rename_i ls hls
      obtain ⟨hin, h⟩ := cond_ok h
      have hin := allIn_iff hin
      have h' := h (fun fr1 w' => ∀ a', KF n (fr1 ++ strip (writes x) fr) a' → y.wpIn Fence.wide 1 P Q a' w') (allFr_intro fun fr1 hf w' hy' a' hk' =>
        evY_ok hP y hy hk' (fun e fr2 a2 w2 h4 h5 h6 => hq e fr2 a2 w2 h4 (fun t ht =>
          (h5 t (fun hm => ht (List.mem_append_right _ hm))).trans (look_meet hf hin (fun hm => ht (List.mem_append_left _ hm)))) h6) hy')
      refine evY_ok hP x hx hk (fun e fr' a' w' h1 h2 h3 => ?_) h'
      have off : ∀ e, Q' e fr' w' → Q e a' w' := fun e h4 => hq e fr' a' w' h1 (fun t ht => h2 t (fun hm => ht (List.mem_append_left _ hm))) h4
      cases e with
      | normal => exact h3 a' (kf_meet h1 h2)
      | _ => exact off _ h3
  | .loop c, hw, fr, a, w, Q', Q, hk, hq, h => by
    simp only [evY] at h
    split at h
    · exact h.elim
    · rename_i ls hls
      obtain ⟨hin, h⟩ := cond_ok h
      have hin := allIn_iff hin
      have h' := h (fun fr1 w' => ∀ a', KF n (fr1 ++ strip (writes c) fr) a' → AgainW 1 P c Q a' w') (allFr_intro fun fr1 hf w' hc' a' hk' => againW_of (
        evY_ok hP c hw hk' (fun e fr2 a2 w2 h4 h5 h6 => by
          have same : ∀ t, t ∉ writes c → look t fr2 = look t fr := fun t ht => (h5 t ht).trans (look_meet hf hin ht)
          have off : ∀ e, Q' e fr2 w2 → Q e a2 w2 := fun e h7 => hq e fr2 a2 w2 h4 same h7
          cases e with
          | normal => exact h6 a2 (kf_meet h4 same)
          | _ => exact off _ h6) hc'))
      exact loopW_of (h' a (kf_meet hk (fun _ _ => rfl)))
  | .rangeFunc .., _, _, _, _, _, _, _, _, h => (by simp only [evY] at h)
  | .scope c, _, _, _, _, _, _, _, _, h => (by simp only [evY] at h)
  | .label l, hw, fr, a, w, Q', Q, hk, hq, h => by
    simp only [evY] at h
    exact wpIn_label (hq _ _ _ _ hk (fun _ _ => rfl) h)
  | .goto _, _, _, _, _, _, _, _, _, h => (by simp only [evY] at h)
  | .refuse _, _, _, _, _, _, _, _, _, h => (by simp only [evY] at h)

/-- THE EVALUATOR IS SOUND -/
theorem evYF_ok (hP : Good P) {f : FuncId} {fn : Func} (hf : P.funcs[f]? = some fn) {args : List Value} (hlen' : Nat.ble args.length fn.ntmps = true) {w : World} {R : Value → World → Prop}
    (h : evYF P m J L fn args w R) : OkY P f args w R := by
  have hlen : args.length ≤ fn.ntmps := Nat.le_of_ble_eq_true hlen'
  unfold evYF at h
  split at h
  · rename_i c hc
    obtain ⟨hlt, h⟩ := cond_ok h
    refine callsIn_of_wp hf hc trivial (evY_ok (n := fn.ntmps) (m := m) (J := J) (L := L) hP c (allLt_iff hlt) (fr := frOf 0 args) ⟨?_, rfl, fun t v hl => ?_⟩ (fun e fr' a' w' hk _ hq => ?_) h)
    · simp; omega
    · obtain ⟨_, h2⟩ := frOf_look hl
      have h3 : args[t]? = some v := by simpa using h2
      have h4 : t < args.length := (List.getElem?_eq_some_iff.1 h3).1
      show Array.getD _ t undef = v
      rw [Array.getD_eq_getD_getElem?, Array.getElem?_append_left (by simpa using h4)]
      simp [h3]
    · cases e with
      | normal =>
        obtain ⟨v, h1, h2⟩ := results_ok (fn := fn) hk hq
        exact ⟨hk.defers, v, h1, v, rfl, h2⟩
      | ret =>
        obtain ⟨v, h1, h2⟩ := results_ok (fn := fn) hk hq
        exact ⟨hk.defers, v, h1, v, rfl, h2⟩
      | _ => exact hq.elim
  · exact h.elim
#print axioms evYF_ok
end Go.Ev
end
section
set_option linter.unusedVariables false
set_option linter.unusedSimpArgs false
/- WHAT THE CODE OF EACH FUNCTION ASKS FOR, by a program of this claim's author (vc.py); each is held against the code by the kernel. -/
namespace Go.Proofs.YtdnhoebcomffoaaGreatDoor
open Go Go.Ev
set_option maxRecDepth 100000
set_option linter.unusedVariables false
def V_sign_Verify (setv : Int) (verify : SlV) (note : SlV) (m : SlV) (sig : SlV) (w : World) (R : Value → World → Prop) : Prop :=
 callK Pr f_lay_Of [.int .i64 setv] w fun a b =>
 destr.asArr' a fun c =>
 uncons c fun d e =>
 as_lay_Set d fun f g i j k l n o p =>
 uncons e fun q s =>
 asB q fun t =>
 (s = [] ∧
 nw t_lay_Set (zc Pr t_lay_Set) b fun u v =>
 sT_lay_Set u f g i j k l n o p v fun x =>
 iteP (!t)
 (callK Pr f_sign_fault [.int .i64 2] x fun y z =>
 R y z)
 (callK Pr f_sign_Digest [.slice verify.a verify.n verify.c, .slice note.a note.n note.c, .slice m.a m.n m.c] x fun A B =>
 destr.asArr' A fun C =>
 uncons C fun D E =>
 asSl D fun F =>
 uncons E fun G I =>
 (I = [] ∧
 join0 []
 (fun J => ldI .i64 (Addr.add u 8) J fun L =>
 slH sig L fun M =>
 ldI .i64 (Addr.add u 6) (World.drew J) fun N =>
 (I64 (N - 1) ∧
 ldI .i64 (Addr.add u 6) (World.drew J) fun O =>
 ldI .i64 (Addr.add u 1) (World.drew J) fun Q =>
 ldI .i64 (Addr.add u 8) (World.drew J) fun S =>
 slL 1 sig S fun T =>
 callK Pr f_sign_polys [.int .i64 (N - 1), .int .i64 O, .int .i64 Q, .slice T.a T.n T.c] (World.drew J) fun U V =>
 destr.asArr' U fun X =>
 uncons X fun Y Z =>
 asSl Y fun aa =>
 uncons Z fun ba ca =>
 asSl ba fun da =>
 (ca = [] ∧
 callK Pr f_lay_Unhint [.int .i64 setv, .slice da.a da.n da.c] V fun ea fa =>
 destr.asArr' ea fun ga =>
 uncons ga fun ia ja =>
 asSl ia fun ka =>
 uncons ja fun la ma =>
 (ma = [] ∧
 nw t_s_s_int (zc Pr t_s_s_int) fa fun na oa =>
 st na (.slice ka.a ka.n ka.c) oa fun pa =>
 ifaceNil la fun qa =>
 iteP (!qa)
 (callK Pr f_sign_fault [.int .i64 4] pa fun sa ta =>
 R sa ta)
 (ldI .i64 (Addr.add u 6) (World.drew pa) fun ua =>
 ldI .i64 (Addr.add u 4) (World.drew pa) fun va =>
 (I64 (ua - va) ∧
 callK Pr f_wave_Norm [.slice aa.a aa.n aa.c] (World.drew pa) fun xa ya =>
 asI .i64 xa fun za =>
 (kept (Addr.add u 4) 1 (World.drew pa) ya ∧
 (kept (Addr.add u 6) 1 (World.drew pa) ya ∧
 iteP (decide (ua - va ≤ za))
 (callK Pr f_sign_fault [.int .i64 7] ya fun Aa Ba =>
 R Aa Ba)
 (callK Pr f_sift_Ball [.int .i64 setv, .slice M.a M.n M.c] ya fun Ca Da =>
 destr.asArr' Ca fun Ea =>
 uncons Ea fun Fa Ga =>
 asSl Fa fun Ia =>
 uncons Ga fun Ja La =>
 (La = [] ∧
 nw t_s_s_int (zc Pr t_s_s_int) Da fun Ma Na =>
 slL 1 verify 32 fun Oa =>
 callK Pr f_slices_Chunk_byte_byte [.slice Oa.a Oa.n Oa.c, .int .i64 320] Na fun Qa Sa =>
 rangeK Pr Qa Sa
 (fun Ta Ua Va Xa =>
 callK Pr f_bits_Unpack [.int .i64 10, Ta] Ua fun Ya Za =>
 asSl Ya fun ab =>
 loop1 (fun (bb : Int) => [(118, some (.int .i64 bb))])
 (fun cb bb db => iteP (decide (bb < (ab.n:Int)))
 (idxS ab.a bb ab.n
 (ldI .i64 (Addr.add (base ab.a) (Int.toNat bb * 1)) db fun eb =>
 (I64 (eb * 8192) ∧
 idxS ab.a bb ab.n
 (st (Addr.add (base ab.a) (Int.toNat bb * 1)) (.int .i64 (eb * 8192)) db fun fb =>
 (I64 (bb + 1) ∧
 cb (bb + 1) fb)))))
 (ldL Ma db fun gb =>
 nw t_s_int [.slice ab.a ab.n ab.c] db fun ib jb =>
 appK Pr [t_s_s_int, t_s_s_int] t_s_s_int [.slice gb.a gb.n gb.c, .slice (some ib) 1 1] jb fun kb lb =>
 st Ma (.slice kb.a kb.n kb.c) lb fun mb =>
 Va mb))
 0 Za)
 (fun nb =>
 ld_lay_Set u (World.drew nb) fun ob pb qb sb tb ub vb xb yb =>
 slH verify 32 fun zb =>
 ldL Ma (World.drew nb) fun Ab =>
 callK Pr f_sign_matrix [.agg ⟨[.int .i64 ob, .int .i64 pb, .int .i64 qb, .int .i64 sb, .int .i64 tb, .int .i64 ub, .int .i64 vb, .int .i64 xb, .int .i64 yb]⟩, .slice zb.a zb.n zb.c] (World.drew nb) fun Bb Cb =>
 asSl Bb fun Db =>
 (kept Ma 1 (World.drew nb) Cb ∧
 callK Pr f_sign_apply [.slice Db.a Db.n Db.c, .slice aa.a aa.n aa.c] Cb fun Eb Fb =>
 asSl Eb fun Gb =>
 (kept Ma 1 Cb Fb ∧
 callK Pr f_sign_scaled [.slice Ia.a Ia.n Ia.c, .slice Ab.a Ab.n Ab.c] Fb fun Ib Jb =>
 asSl Ib fun Lb =>
 callK Pr f_sign_less [.slice Gb.a Gb.n Gb.c, .slice Lb.a Lb.n Lb.c] Jb fun Mb Nb =>
 asSl Mb fun Ob =>
 callK Pr f_sign_each [.slice Ob.a Ob.n Ob.c, .func (.func f_sign_Verify_1) ⟨[]⟩ ⟨[.pointer (some u), .pointer (some na)]⟩] Nb fun Qb Sb =>
 asSl Qb fun Tb =>
 callK Pr f_lay_High [.int .i64 setv, .slice Tb.a Tb.n Tb.c] Sb fun Ub Vb =>
 destr.asArr' Ub fun Xb =>
 uncons Xb fun Yb Zb =>
 asSl Yb fun ac =>
 uncons Zb fun bc cc =>
 (cc = [] ∧
 ldI .i64 (Addr.add u 8) Vb fun dc =>
 nw t_s_uint8 [.slice F.a F.n F.c, .slice ac.a ac.n ac.c] Vb fun ec fc =>
 callK Pr f_sponge_Shake256 [.int .i64 dc, .slice (some ec) 2 2] fc fun gc ic =>
 asSl gc fun jc =>
 callK Pr f_bytes_Equal [.slice jc.a jc.n jc.c, .slice M.a M.n M.c] ic fun kc lc =>
 asB kc fun mc =>
 iteP (!mc)
 (callK Pr f_sign_fault [.int .i64 7] lc fun nc oc =>
 retD (Array.size (World.heap Sa)) oc fun pc =>
 R nc pc)
 (retD (Array.size (World.heap Sa)) lc fun qc =>
 R (.nilIface) qc)))))
 (fun sc =>
 retD (Array.size (World.heap Sa)) sc fun tc =>
 False)))))))))))
 (fun uc =>
 callK Pr f_lay_Sizes [.int .i64 setv] B fun vc xc =>
 destr.asArr' vc fun yc =>
 uncons yc fun Ac Bc =>
 asI .i64 Ac fun Cc =>
 uncons Bc fun Dc Ec =>
 asI .i64 Dc fun Fc =>
 uncons Ec fun Gc Ic =>
 asI .i64 Gc fun Jc =>
 (Ic = [] ∧
 join1 (fun (Lc : Bool) => [(65, some (.bool Lc))])
 (fun Lc Mc => iteP Lc
 (callK Pr f_sign_fault [.int .i64 3] Mc fun Nc Oc =>
 R Nc Oc)
 (uc Mc))
 (fun Qc =>
 iteP ((!decide ((verify.n:Int) = Cc)) || (!decide ((sig.n:Int) = Jc)))
 (Qc true xc)
 (ifaceNil G fun Sc =>
 Qc (!Sc) xc)))))))
theorem V_sign_Verify_of {setv : Int} {verify : SlV} {note : SlV} {m : SlV} {sig : SlV} {w : World} {R : Value → World → Prop} (h : V_sign_Verify setv verify note m sig w R) : Ok Pr f_sign_Verify [.int .i64 setv, .slice verify.a verify.n verify.c, .slice note.a note.n note.c, .slice m.a m.n m.c, .slice sig.a sig.n sig.c] w R :=
 evXF_ok (m := ⟨true, true⟩) (J := [(8, []), (7, [(65, .bool)])]) (L := [(21, [(118, .int .i64)])]) good Tryz.func15 (by kernel_rfl) ((by kernel_rfl : evXF Pr _ _ _ Tryz.f15 _ w R = V_sign_Verify setv verify note m sig w R).mpr h)

def V_slices_Chunk_byte_byte_1 (yield : Nat) (free : Addr) (free_1 : Addr) (w : World) (R : Value → World → Prop) : Prop :=
 loop1 (fun (a : Int) => [(4, some (.int .i64 a))])
 (fun b a c => ldL free c fun d =>
 iteP (decide (a < (d.n:Int)))
 (ldI .i64 free_1 (World.drew c) fun e =>
 ldL free (World.drew c) fun f =>
 slL 1 f a fun g =>
 lt (A := Int) (min e (g.n:Int)) fun i =>
 ldL free (World.drew c) fun j =>
 (I64 (a + i) ∧
 (I64 (a + i) ∧
 slLHM 1 j a (a + i) (a + i) fun k =>
 yieldK Pr yield [.slice k.a k.n k.c] (World.drew c) fun l m =>
 asB l fun n =>
 iteP (!n)
 (R (.tuple ⟨[]⟩) m)
 (ldI .i64 free_1 m fun o =>
 (I64 (a + o) ∧
 b (a + o) m)))))
 (R (.tuple ⟨[]⟩) c))
 0 w
theorem V_slices_Chunk_byte_byte_1_of {yield : Nat} {free : Addr} {free_1 : Addr} {w : World} {R : Value → World → Prop} (h : V_slices_Chunk_byte_byte_1 yield free free_1 w R) : OkY Pr f_slices_Chunk_byte_byte_1 [.func (.yield yield) ⟨[]⟩ ⟨[]⟩, .pointer (some free), .pointer (some free_1)] w R :=
 evYF_ok (m := ⟨true, true⟩) (J := []) (L := [(1, [(4, .int .i64)])]) good Tryz.func142 (by kernel_rfl) ((by kernel_rfl : evYF Pr _ _ _ Tryz.f142 _ w R = V_slices_Chunk_byte_byte_1 yield free free_1 w R).mpr h)
end Go.Proofs.YtdnhoebcomffoaaGreatDoor
end
section
set_option linter.unusedVariables false
set_option linter.unusedSimpArgs false
/- DIGESTS, the document's; what every program answers that is one; the statement on digests. -/
namespace Go.Proofs.YtdnhoebcomffoaaGreatDoor
open Go Go.Ev
set_option maxRecDepth 20000
set_option linter.unusedVariables false
theorem ref13_Mu_ok (x y z : SlV) (tr note m : List B8) (h1 : tr.length ≤ 100000) (h2 : note.length ≤ 100000) (h3 : m.length ≤ 100000) (w : World) (hx : Bytes w x tr) (hy : Bytes w y note) (hz : Bytes w z m) :
    Ok Pr f_ref13_Mu [.slice x.a x.n x.c, .slice y.a y.n y.c, .slice z.a z.n z.c] w fun v w' => Gave w w' v (muL tr note m) := by
  refine V_ref13_Mu_of ?_
  unfold V_ref13_Mu
  have hxl := hx.len
  have hyl := hy.len
  have hzl := hz.len
  rw [show IntKind.wrap .u8 ((y.n : Nat) : Int) = ((BitVec.ofNat 8 note.length).toNat : Int) by rw [← hyl]; exact wrap_u8N _]
  refine (Mine.start w).clone8 elt_u8 hx (by omega) fun a w1 H ha => H.nw fun p w2 H _ => ?_
  have hb := H.blkBytes 1 (l := [0, BitVec.ofNat 8 note.length]) rfl
  refine H.app8 (x := ⟨some ⟨p, 0, none⟩, 2, 2⟩) 0 elt_u8 rfl hb (by show a.n + 2 ≤ _; omega) fun b w3 H hbn => ?_
  have hbn : b.n = a.n + 2 := hbn
  refine H.app8 0 elt_u8 rfl (hy.mod0 H.mod) (by omega) fun c w4 H hcn => H.app8 0 elt_u8 rfl (hz.mod0 H.mod) (by omega) fun d w5 H hdn => ?_
  have H := H.only 0 rfl
  have e : tr ++ [0, BitVec.ofNat 8 note.length] ++ note ++ m = tr ++ ([0, BitVec.ofNat 8 note.length] ++ (note ++ m)) := by simp
  rw [e] at H
  refine call_of (ref2_Shake256_ok 64 d _ _ (H.bytes 0 rfl) (by simp only [List.length_append, List.length_cons, List.length_nil]; omega)) ?_
  rintro _ w6 ⟨q, rfl, hq, m6⟩
  have H := H.got m6 hq
  exact asSl_s ⟨q, rfl, H.fresh0 1 rfl, H.mod⟩
theorem ref13_Digest_ok (x y z : SlV) (vk note m : List B8) (h1 : vk.length ≤ 100000) (h2 : note.length ≤ 100000) (h3 : m.length ≤ 100000) (w : World) (hx : Bytes w x vk) (hy : Bytes w y note) (hz : Bytes w z m) :
    Ok Pr f_ref13_Digest [.slice x.a x.n x.c, .slice y.a y.n y.c, .slice z.a z.n z.c] w fun v w' => GaveC t_uint8 1 w w' v (u8s (if note.length ≤ 255 then muL (spOut 136 31 vk 64) note m else [])) (digC note.length) := by
  refine V_ref13_Digest_of ?_
  unfold V_ref13_Digest digC
  have hyl := hy.len
  refine ite_intro (fun hc => ?_) (fun hc => ?_)
  · have hc := of_decide_eq_true hc
    rw [if_neg (by omega), if_neg (by omega)]
    exact ⟨⟨none, 0, 0⟩, rfl, Own.nil _ _ _ _, Mod.refl _ _⟩
  · have hc := of_decide_eq_false hc
    rw [if_pos (by omega), if_pos (by omega)]
    refine call_of (ref2_Shake256_ok 64 x vk w hx (by omega)) ?_
    rintro _ w1 ⟨q, rfl, hq, m1⟩
    have hlen := spOut_len 136 31 vk 64 (by omega)
    rw [show ((64 : Nat) : Int) = 64 from rfl] at hlen
    generalize spOut 136 31 vk 64 = tr at *
    refine asSl_s (call_of (ref13_Mu_ok q y z tr note m (by omega) h2 h3 _ hq.bytes (hy.mod0 m1) (hz.mod0 m1)) ?_)
    rintro _ w2 ⟨u, rfl, hu, m2⟩
    have H := ((Mine.start w).frame m1).got m2 hu
    exact asSl_s ⟨u, rfl, H.fresh0 0 rfl, H.mod⟩
/-- a set that there is not -/
theorem sign_Verify_noset (set : Int) (hs : isSet set = false) (a b c d : SlV) (w : World) : Ok Pr f_sign_Verify [.int .i64 set, .slice a.a a.n a.c, .slice b.a b.n b.c, .slice c.a c.n c.c, .slice d.a d.n d.c] w fun v w' => IsErr w w' v 2 ∧ Mod [] w w' := by
  refine V_sign_Verify_of ?_
  unfold V_sign_Verify
  rw [zc_lSet]
  refine call_of (lay_Of_ok set w) ?_
  rintro _ w1 ⟨rfl, m1⟩
  have H := (Mine.start w).frame m1
  rw [hs]
  generalize layS set = s at *
  refine ⟨_, rfl, as_lSet ⟨_, rfl, rfl, H.nw fun p w2 H _ => H.sT_lay_Set 0 rfl rfl fun w3 H => ite_true rfl (call_of (sign_fault_ok 2 (by decide) w3) ?_)⟩⟩
  rintro e w4 ⟨h, m4⟩
  exact ⟨h.from H.mod.size, (H.frame m4).mod⟩
theorem law13_awake_ok (w : World) (hg : Laid w) : Ok Pr f_law13_awake [] w fun v w' => v = .bool true ∧ Mod [] w w' := by
  refine V_law13_awake_of ?_
  unfold V_law13_awake
  refine call_of (sign_Sizes_ok 3 w) ?_
  rintro _ w1 ⟨rfl, m1⟩
  refine ⟨_, rfl, _, rfl, _, rfl, _, rfl, rfl, call_of (sign_Keys_ok 1 ⟨none, 0, 0⟩ [] w1 (Bytes.nil _)) ?_⟩
  rintro _ w2 ⟨y, z, er, rfl, H2⟩
  have H := ((Mine.start w).frame m1).join H2
  have hc : keyC 1 ([] : List B8).length = 3 := by decide
  rw [hc] at H
  have H := H.frame (Mod.refl [] w2)
  refine ⟨_, rfl, y, rfl, z, rfl, rfl, ite_true (by decide) (call_of (law0_Num_err er 3 _ (hg.mine H (by simp)) (H.err 2 rfl)) ?_)⟩
  rintro _ w3 ⟨rfl, m3⟩
  have H := H.frame m3
  refine asI_i (ite_true rfl (call_of (sign_Verify_noset 0 (by decide) ⟨none, 0, 0⟩ ⟨none, 0, 0⟩ ⟨none, 0, 0⟩ ⟨none, 0, 0⟩ _) ?_))
  rintro e w4 ⟨h4, m4⟩
  have H := H.gotE m4 h4
  refine call_of (law0_Num_err e 2 _ (hg.mine H (by simp)) (H.err 3 rfl)) ?_
  rintro _ w5 ⟨rfl, m5⟩
  exact asI_i ⟨rfl, (H.frame m5).mod⟩
theorem awake13_of {w0 w : World} {L : List Res} (hg : Laid w0) (H : Mine w0 [] w L) : callK Pr f_law13_awake [] w fun v w' => asB v fun t => (Value.bool t = .bool true ∧ Mod [] w0 w') := by
  refine call_of (law13_awake_ok w (hg.mine H (by simp))) ?_
  rintro _ w1 ⟨rfl, m⟩
  exact asB_b ⟨rfl, (H.frame m).mod⟩
end Go.Proofs.YtdnhoebcomffoaaGreatDoor
end
section
set_option linter.unusedVariables false
set_option linter.unusedSimpArgs false
/- SIGNING, the document's: signatures, and the verifying key of a signing one. -/
namespace Go.Proofs.YtdnhoebcomffoaaGreatDoor
open Go Go.Ev
set_option maxRecDepth 20000
set_option linter.unusedVariables false
theorem sizes_eq {set : Int} (his : isSet set = true) : 32 + 320 * (layS set).k = vkS set ∧ 128 + 32 * (((layS set).k + (layS set).l) * wid (layS set) + 13 * (layS set).k) = skS set ∧ (layS set).c + 32 * (layS set).l * maskD (layS set) + (layS set).omega + (layS set).k = sgS set := by
  unfold isSet at his
  simp only [Bool.or_eq_true, decide_eq_true_eq] at his
  rcases his with rfl | rfl | rfl <;> decide
theorem ref11_Sizes_ok (set : Int) (his : isSet set = true) (w : World) : Ok Pr f_ref11_Sizes [.int .i64 set] w fun v w' => v = .tuple ⟨[.int .i64 (vkS set), .int .i64 (skS set), .int .i64 (sgS set)]⟩ ∧ Mod [] w w' := by
  refine V_ref11_Sizes_of ?_
  unfold V_ref11_Sizes
  rw [zc_refSet]
  obtain ⟨e1, e2, e3⟩ := sizes_eq his
  have hG := goodS his
  have hX := goodX his
  have hg1 := goodG1 his
  refine call_of (ref11_Of_ok set w) ?_
  rintro _ w1 ⟨rfl, m1⟩
  rw [his]
  generalize layS set = s at *
  have hk8 := hG.k
  have hl7 := hG.l
  have hc := hG.c
  have hom := hX.omega
  have hwi : (if s.eta = 2 then (3 : Int) else 4) = ((wid s : Nat) : Int) := by unfold wid; split <;> rfl
  have hw4 : wid s ≤ 4 := by unfold wid; split <;> omega
  have hm20 : maskD s ≤ 20 := by unfold maskD; split <;> omega
  refine ⟨_, rfl, as_rSet ⟨_, rfl, rfl, ((Mine.start w).frame m1).nw fun p w2 H _ => H.sT_ref11_Set 0 rfl rfl fun w3 H => ite_false rfl (H.ld_ref11_Set 0 rfl (call_of (ref11_Wide_ok hg1 _) ?_))⟩⟩
  rintro _ w4 ⟨rfl, m4⟩
  have H := (H.frame m4).drew
  rw [hwi]
  have h1 : ((s.k : Int) + (s.l : Int)) * ((wid s : Nat) : Int) = (((s.k + s.l) * wid s : Nat) : Int) := by push_cast; rfl
  have h2 : (32 : Int) * (s.l : Int) * ((maskD s : Nat) : Int) = ((32 * s.l * maskD s : Nat) : Int) := by push_cast; rfl
  have b1 : (s.k + s.l) * wid s ≤ 15 * 4 := Nat.mul_le_mul (by omega) hw4
  have b2 : 32 * s.l * maskD s ≤ 224 * 20 := Nat.mul_le_mul (by omega) hm20
  generalize (s.k + s.l) * wid s = A at *
  generalize 32 * s.l * maskD s = B at *
  refine ⟨_, rfl, _, rfl, _, rfl, rfl, H.ldI 0 rfl (ad1 p 0) rfl ⟨⟨by omega, by omega⟩, ⟨by omega, by omega⟩, H.ldI 0 rfl (ad1 p 0) rfl (H.ldI 0 rfl (ad1 p 1) rfl ⟨⟨by omega, by omega⟩, ⟨by omega, by omega⟩, H.ldI 0 rfl (ad1 p 0) rfl ⟨⟨by omega, by omega⟩, ⟨by omega, by omega⟩, ⟨by omega, by omega⟩, ⟨by omega, by omega⟩, H.ldI 0 rfl (ad1 p 8) rfl (H.ldI 0 rfl (ad1 p 1) rfl ⟨⟨by omega, by omega⟩, ⟨by omega, by omega⟩, ⟨by omega, by omega⟩, H.ldI 0 rfl (ad1 p 5) rfl ⟨⟨by omega, by omega⟩, H.ldI 0 rfl (ad1 p 0) rfl ⟨⟨by omega, by omega⟩, ?_, H.mod⟩⟩⟩)⟩⟩)⟩⟩
  rw [h1, h2, ← e1, ← e2, ← e3]
  push_cast
  rfl
theorem ref13_Sizes_ok (set : Int) (his : isSet set = true) (w : World) : Ok Pr f_ref13_Sizes [.int .i64 set] w fun v w' => v = .tuple ⟨[.int .i64 (vkS set), .int .i64 (skS set), .int .i64 (sgS set)]⟩ ∧ Mod [] w w' := by
  refine V_ref13_Sizes_of ?_
  unfold V_ref13_Sizes
  refine call_of (ref11_Sizes_ok set his w) ?_
  rintro _ w1 ⟨rfl, m1⟩
  exact ⟨_, rfl, _, rfl, _, rfl, _, rfl, rfl, rfl, m1⟩
end Go.Proofs.YtdnhoebcomffoaaGreatDoor
end
section
set_option linter.unusedVariables false
set_option linter.unusedSimpArgs false
/- THE STATEMENT ON KEYS: what was laid is read again. -/
namespace Go.Proofs.YtdnhoebcomffoaaGreatDoor
open Go Go.Ev
set_option maxRecDepth 20000
set_option linter.unusedVariables false
theorem far_nearP (a b : Nat) (h0 : 0 < a + b) {f : List Int} (hf : Po f) (hr : ∀ x ∈ f, ((b : Int) - x) % 8380417 ≤ ((a + b : Nat) : Int)) : farOf (blen (a + b)) b (nearP a b f) = f := by
  have hn : (nearOf b f).length = 256 := by unfold nearOf; rw [List.length_map]; exact hf.len
  unfold farOf nearP
  rw [unpack_pack (blen (a + b)) (32 * blen (a + b)) (blen_pos _ h0) _ (near_dig hr) (by rw [hn]; omega)]
  unfold nearOf
  rw [List.map_map]
  conv => rhs; rw [← List.map_id f]
  refine List.map_congr_left fun x hx => ?_
  have := hf.rng x hx
  simp only [Function.comp_apply, id_eq]
  omega
theorem flatMap_len (a b : Nat) (fs : List (List Int)) (hp : Pos fs) : (fs.flatMap (nearP a b)).length = 32 * blen (a + b) * fs.length := by
  induction fs with
  | nil => simp
  | cons f r ih =>
    rw [List.flatMap_cons, List.length_append, ih fun l hl => hp l (by simp [hl]), length_nearP a b (hp f (by simp)).len, List.length_cons, Nat.mul_add]
    omega
theorem polysL_near (a b : Nat) (h0 : 0 < a + b) (fs : List (List Int)) (h : Lays a b fs) (rest : List B8) : polysL (blen (a + b)) b (fs.flatMap (nearP a b) ++ rest) fs.length = fs := by
  refine List.ext_getElem (by rw [length_polysL]) fun i h1 h2 => ?_
  have e0 : (polysL (blen (a + b)) b (fs.flatMap (nearP a b) ++ rest) fs.length)[i] = farOf (blen (a + b)) b (((fs.flatMap (nearP a b) ++ rest).drop (32 * blen (a + b) * i)).take (32 * blen (a + b))) := by simp [polysL]
  rw [e0]
  have hfi : fs[i] ∈ fs := List.getElem_mem h2
  have e : fs.flatMap (nearP a b) ++ rest = (fs.take i).flatMap (nearP a b) ++ (nearP a b fs[i] ++ ((fs.drop (i + 1)).flatMap (nearP a b) ++ rest)) := by
    conv => lhs; rw [← List.take_append_drop i fs, List.drop_eq_getElem_cons h2, List.flatMap_append, List.flatMap_cons]
    rw [List.append_assoc, List.append_assoc]
  have hl := flatMap_len a b (fs.take i) fun l hl => h.pos l (List.mem_of_mem_take hl)
  rw [List.length_take, Nat.min_eq_left (by omega)] at hl
  rw [e, ← hl, List.drop_left, ← length_nearP a b (h.pos _ hfi).len, List.take_left]
  exact far_nearP a b h0 (h.pos _ hfi) (h.rng _ hfi)
theorem drop_near (a b : Nat) (fs : List (List Int)) (hp : Pos fs) (rest : List B8) (n : Nat) (hn : n = 32 * blen (a + b) * fs.length) : (fs.flatMap (nearP a b) ++ rest).drop n = rest := by
  rw [hn, ← flatMap_len a b fs hp, List.drop_left]
theorem foldl_norm_le {ls : List (List Int)} {t b : Int} (ht : t ≤ b) (h : ∀ l ∈ ls, ∀ x ∈ l, nrm x ≤ b) : ls.foldl norm1 t ≤ b := by
  induction ls generalizing t with
  | nil => exact ht
  | cons l r ih => exact ih (norm1_le ht (h l (by simp))) fun m hm => h m (by simp [hm])
/-- a signing key that was made, as it is read -/
theorem read_made {s : LayS} (hs : GoodS s) (g : List B8) (hg : g.length = 128) :
    (skG s g).take 32 = g.take 32 ∧ s1R s (skG s g) = s1Of s g ∧ s2R s (skG s g) = s2Of s g ∧ t0R s (skG s g) = lowsL (tOf s (g.take 32) (s1Of s g) (s2Of s g)) ∧ (skG s g).length = skN s ∧
      ((skG s g).drop 32).take 32 = g.drop 96 ∧ ((skG s g).drop 64).take 64 = spOut 136 31 (vkG s g) 64 := by
  have hl2 : ((g.drop 32).take 64).length = 64 := by rw [List.length_take, List.length_drop]; omega
  have hk8 := hs.k
  have hl7 := hs.l
  have q1 := smalls_lays hs hl2 (from_ := 0) (many := s.l) (by omega)
  have q2 := smalls_lays hs hl2 (from_ := s.l) (many := s.k) (by omega)
  have n1 : (s1Of s g).length = s.l := by unfold s1Of; simp [smallsL]
  have n2 : (s2Of s g).length = s.k := by unfold s2Of; simp [smallsL]
  change Lays s.eta s.eta (s1Of s g) ∧ Pos (s1Of s g) at q1
  change Lays s.eta s.eta (s2Of s g) ∧ Pos (s2Of s g) at q2
  have pt : Pos (tOf s (g.take 32) (s1Of s g) (s2Of s g)) := plusL_pos _ _
  have nt : (tOf s (g.take 32) (s1Of s g) (s2Of s g)).length = s.k := by unfold tOf plusL; rw [length_eachL]; unfold applyL; rw [List.length_map, length_matL]
  have pl := lows_lays pt
  have nl : (lowsL (tOf s (g.take 32) (s1Of s g) (s2Of s g))).length = s.k := (length_eachL _ _).trans nt
  have he0 : 0 < s.eta + s.eta := by rcases hs.eta with h | h <;> omega
  have hw := wid_eta hs
  have hR := spOut_len 136 31 (vkG s g) 64 (by omega)
  rw [show ((64 : Nat) : Int) = 64 from rfl] at hR
  have eS : skG s g = g.take 32 ++ (g.drop 96 ++ (spOut 136 31 (vkG s g) 64 ++ ((s1Of s g).flatMap (nearP s.eta s.eta) ++ ((s2Of s g).flatMap (nearP s.eta s.eta) ++ (lowsL (tOf s (g.take 32) (s1Of s g) (s2Of s g))).flatMap (nearP 4095 4096))))) := by
    unfold skG skTail
    rw [List.flatMap_append, List.append_assoc, List.append_assoc, List.append_assoc]
  generalize spOut 136 31 (vkG s g) 64 = R at *
  generalize lowsL (tOf s (g.take 32) (s1Of s g) (s2Of s g)) = T0 at *
  generalize s1Of s g = S1 at *
  generalize s2Of s g = S2 at *
  generalize skG s g = K at *
  have lr : (g.take 32).length = 32 := by rw [List.length_take]; omega
  have lk : (g.drop 96).length = 32 := by rw [List.length_drop]; omega
  generalize g.take 32 = A at *
  generalize g.drop 96 = B at *
  have d32 : K.drop 32 = B ++ (R ++ (S1.flatMap (nearP s.eta s.eta) ++ (S2.flatMap (nearP s.eta s.eta) ++ T0.flatMap (nearP 4095 4096)))) := by rw [eS, ← lr, List.drop_left]
  have d64 : K.drop 64 = R ++ (S1.flatMap (nearP s.eta s.eta) ++ (S2.flatMap (nearP s.eta s.eta) ++ T0.flatMap (nearP 4095 4096))) := by rw [show 64 = 32 + 32 from rfl, ← List.drop_drop, d32, ← lk, List.drop_left]
  have d128 : K.drop 128 = S1.flatMap (nearP s.eta s.eta) ++ (S2.flatMap (nearP s.eta s.eta) ++ T0.flatMap (nearP 4095 4096)) := by rw [show 128 = 64 + 64 from rfl, ← List.drop_drop, d64]; conv => lhs; rw [← hR, List.drop_left]
  have e1 : (K.drop 128).drop (32 * wid s * s.l) = S2.flatMap (nearP s.eta s.eta) ++ T0.flatMap (nearP 4095 4096) := by rw [d128]; exact drop_near _ _ _ q1.2 _ _ (by rw [hw, n1])
  have e2 : ((K.drop 128).drop (32 * wid s * s.l)).drop (32 * wid s * s.k) = T0.flatMap (nearP 4095 4096) := by rw [e1]; exact drop_near _ _ _ q2.2 _ _ (by rw [hw, n2])
  refine ⟨by rw [eS, ← lr, List.take_left], ?_, ?_, ?_, ?_, ?_, ?_⟩
  · unfold s1R; rw [d128, ← hw, ← n1]; exact polysL_near _ _ he0 _ q1.1 _
  · unfold s2R; rw [e1, ← hw, ← n2]; exact polysL_near _ _ he0 _ q2.1 _
  · unfold t0R; rw [e2, ← wid_13, ← nl]
    have := polysL_near 4095 4096 (by omega) T0 pl []
    rwa [List.append_nil] at this
  · rw [eS]
    simp only [List.length_append]
    rw [flatMap_len _ _ _ q1.2, flatMap_len _ _ _ q2.2, flatMap_len _ _ _ pl.pos, hw, wid_13, n1, n2, nl, lr, lk, hR]
    unfold skN; omega
  · rw [d32]; conv => lhs; rw [← lk, List.take_left]
  · rw [d64]; conv => lhs; rw [← hR, List.take_left]
theorem made_lean {s : LayS} (hs : GoodS s) (g : List B8) (hg : g.length = 128) : leanB s (s1Of s g) (s2Of s g) = true := by
  have hl2 : ((g.drop 32).take 64).length = 64 := by rw [List.length_take, List.length_drop]; omega
  have hk8 := hs.k
  have hl7 := hs.l
  have he : 0 ≤ (s.eta : Int) := by omega
  have q1 := smalls_pos hs.eta hl2 (from_ := 0) (many := s.l) (by omega)
  have q2 := smalls_pos hs.eta hl2 (from_ := s.l) (many := s.k) (by omega)
  have b1 : normL (s1Of s g) ≤ (s.eta : Int) := foldl_norm_le he fun l hl x hx => ((q1 l hl).2 x hx).nrm he
  have b2 : normL (s2Of s g) ≤ (s.eta : Int) := foldl_norm_le he fun l hl x hx => ((q2 l hl).2 x hx).nrm he
  unfold leanB
  exact decide_eq_true (by omega)
theorem seedAll_len (s : LayS) (seed : List B8) : (seedAll s seed).length = 128 := by unfold seedAll; exact spOut_len 136 31 _ 128 (by omega)
theorem keyC_zero {set : Int} {n : Nat} (h : keyC set n = 0) : isSet set = true ∧ n = 32 := by
  unfold keyC at h
  split at h
  · rename_i h1
    split at h
    · rename_i h2; exact ⟨h1, h2⟩
    · exact absurd h (by decide)
  · exact absurd h (by decide)
end Go.Proofs.YtdnhoebcomffoaaGreatDoor
end
section
set_option linter.unusedVariables false
set_option linter.unusedSimpArgs false
/- THE STATEMENT ON BROKEN KEYS: signing keys by hand. -/
namespace Go.Proofs.YtdnhoebcomffoaaGreatDoor
open Go Go.Ev
set_option maxRecDepth 20000
set_option linter.unusedVariables false
theorem hintB_len {s : LayS} {fs : List (List Int)} (h : hintC s fs = 0) : (hintB s fs).length = s.omega + fs.length := by
  have e : (plc fs fs.length).length ≤ s.omega := by
    by_cases h1 : (plc fs fs.length).length ≤ s.omega
    · exact h1
    · unfold hintC at h; rw [if_neg h1] at h; exact absurd h (by decide)
  unfold hintB endsL
  rw [List.length_append, List.length_append, List.length_replicate, List.length_map, List.length_range]
  omega
theorem okT_hint {s : LayS} {Z X T H : List (List Int)} (h : okT s Z X T H = true) : normL Z < (s.g1 : Int) - s.beta ∧ lowN s.g2 X < (s.g2 : Int) - s.beta ∧ normL T < (s.g2 : Int) ∧ hintC s H = 0 := by
  unfold okT at h
  simp only [Bool.and_eq_true, decide_eq_true_eq] at h
  exact h
theorem Tn.Z_len (t : Tn) (n : Nat) : (t.Z n).length = t.s.l := by
  unfold Tn.Z plusL
  rw [length_eachL]
  unfold Tn.Y yL
  simp
theorem Tn.H_len (t : Tn) (n : Nat) : (t.H n).length = t.A.length := by
  unfold Tn.H hntsL
  rw [length_eachL]
  unfold Tn.X lessL
  rw [length_eachL]
  unfold Tn.W applyL
  rw [List.length_map]
theorem Tn.CH_len (t : Tn) (n : Nat) (hc : t.s.c ≤ 64) : (t.CH n).length = t.s.c := by unfold Tn.CH; exact spOut_len 136 31 _ _ (by omega)
theorem Tn.sig_len (t : Tn) (n : Nat) (hc : t.s.c ≤ 64) (h : t.ok n = true) : (t.sig n).length = t.s.c + 32 * blen (t.s.g1 - 1 + t.s.g1) * t.s.l + (t.s.omega + t.A.length) := by
  have hh := (okT_hint h).2.2.2
  unfold Tn.sig sigB
  rw [List.length_append, List.length_append, near_flat_len _ _ (t.Z n) (plusL_pos _ _), hintB_len hh, Tn.H_len, Tn.CH_len t n hc]
  rw [Tn.Z_len]
theorem Tn.find_ok {t : Tn} {i : Nat} (h : t.find = some i) : i < 500 ∧ t.ok (i * t.s.l) = true := by
  unfold Tn.find at h
  have h1 := List.find?_some h
  have h2 := List.mem_of_find?_eq_some h
  exact ⟨List.mem_range.1 h2, h1⟩
theorem sgC_zero {set : Int} {l note m rnd : List B8} (h : sgC set l note m rnd = 0) : openC set l.length = 0 ∧ (rnd.length = 32 ∧ note.length ≤ 255) ∧ leanB (layS set) (s1R (layS set) l) (s2R (layS set) l) = true ∧ ∃ i, (tnOf set l note m rnd).find = some i := by
  unfold sgC at h
  split at h
  · rename_i h1
    split at h
    · rename_i h2
      split at h
      · rename_i h3
        split at h
        · rename_i h4
          exact ⟨h1, h2, h3, Option.isSome_iff_exists.1 h4⟩
        · exact absurd h (by decide)
      · exact absurd h (by decide)
    · exact absurd h (by decide)
  · rename_i h1
    exact absurd h h1
end Go.Proofs.YtdnhoebcomffoaaGreatDoor
end
section
set_option linter.unusedVariables false
set_option linter.unusedSimpArgs false
/- WHY WHAT WAS SIGNED IS TAKEN: the verifying key's part, and all together. -/
namespace Go.Proofs.YtdnhoebcomffoaaGreatDoor
open Go Go.Ev
set_option maxRecDepth 20000
set_option linter.unusedVariables false
/-- the verifying key's polys, as they are verified -/
def eightL (fs : List (List Int)) : List (List Int) := mappedL (fun x => x * 8192) fs
theorem getD_mapI (f : Int → Int) (l : List Int) {i : Nat} (h : i < l.length) : (l.map f).getD i 0 = f (l.getD i 0) := by
  rw [List.getD_eq_getElem?_getD, List.getElem?_map, List.getD_eq_getElem?_getD, List.getElem?_eq_getElem h]; rfl
theorem split_sum {t : List Int} (ht : Po t) : addP ((t.map splH).map fun x => x * 8192) (t.map fun x => splL x % 8380417) = t := by
  have hl := ht.len
  refine ext256 (addP_po _ _).len hl fun i hi => ?_
  have e : (addP ((t.map splH).map fun x => x * 8192) (t.map fun x => splL x % 8380417)).getD i 0 = (((t.map splH).map fun x => x * 8192).getD i 0 + (t.map fun x => splL x % 8380417).getD i 0) % 8380417 := getD_tab _ hi
  rw [e, getD_mapI _ _ (by rw [List.length_map, hl]; exact hi), getD_mapI _ _ (by rw [hl]; exact hi), getD_mapI _ _ (by rw [hl]; exact hi), (spl_sum _).1]
  have := ht.get hi
  omega
theorem split_rows (ts : List (List Int)) (hp : Pos ts) (r : Nat) (hr : r < ts.length) : ts.getD r [] = addP ((eightL (highsL ts)).getD r []) ((lowsL ts).getD r []) := by
  have h1 : (eightL (highsL ts)).getD r [] = ((ts.getD r []).map splH).map fun x => x * 8192 := by
    have e1 : (eightL (highsL ts)).getD r [] = ((highsL ts).getD r []).map fun x => x * 8192 := getD_eachL _ _ (by rw [show (highsL ts).length = ts.length from length_eachL _ _]; exact hr)
    have e2 : (highsL ts).getD r [] = (ts.getD r []).map splH := getD_eachL _ _ hr
    rw [e1, e2]
  have h2 : (lowsL ts).getD r [] = (ts.getD r []).map fun x => splL x % 8380417 := getD_eachL _ _ hr
  rw [h1, h2, split_sum (hp.get hr)]
theorem beta_eq {set : Int} (h : isSet set = true) : (layS set).eta * (layS set).tau = (layS set).beta ∧ (layS set).tau ≤ 64 ∧ (layS set).eta ≤ 4 := by
  unfold isSet at h
  simp only [Bool.or_eq_true, decide_eq_true_eq] at h
  rcases h with rfl | rfl | rfl <;> decide
/-- what Verify makes of a signature is what was signed -/
theorem taken_made {set : Int} {F note m rnd : List B8} {N : Nat} (h : keyC set F.length = 0) (hok : (tnOf set (skL set F) note m rnd).ok N = true) :
    useL (layS set).g2 ((tnOf set (skL set F) note m rnd).H N) (lessL (applyL (tnOf set (skL set F) note m rnd).A ((tnOf set (skL set F) note m rnd).Z N)) (scaledL ((tnOf set (skL set F) note m rnd).B N) (eightL (highsL (tOf (layS set) ((seedAll (layS set) F).take 32) (s1Of (layS set) (seedAll (layS set) F)) (s2Of (layS set) (seedAll (layS set) F)))))))
      = mappedL (prtH (layS set).g2) ((tnOf set (skL set F) note m rnd).W N) := by
  obtain ⟨his, -⟩ := keyC_zero h
  have hG := goodS his
  have hX := goodX his
  have hg := seedAll_len (layS set) F
  have eK : skL set F = skG (layS set) (seedAll (layS set) F) := by unfold skL; rw [if_pos h]
  have hk8 := hG.k
  have hl7 := hG.l
  obtain ⟨be, bt, bet⟩ := beta_eq his
  obtain ⟨r1, r2, r3, r4, -, -, -⟩ := read_made hG (seedAll (layS set) F) hg
  have hl2 : (((seedAll (layS set) F).drop 32).take 64).length = 64 := by rw [List.length_take, List.length_drop]; omega
  have q2 := smalls_pos hG.eta hl2 (from_ := (layS set).l) (many := (layS set).k) (by omega)
  have l32 : ((seedAll (layS set) F).take 32).length = 32 := by rw [List.length_take]; omega
  have hcb : ∀ n, ballC set ((tnOf set (skL set F) note m rnd).CH n).length = 0 := fun n => by rw [Tn.CH_len _ _ hG.c]; exact ballC_of his
  have es : (tnOf set (skL set F) note m rnd).s = layS set := rfl
  have eset : (tnOf set (skL set F) note m rnd).set = set := rfl
  have eA : (tnOf set (skL set F) note m rnd).A = matL (layS set).k (layS set).l ((seedAll (layS set) F).take 32) := by
    show matL _ _ ((skL set F).take 32) = _
    rw [eK, r1]
  have e1 : (tnOf set (skL set F) note m rnd).s1 = s1Of (layS set) (seedAll (layS set) F) := by
    show s1R _ (skL set F) = _
    rw [eK, r2]
  have e2 : (tnOf set (skL set F) note m rnd).s2 = s2Of (layS set) (seedAll (layS set) F) := by
    show s2R _ (skL set F) = _
    rw [eK, r3]
  have e0 : (tnOf set (skL set F) note m rnd).t0 = lowsL (tOf (layS set) ((seedAll (layS set) F).take 32) (s1Of (layS set) (seedAll (layS set) F)) (s2Of (layS set) (seedAll (layS set) F))) := by
    show t0R _ (skL set F) = _
    rw [eK, r4]
  have hok2 := okT_hint hok
  rw [es] at hok2
  have hg0 : 0 < ((layS set).g2 : Int) ∧ ((layS set).g2 : Int) ≤ 261888 ∧ 95232 ≤ ((layS set).g2 : Int) := by rcases hX.g2 with h | h <;> omega
  have hbe := hX.beta
  have n1 : (s1Of (layS set) (seedAll (layS set) F)).length = (layS set).l := by unfold s1Of; simp [smallsL]
  have n2 : (s2Of (layS set) (seedAll (layS set) F)).length = (layS set).k := by unfold s2Of; simp [smallsL]
  have et : tOf (layS set) ((seedAll (layS set) F).take 32) (s1Of (layS set) (seedAll (layS set) F)) (s2Of (layS set) (seedAll (layS set) F)) = plusL (applyL (matL (layS set).k (layS set).l ((seedAll (layS set) F).take 32)) (s1Of (layS set) (seedAll (layS set) F))) (s2Of (layS set) (seedAll (layS set) F)) := rfl
  change ∀ l ∈ s2Of (layS set) (seedAll (layS set) F), Po l ∧ ∀ x ∈ l, Nr _ x at q2
  generalize tnOf set (skL set F) note m rnd = t at *
  have hrows := matL_rows (k := (layS set).k) (l := (layS set).l) l32
  have hAl : (matL (layS set).k (layS set).l ((seedAll (layS set) F).take 32)).length = (layS set).k := length_matL _ _ _
  have pt : Pos (tOf (layS set) ((seedAll (layS set) F).take 32) (s1Of (layS set) (seedAll (layS set) F)) (s2Of (layS set) (seedAll (layS set) F))) := plusL_pos _ _
  have nt : (tOf (layS set) ((seedAll (layS set) F).take 32) (s1Of (layS set) (seedAll (layS set) F)) (s2Of (layS set) (seedAll (layS set) F))).length = (layS set).k := by rw [et]; unfold plusL; rw [length_eachL]; unfold applyL; rw [List.length_map, hAl]
  generalize tOf (layS set) ((seedAll (layS set) F).take 32) (s1Of (layS set) (seedAll (layS set) F)) (s2Of (layS set) (seedAll (layS set) F)) = T at *
  generalize s1Of (layS set) (seedAll (layS set) F) = S1 at *
  generalize s2Of (layS set) (seedAll (layS set) F) = S2 at *
  generalize matL (layS set).k (layS set).l ((seedAll (layS set) F).take 32) = A at *
  have nY : (t.Y N).length = (layS set).l := by unfold Tn.Y yL; rw [List.length_map, List.length_range, es]
  obtain ⟨ok1, ok2, ok3, -⟩ := hok2
  change lowN _ (lessL (applyL t.A (t.Y N)) (scaledL (t.B N) t.s2)) < _ at ok2
  change normL (scaledL (t.B N) t.t0) < _ at ok3
  have hball := ballL_okay (hcb N)
  have hB : t.B N = ballL set (t.CH N) := by rw [← eset]; rfl
  rw [← hB] at hball
  show useL (layS set).g2 (hntsL t.s.g2 (lessL (applyL t.A (t.Y N)) (scaledL (t.B N) t.s2)) (scaledL (t.B N) t.t0)) (lessL (applyL t.A (plusL (t.Y N) (scaledL (t.B N) t.s1))) (scaledL (t.B N) (eightL (highsL T)))) = mappedL (prtH (layS set).g2) (applyL t.A (t.Y N))
  rw [es, eA, e1, e2, e0]
  rw [eA, e2] at ok2
  rw [e0] at ok3
  have lh : (eightL (highsL T)).length = T.length := (length_eachL _ _).trans (length_eachL _ _)
  have ll : (lowsL T).length = T.length := length_eachL _ _
  refine taken_rows hX.g2 (beta := ((layS set).beta : Int)) ⟨by omega, by omega⟩ A (t.Y N) S1 S2 (eightL (highsL T)) (lowsL T) (t.B N) (fun r hr => by rw [nY]; exact (hrows r hr).1) (by omega) (by omega) (by omega) (by omega) (fun r hr => ?_) (fun r hr x hx => ?_) ok2 ok3
  · rw [← et]
    exact split_rows T pt r (by omega)
  · rw [getD_scaledL _ _ (by omega)] at hx
    obtain ⟨p2, p3⟩ := q2 _ (mem_getD (i := r) (by omega) [])
    have := (ball_times hball.1 hball.2.1 hball.2.2 p2 p3 bet bt x hx).nrm (by omega)
    rw [be] at this
    exact this
end Go.Proofs.YtdnhoebcomffoaaGreatDoor
end
section
set_option linter.unusedVariables false
set_option linter.unusedSimpArgs false
/- THE STATEMENT ON PARTS: what stands where in keys and signatures. -/
namespace Go.Proofs.YtdnhoebcomffoaaGreatDoor
open Go Go.Ev
set_option maxRecDepth 20000
set_option linter.unusedVariables false
/-- keys that were made, part by part -/
theorem parts_made {set : Int} {F : List B8} (h : keyC set F.length = 0) : (vkL set F).length = 32 + 320 * (layS set).k ∧ (skL set F).length = skN (layS set) ∧ (skL set F).take 32 = (vkL set F).take 32 ∧ ((skL set F).drop 64).take 64 = spOut 136 31 (vkL set F) 64 ∧
    leanB (layS set) (s1R (layS set) (skL set F)) (s2R (layS set) (skL set F)) = true := by
  obtain ⟨his, -⟩ := keyC_zero h
  have hG := goodS his
  have hg := seedAll_len (layS set) F
  have eK : skL set F = skG (layS set) (seedAll (layS set) F) := by unfold skL; rw [if_pos h]
  have eV : vkL set F = vkG (layS set) (seedAll (layS set) F) := by unfold vkL; rw [if_pos h]
  rw [eK, eV]
  generalize seedAll (layS set) F = g at *
  generalize layS set = s at *
  obtain ⟨r1, r2, r3, -, r5, -, r7⟩ := read_made hG g hg
  have hlean := made_lean hG g hg
  have pt : Pos (tOf s (g.take 32) (s1Of s g) (s2Of s g)) := plusL_pos _ _
  have nt : (tOf s (g.take 32) (s1Of s g) (s2Of s g)).length = s.k := by unfold tOf plusL; rw [length_eachL]; unfold applyL; rw [List.length_map, length_matL]
  have h1 := length_flatMap_pack (highsL (tOf s (g.take 32) (s1Of s g) (s2Of s g))) (highs_ten pt).len
  have nh : (highsL (tOf s (g.take 32) (s1Of s g) (s2Of s g))).length = s.k := (length_eachL _ _).trans nt
  have l32 : (g.take 32).length = 32 := by rw [List.length_take]; omega
  have eW : vkG s g = g.take 32 ++ (highsL (tOf s (g.take 32) (s1Of s g) (s2Of s g))).flatMap (packL 10) := by unfold vkG vkOf pubL; rfl
  refine ⟨by rw [eW, List.length_append, h1, nh, l32], r5, ?_, r7, by rw [r2, r3]; exact hlean⟩
  rw [r1, eW]
  exact (List.take_left' l32).symm
end Go.Proofs.YtdnhoebcomffoaaGreatDoor
end
section
set_option linter.unusedVariables false
set_option linter.unusedSimpArgs false
/- WHAT Verify ANSWERS, as a function; what was signed it takes. -/
namespace Go.Proofs.YtdnhoebcomffoaaGreatDoor
open Go Go.Ev
set_option maxRecDepth 20000
set_option linter.unusedVariables false
def vZ (s : LayS) (sig : List B8) : List (List Int) := polysL (maskD s) s.g1 (sig.drop s.c) s.l
def vB (s : LayS) (sig : List B8) : List B8 := (sig.drop s.c).drop (32 * maskD s * s.l)
def vT1 (s : LayS) (vk : List B8) : List (List Int) := (List.range s.k).map fun r => (unpack 10 (((vk.drop 32).drop (320 * r)).take 320)).map fun x => x * 8192
def vW (set : Int) (s : LayS) (vk sig : List B8) : List (List Int) := lessL (applyL (matL s.k s.l (vk.take 32)) (vZ s sig)) (scaledL (ballL set (sig.take s.c)) (vT1 s vk))
@[irreducible] def vCH (set : Int) (s : LayS) (vk note m sig : List B8) : List B8 := spOut 136 31 (muL (spOut 136 31 vk 64) note m ++ highB s.g2 (useL s.g2 (unL (vB s sig) s.omega s.k) (vW set s vk sig))) (s.c : Int)
open Classical in
noncomputable def verC (set : Int) (vk note m sig : List B8) : Int :=
  if isSet set = true then
    (if vk.length = vkS set ∧ sig.length = sgS set ∧ note.length ≤ 255 then
      (if uAll (vB (layS set) sig) (layS set).omega (layS set).k then
        (if normL (vZ (layS set) sig) < ((layS set).g1 : Int) - (layS set).beta ∧ vCH set (layS set) vk note m sig = sig.take (layS set).c then 0 else 7)
      else 4)
    else 3)
  else 2
theorem sig_back {set : Int} (his : isSet set = true) (t : Tn) (es : t.s = layS set) (hA : t.A.length = (layS set).k) {N : Nat} (hok : t.ok N = true) :
    (t.sig N).length = sgS set ∧ (t.sig N).take (layS set).c = t.CH N ∧ vZ (layS set) (t.sig N) = t.Z N ∧ vB (layS set) (t.sig N) = hintB (layS set) (t.H N) := by
  obtain ⟨-, -, z3⟩ := sizes_eq his
  have hG := goodS his
  have hX := goodX his
  have hg1 := goodG1 his
  have hbl := blen_g hg1
  have hg : (layS set).g1 ≤ 524288 ∧ 1 ≤ (layS set).g1 := by rcases hX.g1 with h | h <;> omega
  have hc : t.s.c ≤ 64 := by rw [es]; exact hG.c
  have hlen := Tn.sig_len t N hc hok
  have hZ := Tn.Z_len t N
  have hCH := Tn.CH_len t N hc
  have hok2 := okT_hint hok
  have pZ : Pos (t.Z N) := plusL_pos _ _
  rw [es] at hlen hZ hCH hok2
  rw [hbl, hA] at hlen
  have hsig : t.sig N = t.CH N ++ ((t.Z N).flatMap (nearP ((layS set).g1 - 1) (layS set).g1) ++ hintB (layS set) (t.H N)) := by
    rw [← es, ← List.append_assoc]; rfl
  have hLy := lays_of_norm hg.1 pZ (by have := hok2.1; omega)
  have hfl := near_flat_len ((layS set).g1 - 1) (layS set).g1 (t.Z N) pZ
  rw [hbl, hZ] at hfl
  have hd : (t.sig N).drop (layS set).c = (t.Z N).flatMap (nearP ((layS set).g1 - 1) (layS set).g1) ++ hintB (layS set) (t.H N) := by
    rw [hsig]; exact List.drop_left' hCH
  have hcm : 32 * (layS set).l * maskD (layS set) = 32 * maskD (layS set) * (layS set).l := Nat.mul_right_comm _ _ _
  refine ⟨by rw [hlen, ← z3, hcm]; omega, by rw [hsig]; exact List.take_left' hCH, ?_, ?_⟩
  · unfold vZ
    rw [hd, ← hbl, ← hZ]
    exact polysL_near _ _ (by omega) _ hLy _
  · unfold vB
    rw [hd]
    exact List.drop_left' hfl
theorem chunks_back (fs : List (List Int)) (ht : Ten fs) {r : Nat} (hr : r < fs.length) : unpack 10 (((fs.flatMap (packL 10)).drop (320 * r)).take 320) = fs.getD r [] := by
  have hg : fs.getD r [] = fs[r] := by rw [List.getD_eq_getElem?_getD, List.getElem?_eq_getElem hr]; rfl
  have hm : fs[r] ∈ fs := List.getElem_mem hr
  have e : fs.flatMap (packL 10) = (fs.take r).flatMap (packL 10) ++ (packL 10 fs[r] ++ (fs.drop (r + 1)).flatMap (packL 10)) := by
    conv => lhs; rw [← List.take_append_drop r fs, List.drop_eq_getElem_cons hr, List.flatMap_append, List.flatMap_cons]
  have hl := length_flatMap_pack (fs.take r) fun l hl => ht.len l (List.mem_of_mem_take hl)
  rw [List.length_take, Nat.min_eq_left (by omega)] at hl
  have hp : (packL 10 fs[r]).length = 320 := by rw [length_packL, ht.len _ hm]
  rw [e, List.drop_left' hl, List.take_left' hp, hg]
  exact unpack_pack 10 320 (by omega) _ (ht.dig _ hm) (by rw [ht.len _ hm])
theorem key_back {set : Int} {F : List B8} (h : keyC set F.length = 0) : vT1 (layS set) (vkL set F) = eightL (highsL (tOf (layS set) ((seedAll (layS set) F).take 32) (s1Of (layS set) (seedAll (layS set) F)) (s2Of (layS set) (seedAll (layS set) F)))) := by
  have hg := seedAll_len (layS set) F
  have eV : vkL set F = vkG (layS set) (seedAll (layS set) F) := by unfold vkL; rw [if_pos h]
  have l32 : ((seedAll (layS set) F).take 32).length = 32 := by rw [List.length_take]; omega
  have eW : vkG (layS set) (seedAll (layS set) F) = (seedAll (layS set) F).take 32 ++ (highsL (tOf (layS set) ((seedAll (layS set) F).take 32) (s1Of (layS set) (seedAll (layS set) F)) (s2Of (layS set) (seedAll (layS set) F)))).flatMap (packL 10) := by unfold vkG vkOf pubL; rfl
  have pt : Pos (tOf (layS set) ((seedAll (layS set) F).take 32) (s1Of (layS set) (seedAll (layS set) F)) (s2Of (layS set) (seedAll (layS set) F))) := plusL_pos _ _
  have nt : (tOf (layS set) ((seedAll (layS set) F).take 32) (s1Of (layS set) (seedAll (layS set) F)) (s2Of (layS set) (seedAll (layS set) F))).length = (layS set).k := by unfold tOf plusL; rw [length_eachL]; unfold applyL; rw [List.length_map, length_matL]
  have ht := highs_ten pt
  have nh : (highsL (tOf (layS set) ((seedAll (layS set) F).take 32) (s1Of (layS set) (seedAll (layS set) F)) (s2Of (layS set) (seedAll (layS set) F)))).length = (layS set).k := (length_eachL _ _).trans nt
  rw [eV, eW]
  generalize tOf (layS set) ((seedAll (layS set) F).take 32) (s1Of (layS set) (seedAll (layS set) F)) (s2Of (layS set) (seedAll (layS set) F)) = T at *
  unfold vT1
  rw [List.drop_left' l32]
  have e1 : eightL (highsL T) = (List.range (layS set).k).map fun r => ((highsL T).getD r []).map fun x => x * 8192 := by
    rw [← nh]; rfl
  rw [e1]
  refine List.map_congr_left fun r hr => ?_
  have hr := List.mem_range.1 hr
  rw [chunks_back _ ht (by omega)]
/-- WHAT WAS SIGNED IS TAKEN -/
theorem signed_taken {set : Int} {F note m rnd : List B8} (h : keyC set F.length = 0) (hs : sgC set (skL set F) note m rnd = 0) : verC set (vkL set F) note m (sgL set (skL set F) note m rnd) = 0 := by
  obtain ⟨h1, ⟨-, hn⟩, -, i, hi⟩ := sgC_zero hs
  obtain ⟨his, -⟩ := opened_of h1
  have hG := goodS his
  have hX := goodX his
  obtain ⟨q1, -, q3, q4, -⟩ := parts_made h
  have hok := (Tn.find_ok hi).2
  have hSL : sgL set (skL set F) note m rnd = (tnOf set (skL set F) note m rnd).sig (i * (layS set).l) := by unfold sgL; rw [if_pos hs, hi, Option.getD_some]
  rw [hSL]
  change (tnOf set (skL set F) note m rnd).ok (i * (layS set).l) = true at hok
  generalize i * (layS set).l = N at *
  have eA : (tnOf set (skL set F) note m rnd).A.length = (layS set).k := length_matL _ _ _
  obtain ⟨b1, b2, b3, b4⟩ := sig_back his (tnOf set (skL set F) note m rnd) rfl eA hok
  have hk := key_back h
  have htk := taken_made (note := note) (m := m) (rnd := rnd) h hok
  have hok2 := okT_hint hok
  have hHl : ((tnOf set (skL set F) note m rnd).H N).length = (layS set).k := (Tn.H_len _ _).trans eA
  have hall := hint_good (s := layS set) (fs := (tnOf set (skL set F) note m rnd).H N) hX.omega hok2.2.2.2
  have hback := hint_back (s := layS set) (fs := (tnOf set (skL set F) note m rnd).H N) hX.omega hok2.2.2.2 (hnts_below (lessL_pos _ _))
  rw [hHl] at hall hback
  have hvk : (vkL set F).length = vkS set := by rw [q1]; exact (sizes_eq his).1
  unfold verC
  rw [if_pos his, if_pos ⟨hvk, b1, hn⟩, if_pos (by rw [b4]; exact hall)]
  refine if_pos ⟨by rw [b3]; exact hok2.1, ?_⟩
  have eW : vW set (layS set) (vkL set F) ((tnOf set (skL set F) note m rnd).sig N) = lessL (applyL (tnOf set (skL set F) note m rnd).A ((tnOf set (skL set F) note m rnd).Z N)) (scaledL ((tnOf set (skL set F) note m rnd).B N) (eightL (highsL (tOf (layS set) ((seedAll (layS set) F).take 32) (s1Of (layS set) (seedAll (layS set) F)) (s2Of (layS set) (seedAll (layS set) F)))))) := by
    unfold vW
    rw [b2, b3, hk, ← q3]
    rfl
  unfold vCH
  rw [b2, b4, hback, eW, htk, ← q4]
  unfold Tn.CH
  have em : (tnOf set (skL set F) note m rnd).mu = muL (((skL set F).drop 64).take 64) note m := by
    show mu3 _ _ _ = _
    unfold mu3; rfl
  rw [em]
  rfl
end Go.Proofs.YtdnhoebcomffoaaGreatDoor
end
section
set_option linter.unusedVariables false
set_option linter.unusedSimpArgs false
/- A LOOP OVER A FUNCTION, as it is met by a call that owns parts of memory. -/
namespace Go.Ev
open Go Go.RowKit
set_option linter.unusedVariables false
/-- what is owned within a loop over a function: M and N, and the loop's two blocks -/
def RL (D : Nat) (o : Option Obj) (M N : List Res) : List Res :=
  M ++ (.box [D] (fun V => V.heap[D]? = some (.deferred (some []))) :: .box [D + 1] (fun V => V.heap[D + 1]? = o) :: N)
theorem RL_D (D : Nat) (o : Option Obj) (M N : List Res) : (RL D o M N)[M.length]? = some (.box [D] (fun V => V.heap[D]? = some (.deferred (some [])))) := by
  unfold RL; rw [List.getElem?_append_right (Nat.le_refl _), Nat.sub_self]; rfl
theorem RL_l (D : Nat) (o : Option Obj) (M N : List Res) : (RL D o M N)[M.length + 1]? = some (.box [D + 1] (fun V => V.heap[D + 1]? = o)) := by
  unfold RL; rw [List.getElem?_append_right (by omega), Nat.add_sub_cancel_left]; rfl
theorem RL_set (D : Nat) (o o' : Option Obj) (M N : List Res) : (RL D o M N).set (M.length + 1) (.box [D + 1] (fun V => V.heap[D + 1]? = o')) = RL D o' M N := by
  unfold RL; rw [List.set_append_right _ _ (by omega), Nat.add_sub_cancel_left]; rfl
theorem RL_app (D : Nat) (o : Option Obj) (M N N2 : List Res) : RL D o M N ++ N2 = RL D o M (N ++ N2) := by unfold RL; simp
theorem box_ok {D : Nat} {w : World} {o : Obj} (h : w.heap[D]? = some o) : (Res.box [D] (fun V => V.heap[D]? = some o)).ok w :=
  ⟨fun b hb => by simp only [List.mem_singleton] at hb; subst hb; exact (Array.getElem?_eq_some_iff.1 h).1, fun w' hw => (hw D (by simp)).trans h⟩
theorem Mine.retD {w0 w : World} {S : List Nat} {L : List Res} {D : Nat} (H : Mine w0 S w L) (k : Nat) (hk : L[k]? = some (.box [D] (fun V => V.heap[D]? = some (.deferred (some []))))) {K : World → Prop}
    (h : ∀ w', Mod [D] w w' → Mine w0 S w' (L.set k .no) → K w') : retD D w K := by
  have hD := H.box k hk
  refine ⟨hD, h _ ?_ (H.upd k hk (T := [D]) ?_ (fun b hb => .inl hb) trivial (fun b hb => by cases hb))⟩
  · exact Mod.grown (grown_put w D _)
  · exact Mod.grown (grown_put w D _)
theorem range_of {P : Program} {g : Value} {w w0 : World} {S : List Nat} {L : List Res} {gf : FuncId} {lb : List Value} {A : Type} {enc : A → Value} {S' Sp : List A → Prop} {N : Nat} {round : Value → World → (World → Prop) → (World → Prop) → Prop} {done stop : World → Prop}
    (hg : g = .func (.func gf) #[] ⟨lb⟩) (hb : bodied P gf = true) (caps : List Nat) (hcaps : ∀ b ∈ caps, b < w.heap.size)
    (hseq : ∀ w1, Mod [] w w1 → SeqK P gf lb enc (fun W W' => ∀ b ∈ caps, W'.heap[b]? = W.heap[b]?) (fun _ _ => False) S' Sp N w1)
    (H : Mine w0 S w L) (LI LR : List A → List Res → List Res → Prop) (h0 : ∀ W o, Mine w0 S W (RL w.heap.size o L []) → ∃ M N', LI [] M N' ∧ Mine w0 S W (RL w.heap.size o M N'))
    (hround : ∀ pre x W o M N' K Kr, LI pre M N' → pre.length < N → Mine w0 S W (RL w.heap.size o M N') →
      (∀ W' M' N2, (∀ b ∈ caps, W'.heap[b]? = W.heap[b]?) → LI (pre ++ [x]) M' N2 → Mine w0 S W' (RL w.heap.size o M' N2) → K W') →
      (∀ W' M' N2, LR (pre ++ [x]) M' N2 → Mine w0 S W' (RL w.heap.size o M' N2) → Kr W') → round (enc x) W K Kr)
    (hdone : ∀ xs W o M N', S' xs → LI xs M N' → Mine w0 S W (RL w.heap.size o M N') → done W)
    (hstop : ∀ pre W o M N', Sp pre → LR pre M N' → Mine w0 S W (RL w.heap.size o M N') → stop W) : rangeK P g w round done stop := by
  refine ⟨gf, lb, hg, hb, fun w1 rec hw1 => ?_⟩
  have hm1 : Mod [] w w1 := by rw [hw1]; exact (Mod.alloc [] w _).trans (Mod.alloc [] _ _)
  have hD1 : w1.heap[w.heap.size]? = some (.deferred (some [])) := by
    rw [hw1]; exact (Below.heap_alloc _ _ _ (by simp)).trans (World.alloc_heap_new w _)
  have hl1 : w1.heap[w.heap.size + 1]? = some rec := by
    rw [hw1]; have := World.alloc_heap_new (w.alloc (.deferred (some []))) rec; rwa [World.size_alloc] at this
  have H1 : Mine w0 S w1 (RL w.heap.size (some rec) L []) := by
    have ha := H.push (r := .box [w.heap.size] (fun V => V.heap[w.heap.size]? = some (.deferred (some [])))) (Mod.alloc [] w (.deferred (some []))) (box_ok (World.alloc_heap_new w _)) (fun b hb => by simp only [Res.box, List.mem_singleton] at hb; omega)
    have hb := ha.push (r := .box [w.heap.size + 1] (fun V => V.heap[w.heap.size + 1]? = some rec)) (Mod.alloc [] _ rec) (by rw [← hw1]; exact box_ok hl1) (fun b hb => by simp only [Res.box, List.mem_singleton] at hb; rw [World.size_alloc]; omega)
    rw [← hw1, List.append_assoc] at hb
    exact hb
  have stab : ∀ {LI : List A → List Res → List Res → Prop} pre W W' row, (∃ o M N', LI pre M N' ∧ Mine w0 S W (RL w.heap.size o M N')) → W.grownBy W' row → (∀ r, row = some r → r = w.heap.size + 1 ∨ False) → ∃ o M N', LI pre M N' ∧ Mine w0 S W' (RL w.heap.size o M N') := by
    rintro LI pre W W' row ⟨o, M, N', hL, HM⟩ hg' hr
    have hlt : w.heap.size + 1 < W'.heap.size := Nat.lt_of_lt_of_le ((Res.box [w.heap.size + 1] _).lt W (HM.get (M.length + 1) (RL_l _ _ _ _)) _ (by simp [Res.box])) hg'.size
    refine ⟨W'.heap[w.heap.size + 1]?, M, N', hL, ?_⟩
    have := HM.upd (M.length + 1) (RL_l _ _ _ _) (T := row.toList) (r' := .box [w.heap.size + 1] (fun V => V.heap[w.heap.size + 1]? = W'.heap[w.heap.size + 1]?)) (Mod.grown hg') (fun b hb => ?_) ?_ (fun b hb => .inl hb)
    · rwa [RL_set] at this
    · cases row with
      | none => cases hb
      | some r =>
        simp only [Option.toList_some, List.mem_singleton] at hb
        subst hb
        rcases hr _ rfl with h | h
        · exact .inl (by simp [Res.box, h])
        · exact h.elim
    · exact ⟨fun b hb => by simp only [List.mem_singleton] at hb; subst hb; exact hlt, fun w' hw => hw _ (by simp)⟩
  refine ⟨A, enc, _, _, S', Sp, N, fun pre W => ∃ o M N', LI pre M N' ∧ Mine w0 S W (RL w.heap.size o M N'), fun pre W => ∃ o M N', LR pre M N' ∧ Mine w0 S W (RL w.heap.size o M N'), hseq w1 hm1, (let ⟨M, N', h1, h2⟩ := h0 w1 _ H1; ⟨_, M, N', h1, h2⟩), fun W r h => h.elim, ?_, fun pre W W' row => stab pre W W' row, fun pre W W' row => stab pre W W' row, ?_, ?_, ?_⟩
  · intro W W' o o' h b hb
    have h1 := hcaps b hb
    rw [World.putObj_heap_other (by omega)]
    have h2 := h b hb
    rwa [World.putObj_heap_other (by omega)] at h2
  · rintro pre x W ⟨o, M, N', hL, HM⟩ hlen
    have ho : W.heap[w.heap.size + 1]? = o := HM.box _ (RL_l _ _ _ _)
    have hD : W.heap[w.heap.size]? = some (.deferred (some [])) := HM.box _ (RL_D _ _ _ _)
    refine hround pre x W o M N' _ _ hL hlen HM (fun W' M' N2 h1 h2 h3 => ?_) (fun W' M' N2 h2 h3 => ?_)
    · exact ⟨(h3.box _ (RL_D _ _ _ _)).trans hD.symm, (h3.box _ (RL_l _ _ _ _)).trans ho.symm, h1, o, M', N2, h2, h3⟩
    · exact ⟨(h3.box _ (RL_D _ _ _ _)).trans hD.symm, (h3.box _ (RL_l _ _ _ _)).trans ho.symm, o, M', N2, h2, h3⟩
  · rintro xs W hS ⟨o, M, N', hL, HM⟩ hD
    exact hdone xs W o M N' hS hL HM
  · rintro xs W hS ⟨o, M, N', hL, HM⟩ hD
    exact hstop xs W o M N' hS hL HM
end Go.Ev
end
section
set_option linter.unusedVariables false
set_option linter.unusedSimpArgs false
/- slices.Chunk: what the iterator that it hands back promises. -/
namespace Go.Proofs.YtdnhoebcomffoaaGreatDoor
open Go Go.Ev
set_option maxRecDepth 20000
set_option linter.unusedVariables false
theorem slices_Chunk_ok (x : SlV) (k : Nat) (hk : 1 ≤ k) (w : World) : Ok Pr f_slices_Chunk_byte_byte [.slice x.a x.n x.c, .int .i64 (k : Int)] w fun v w' =>
    ∃ b c, v = .func (.func f_slices_Chunk_byte_byte_1) #[] ⟨[.pointer (some ⟨b, 0, none⟩), .pointer (some ⟨c, 0, none⟩)]⟩ ∧ Mine w [] w' [.blk b [.slice x.a x.n x.c] t_s_uint8, .blk c [.int .i64 (k : Int)] t_int] := by
  refine V_slices_Chunk_byte_byte_of ?_
  unfold V_slices_Chunk_byte_byte
  refine (Mine.start w).nw fun p w1 H _ => H.nw fun q w2 H _ => H.ldI 1 rfl rfl rfl (ite_false (decide_eq_false (by omega)) ?_)
  exact ⟨p, q, rfl, H⟩
/-- part i of so many bytes each -/
def chunkAt (x : SlV) (k i : Nat) : SlV := ⟨sub x.a (i * k) (i * k + k) 1, k, k⟩
theorem World.grown_drew (w : World) (row : Option Nat) : w.grownBy w.drew row := ⟨rfl, rfl, rfl, Nat.le_refl _, fun _ _ _ => rfl⟩
theorem chunk_lt {A : Type} {x : A} {K : A → Prop} (h : K x) : lt x K := h
theorem chunk_yield {F : Fence} {m : Nat} {P : Program} {l : Nat} {args : Array Value} {W : World} {R R' : Ending → World → Prop} (h : YieldAt F m P l args W R) (hr : ∀ e w, R e w → R' e w) : YieldAt F m P l args W R' := by
  obtain ⟨fn, tmps, asg, bd, hy, hR⟩ := h
  exact ⟨fn, tmps, asg, bd, hy, hR.mono hr⟩
theorem chunk_seq {x : SlV} {k N b c : Nat} (hk : 1 ≤ k) (hn : x.n = N * k) (hc : x.n ≤ x.c) (hb : N * k + k < 4611686018427387904) {w1 : World} {t u : TypeId} (h1 : Blk w1 b [.slice x.a x.n x.c] t) (h2 : Blk w1 c [.int .i64 (k : Int)] u) :
    SeqK Pr f_slices_Chunk_byte_byte_1 [.pointer (some ⟨b, 0, none⟩), .pointer (some ⟨c, 0, none⟩)] (fun i : Fin N => (chunkAt x k i.val).v) (fun W W' => ∀ d ∈ [b, c], W'.heap[d]? = W.heap[d]?) (fun _ _ => False)
      (fun xs => xs.map (·.val) = List.range N) (fun pre => ∃ j, j ≤ N ∧ pre.map (·.val) = List.range j) N w1 := by
  intro l J Jx hJ hJx hY h0
  have dr : ∀ {s W}, J s W → J s W.drew := fun {s W} h => hJ s W _ none h (World.grown_drew W none) fun r e => by cases e
  refine CallsIn.mono (V_slices_Chunk_byte_byte_1_of (yield := l) (free := ⟨b, 0, none⟩) (free_1 := ⟨c, 0, none⟩) (R := fun v W' => (∃ xs : List (Fin N), xs.map (·.val) = List.range N ∧ J xs W') ∨ (∃ pre : List (Fin N), (∃ j, j ≤ N ∧ pre.map (·.val) = List.range j) ∧ Jx pre W')) ?_) fun e w' ⟨v, he, h⟩ => ⟨⟨v, he⟩, h⟩
  unfold V_slices_Chunk_byte_byte_1
  refine loop1_of (fun i W => ∃ (j : Nat) (pre : List (Fin N)), j ≤ N ∧ i = ((j * k : Nat) : Int) ∧ pre.map (·.val) = List.range j ∧ J pre W ∧ Blk W b [.slice x.a x.n x.c] t ∧ Blk W c [.int .i64 (k : Int)] u) (fun i _ => N * k - i.toNat) ⟨0, [], by omega, by simp, rfl, h0, h1, h2⟩ ?_
  rintro again i W ⟨j, pre, hj, rfl, hpre, hJp, hB, hC⟩ hag
  refine hB.ldL (i := 0) rfl rfl (ite_intro (fun hlt => ?_) (fun hge => ?_))
  · have hlt : j * k < N * k := by rw [← hn]; exact_mod_cast of_decide_eq_true hlt
    have hjN : j < N := Nat.lt_of_mul_lt_mul_right hlt
    have hjk : j * k + k ≤ N * k := by have := Nat.mul_le_mul_right k hjN; rw [Nat.succ_mul] at this; exact this
    have hB' : Blk W.drew b [.slice x.a x.n x.c] t := hB
    have hC' : Blk W.drew c [.int .i64 (k : Int)] u := hC
    refine hC'.ldI (i := 0) rfl rfl (hB'.ldL (i := 0) rfl rfl ⟨⟨by omega, by omega⟩, ?_⟩)
    have e0 : min (k : Int) ((x.n - ((j * k : Nat) : Int).toNat : Nat) : Int) = (k : Int) := by
      have : (((j * k : Nat) : Int).toNat) = j * k := rfl
      omega
    refine chunk_lt ?_
    rw [e0]
    refine hB'.ldL (i := 0) rfl rfl ⟨⟨by omega, by omega⟩, ⟨by omega, by omega⟩, ⟨by omega, by omega, by omega, by omega⟩, ?_⟩
    have e1 : (((j * k : Nat) : Int)).toNat = j * k := rfl
    have e2 : (((j * k : Nat) : Int) + (k : Int)).toNat = j * k + k := by omega
    rw [e1, e2]
    have hlen : pre.length = j := by have := congrArg List.length hpre; simpa using this
    have hsl : (⟨sub x.a (j * k) (j * k + k) 1, j * k + k - j * k, j * k + k - j * k⟩ : SlV) = chunkAt x k j := by unfold chunkAt; rw [Nat.add_sub_cancel_left]
    rw [hsl]
    have hy := hY pre ⟨j, hjN⟩ W.drew (dr hJp) (by omega)
    refine chunk_yield hy ?_
    rintro e W2 (⟨rfl, hJ2, hkk⟩ | ⟨rfl, hJx2⟩)
    · refine ⟨_, rfl, true, rfl, ite_false rfl ?_⟩
      have hB2 : Blk W2 b [.slice x.a x.n x.c] t := (hkk b (by simp)).trans hB
      have hC2 : Blk W2 c [.int .i64 (k : Int)] u := (hkk c (by simp)).trans hC
      refine hC2.ldI (i := 0) rfl rfl ⟨⟨by omega, by omega⟩, hag _ _ ⟨j + 1, pre ++ [⟨j, hjN⟩], hjN, ?_, ?_, hJ2, hB2, hC2⟩ ?_⟩
      · rw [Nat.succ_mul]; omega
      · rw [List.map_append, hpre, List.range_succ]; rfl
      · omega
    · exact ⟨_, rfl, false, rfl, ite_true rfl (.inr ⟨_, ⟨j + 1, hjN, by rw [List.map_append, hpre, List.range_succ]; rfl⟩, hJx2⟩)⟩
  · have hge : N * k ≤ j * k := by have := of_decide_eq_false hge; rw [hn] at this; omega
    have : j = N := Nat.le_antisymm hj (Nat.le_of_mul_le_mul_right hge hk)
    subst this
    exact .inl ⟨pre, hpre, hJp⟩
theorem chunk_bytes {w : World} {x : SlV} {l : List B8} {k i : Nat} (h : Bytes w x l) (hk : 1 ≤ k) (hi : i * k + k ≤ x.n) : Bytes w (chunkAt x k i) ((l.drop (i * k)).take k) := by
  have hc := h.cap
  have hp := Sl.part h (by omega : 0 < 1) (i * k) (i * k + k) (by omega) hi
  have e : sub x.a (i * k) x.c 1 = sub x.a (i * k) (i * k + k) 1 := by
    unfold sub
    rw [if_neg (by omega), if_neg (by omega)]
  rw [e, Nat.add_sub_cancel_left, Nat.mul_one, Nat.mul_one, u8s_drop, u8s_take] at hp
  refine ⟨?_, Nat.le_refl k, hp.pre, hp.cell⟩
  exact hp.len
end Go.Proofs.YtdnhoebcomffoaaGreatDoor
end
section
set_option linter.unusedVariables false
set_option linter.unusedSimpArgs false
/- NUMBERS AND BYTES, ONE WAY: what code's and the document's Number, Bytes, Text compute. -/
namespace Go.Proofs.YtdnhoebcomffoaaGreatDoor
open Go Go.Ev
set_option linter.unusedVariables false
/-- a number's eight bytes, the highest first -/
def be (n : Int) : List B8 := (List.range 8).map fun k => ((BitVec.ofInt 64 n : B64) >>> (56 - 8 * k)).setWidth 8
/-! ### the document's -/
end Go.Proofs.YtdnhoebcomffoaaGreatDoor
end
section
set_option linter.unusedVariables false
set_option linter.unusedSimpArgs false
/- REQUESTS: which may be, their bodies, which are the same: the program's and the document's. -/
namespace Go.Proofs.YtdnhoebcomffoaaGreatDoor
open Go Go.Ev
set_option maxRecDepth 20000
set_option linter.unusedVariables false
/-- a request's cells -/
structure AskV where
  (n0 n1 n2 n3 n4 n5 n6 n7 n8 n9 n10 : Int)
  name : ByteArray
  (by_ tok : SlV)
def AskV.rest (q : AskV) : List Int := [q.n3, q.n4, q.n5, q.n6, q.n7, q.n8, q.n9, q.n10]
def within2 (lo hi n : Int) : Bool := decide (lo ≤ n) && decide (n ≤ hi)
def mayAsk (q : AskV) : Bool := within2 1 6 q.n0 && (within2 1 1099511627776 q.n1 && (within2 1 13 q.n2 && (q.rest.all (within2 0 1099511627776) && (decide (q.name.size ≤ 300) && (decide (q.by_.n ≤ 2000) && decide (q.tok.n ≤ 100))))))
def bodyC (q : AskV) : Int := if mayAsk q = true then 0 else 2
end Go.Proofs.YtdnhoebcomffoaaGreatDoor
end
section
set_option linter.unusedVariables false
set_option linter.unusedSimpArgs false
/- REQUESTS: which are the same; the document's; a reading that is refused by its size. -/
namespace Go.Proofs.YtdnhoebcomffoaaGreatDoor
open Go Go.Ev
set_option maxRecDepth 20000
set_option linter.unusedVariables false
theorem bytes_Equal_ok (x y : SlV) (l m : List B8) (w : World) (hx : Bytes w x l) (hy : Bytes w y m) : Ok Pr f_bytes_Equal [.slice x.a x.n x.c, .slice y.a y.n y.c] w fun v w' => v = .bool (decide (l = m)) ∧ w' = w := by
  refine V_bytes_Equal_of ?_
  unfold V_bytes_Equal
  refine b2s_of hx (b2s_of hy ⟨?_, rfl⟩)
  congr 1
  exact decide_eq_decide.2 strOf_inj
/-! ### the document's -/
/-! ### what a reading refuses by its size -/
end Go.Proofs.YtdnhoebcomffoaaGreatDoor
end
section
set_option linter.unusedVariables false
set_option linter.unusedSimpArgs false
/- VERIFYING: the program's. -/
namespace Go.Proofs.YtdnhoebcomffoaaGreatDoor
open Go Go.Ev
set_option maxRecDepth 20000
set_option linter.unusedVariables false
theorem zc_vec1 : zc Pr t_s_s_int = [.slice none 0 0] := by kernel_rfl
theorem bod_ver_1 : bodied Pr f_sign_Verify_1 = true := by kernel_rfl
theorem bod_chunk_1 : bodied Pr f_slices_Chunk_byte_byte_1 = true := by kernel_rfl
def useF (g : Int) (h f : List Int) : List Int := (List.range f.length).map fun i => use g (h.getD i 0) (f.getD i 0)
theorem use_below {g : Int} (hg : GG g) (h f : List Int) (hl : f.length = 256) : (useF g h f).length = 256 ∧ ∀ x ∈ useF g h f, 0 ≤ x ∧ x < mOf g := by
  unfold useF
  refine ⟨by rw [List.length_map, List.length_range, hl], fun x hx => ?_⟩
  obtain ⟨i, _, rfl⟩ := List.mem_map.1 hx
  have hr := prt_rng (x := f.getD i 0) hg
  have hm := mOf_rng hg
  generalize f.getD i 0 = y at *
  generalize h.getD i 0 = z at *
  unfold use
  split
  · split
    · exact ⟨Int.emod_nonneg _ (by omega), Int.emod_lt_of_pos _ (by omega)⟩
    · exact ⟨Int.emod_nonneg _ (by omega), Int.emod_lt_of_pos _ (by omega)⟩
  · omega
theorem ver_1_tells {w : World} {a b : Addr} {g : Int} (hg : GG g) (h7 : w.cell? (Addr.add a 7) = some (.int .i64 g)) {t : SlV} {HH X : List (List Int)} (hb : w.cell? b = some (.slice t.a t.n t.c)) (ht : Pols w t HH) (hT : ∀ f ∈ HH, f.length = 256) (hX : Pos X) (hTX : HH.length = X.length)
    (i : Nat) (y : SlV) (w' : World) (hi : i < X.length) (m : Mod [] w w') (hy : Nums w' y (X.getD i [])) :
    callV Pr (.func (.func f_sign_Verify_1) ⟨[]⟩ ⟨[.pointer (some a), .pointer (some b)]⟩) [.int .i64 (i : Int), .slice y.a y.n y.c] w' fun v w'' => ∃ z : SlV, v = .slice z.a z.n z.c ∧ Boxed w' w'' fun w => Nums w z (useF g (HH.getD i []) (X.getD i [])) := by
  refine callV_of bod_ver_1 (V_sign_Verify_1_of ?_)
  unfold V_sign_Verify_1
  have hyl := hy.len
  have px := hX.get hi
  have hlt := hT _ (mem_getD (i := i) (by omega) [])
  have hl := px.len
  unfold useF
  refine (Mine.start w').mkN elt_i64' zc_i64 (n := (X.getD i []).length) (by omega) (by omega) (by omega) fun z w2 H2 hzn => ?_
  obtain ⟨G, hG⟩ : ∃ G : Nat → Int, G = fun k => use g ((HH.getD i []).getD k 0) ((X.getD i []).getD k 0) := ⟨_, rfl⟩
  rw [← hG]
  rw [List.nil_append, ← part_zero G] at H2
  refine loop1_up 0 (X.getD i []).length (fun k w'' => Mine w' [] w'' [.row t_int 1 z (i64s (part G (X.getD i []).length k))]) rfl (by omega) H2 ?_ ?_
  · intro again k w3 _ hk H3 hag
    have H4 := H3.drew
    have mm := m.trans H4.mod
    refine ite_true (decide_eq_true (by omega)) ((hy.mod0 H3.mod).ld (i := k) hk rfl ⟨_, mm.cell0 h7, _, mm.cell0 hb, (ht.mod0 mm).ld (i := i) (by omega) rfl fun u hu => hu.ld (i := k) (by omega) rfl (call_of (round_Use_ok g _ _ hg _) ?_)⟩)
    rintro _ w5 ⟨rfl, hw⟩
    subst hw
    refine asI_i (H4.stN 0 (i := k) rfl (by rw [part_len _ (by omega)]; omega) rfl fun w6 H6 => ⟨⟨by omega, by omega⟩, hag w6 ?_⟩)
    rw [← part_set G hk (by rw [hG])]
    exact H6
  · intro again w3 H3
    rw [part_all] at H3
    exact ite_false (decide_eq_false (by omega)) ⟨z, rfl, Boxed.of_own (H3.fresh0 0 rfl) H3.mod fun w2 h => h.nums⟩
/-- what is multiplied one by one -/
def mulPart (U : List Int) (i : Nat) : List Int := (U.take i).map (fun x => x * 8192) ++ U.drop i
theorem mulPart_len (U : List Int) (i : Nat) : (mulPart U i).length = U.length := by unfold mulPart; simp only [List.length_append, List.length_map, List.length_take, List.length_drop]; omega
theorem mulPart_get (U : List Int) {i : Nat} (h : i < U.length) : (mulPart U i).getD i 0 = U.getD i 0 := by
  unfold mulPart
  rw [List.getD_eq_getElem?_getD, List.getElem?_append_right (by simp; omega)]
  simp only [List.length_map, List.length_take, Nat.min_eq_left (Nat.le_of_lt h), Nat.sub_self, List.getElem?_drop, Nat.add_zero]
  rw [List.getD_eq_getElem?_getD]
theorem mulPart_set (U : List Int) {i : Nat} (h : i < U.length) : (mulPart U i).set i (U.getD i 0 * 8192) = mulPart U (i + 1) := by
  unfold mulPart
  have hl : ((U.take i).map fun x => x * 8192).length = i := by simp; omega
  rw [List.set_append_right _ _ (by omega), hl, Nat.sub_self, List.drop_eq_getElem_cons h, List.set_cons_zero, take_succ_getD _ _ h 0, List.map_append, List.append_assoc]
  rfl
def t1At (vk : List B8) (r : Nat) : List Int := (unpack 10 (((vk.drop 32).drop (320 * r)).take 320)).map fun x => x * 8192
open Classical in
theorem sign_Verify_ok (set : Int) (xv xn xm xs : SlV) (vk note m sig : List B8) (h1 : vk.length ≤ 100000) (h2 : note.length ≤ 100000) (h3 : m.length ≤ 100000) (h4 : sig.length ≤ 100000) (w : World) (hv : Bytes w xv vk) (hn : Bytes w xn note) (hm : Bytes w xm m) (hs : Bytes w xs sig) :
    Ok Pr f_sign_Verify [.int .i64 set, .slice xv.a xv.n xv.c, .slice xn.a xn.n xn.c, .slice xm.a xm.n xm.c, .slice xs.a xs.n xs.c] w fun v w' => IsErr w w' v (verC set vk note m sig) ∧ Mod [] w w' := by
  by_cases his : isSet set = true
  case neg =>
    have hf : isSet set = false := by simpa using his
    have e : verC set vk note m sig = 2 := by unfold verC; rw [if_neg his]
    rw [e]
    exact sign_Verify_noset set hf xv xn xm xs w
  obtain ⟨z1, -, z3⟩ := sizes_eq his
  have hvl := hv.len
  have hsl := hs.len
  have hG := goodS his
  have hX := goodX his
  have hbl := blen_g (goodG1 his)
  have bC := ballC_of his
  obtain ⟨vkn, hvkn⟩ : ∃ n : Nat, n = vkS set := ⟨_, rfl⟩
  obtain ⟨sgn, hsgn⟩ : ∃ n : Nat, n = sgS set := ⟨_, rfl⟩
  have hver : verC set vk note m sig = if vk.length = vkn ∧ sig.length = sgn ∧ note.length ≤ 255 then
      (if uAll (vB (layS set) sig) (layS set).omega (layS set).k then
        (if normL (vZ (layS set) sig) < ((layS set).g1 : Int) - (layS set).beta ∧ vCH set (layS set) vk note m sig = sig.take (layS set).c then 0 else 7)
      else 4) else 3 := by unfold verC; rw [if_pos his, hvkn, hsgn]
  rw [← hvkn] at z1
  rw [← hsgn] at z3
  have hvch : vCH set (layS set) vk note m sig = spOut 136 31 (muL (spOut 136 31 vk 64) note m ++ highB (layS set).g2 (useL (layS set).g2 (unL (vB (layS set) sig) (layS set).omega (layS set).k) (vW set (layS set) vk sig))) ((layS set).c : Int) := by unfold vCH; rfl
  rw [hver]
  generalize vCH set (layS set) vk note m sig = VCH at *
  refine V_sign_Verify_of ?_
  unfold V_sign_Verify
  rw [zc_lSet, zc_vec1]
  refine call_of (lay_Of_ok set w) ?_
  rintro _ w1 ⟨rfl, m1⟩
  rw [his]
  obtain ⟨s, hS⟩ : ∃ s, layS set = s := ⟨_, rfl⟩
  simp only [hS] at hG hX hbl bC hver hvch z1 z3 ⊢
  refine ⟨_, rfl, as_lSet ⟨_, rfl, rfl, ((Mine.start w).frame m1).nw fun p w2 H _ => H.sT_lay_Set 0 rfl rfl fun w3 H => ite_false rfl (call_of (sign_Digest_ok xv xn xm vk note m (by omega) (by omega) (by omega) _ (hv.mod0 H.mod) (hn.mod0 H.mod) (hm.mod0 H.mod)) ?_)⟩⟩
  rintro _ w4 ⟨u, er, rfl, hu, he, hno, m4⟩
  have H := H.got2 m4 hu he hno
  obtain ⟨mu, hmu⟩ : ∃ mu, mu = muL (spOut 136 31 vk 64) note m := ⟨_, rfl⟩
  rw [← hmu] at H hvch
  have fin : ∀ {w' w2 : World} {L : List Res} {e : Value} {c : Int}, Mine w [] w' L → IsErr w' w2 e c → Mod [] w' w2 → IsErr w w2 e c ∧ Mod [] w w2 := fun H h m => ⟨h.from H.mod.size, (H.frame m).mod⟩
  refine ⟨_, rfl, u, rfl, rfl, join0_of fun go hgo => call_of (lay_Sizes_ok set w4) ?_⟩
  rintro _ w5 ⟨rfl, m5⟩
  rw [← hvkn, ← hsgn]
  have H := H.frame m5
  refine ⟨_, rfl, _, rfl, _, rfl, _, rfl, rfl, join1_of fun go1 hgo1 => ?_⟩
  have bad : (¬ (vk.length = vkn ∧ sig.length = sgn ∧ note.length ≤ 255)) → go1 true w5 := fun hb => by
    rw [if_neg hb] at hgo1
    refine hgo1 _ _ (ite_true rfl (call_of (sign_fault_ok 3 (by decide) w5) ?_))
    rintro e w6 ⟨h6, m6⟩
    exact fin H h6 m6
  by_cases hb1 : vk.length = vkn ∧ sig.length = sgn
  case neg =>
    refine ite_true ?_ (bad fun h => hb1 ⟨h.1, h.2.1⟩)
    have hh : ¬ (xv.n = vkn ∧ xs.n = sgn) := by rw [← hvl, ← hsl]; exact hb1
    by_cases hc : xv.n = vkn
    · have : ¬ xs.n = sgn := fun h => hh ⟨hc, h⟩
      simp; omega
    · simp; omega
  refine ite_false (by rw [← hvl, ← hsl, hb1.1, hb1.2]; simp) ((H.err 2 rfl).isNil ?_)
  by_cases hb2 : note.length ≤ 255
  case neg =>
    have : digC note.length = 3 := by unfold digC; rw [if_neg hb2]
    rw [this]
    exact bad fun h => hb2 h.2.2
  have hd0 : digC note.length = 0 := by unfold digC; rw [if_pos hb2]
  rw [if_pos hb2, hd0] at H
  rw [hd0]
  rw [if_pos ⟨hb1.1, hb1.2, hb2⟩] at hgo hgo1
  refine hgo1 _ _ (ite_false rfl (hgo _ ?_))
  have hk0 := hG.k0
  have hk8 := hG.k
  have hl0 := hG.l0
  have hl7 := hG.l
  have hc64 := hG.c
  have hg1 : s.g1 ≤ 524288 ∧ 131072 ≤ s.g1 := by rcases hX.g1 with h | h <;> omega
  have hmd : maskD s = 18 ∨ maskD s = 20 := by unfold maskD; split <;> simp
  have e32 : 32 * s.l * maskD s = 32 * maskD s * s.l := Nat.mul_right_comm _ _ _
  refine H.ldI 0 rfl (ad1 p 8) rfl (hs.h s.c rfl (by omega) fun xc hxc kc _ => ?_)
  have H := H.drew
  refine H.ldI 0 rfl (ad1 p 6) rfl ⟨⟨by omega, by omega⟩, H.ldI 0 rfl (ad1 p 6) rfl (H.ldI 0 rfl (ad1 p 1) rfl (H.ldI 0 rfl (ad1 p 8) rfl (hs.l s.c rfl (by omega) fun xz hxz kz _ => ?_)))⟩
  rw [show (s.g1 : Int) - 1 = ((s.g1 - 1 : Nat) : Int) by omega]
  refine call_of (sign_polys_ok (s.g1 - 1) s.g1 s.l (by omega) (by omega) (by omega) (by omega) xz (sig.drop s.c) (by rw [hbl, List.length_drop]; omega) _ (kz.mod0 H.mod)) ?_
  rintro _ w6 ⟨yz, xh, rfl, hyz, hxh⟩
  rw [hbl] at hyz hxh
  obtain ⟨fz, H⟩ := H.gotBox hyz
  have kh : Bytes w xh (vB s sig) := hxh _ kz
  have nB : (vB s sig).length = s.omega + s.k := by unfold vB; rw [List.length_drop, List.length_drop]; omega
  have pZ : Pos (vZ s sig) := polysL_pos (by omega) (by rw [List.length_drop]; omega)
  have nZ : (vZ s sig).length = s.l := by unfold vZ polysL; rw [List.length_map, List.length_range]
  refine ⟨_, rfl, yz, rfl, xh, rfl, rfl, call_of (lay_Unhint_ok set his s hS.symm xh (vB s sig) nB _ (kh.mod0 H.mod)) ?_⟩
  rintro _ w7 ⟨yh, e7, rfl, he7, m7, hyh⟩
  by_cases hu : uAll (vB s sig) s.omega s.k
  case neg =>
    have e : unC (vB s sig) s.omega s.k = 4 := by unfold unC; rw [if_neg hu]
    rw [e] at he7
    rw [if_neg hu]
    refine ⟨_, rfl, yh, rfl, rfl, (H.frame m7).nw fun p1 w8 H hp1 => H.st 4 (i := 0) rfl rfl (Nat.lt_succ_self 0) rfl fun w9 H => he7.1.isNil (ite_true rfl (call_of (sign_fault_ok 4 (by decide) w9) ?_))⟩
    rintro e w10 ⟨h, m⟩
    exact fin H h m
  have e : unC (vB s sig) s.omega s.k = 0 := by unfold unC; rw [if_pos hu]
  rw [e] at he7
  rw [if_pos hu] at *
  obtain ⟨fh, H⟩ := H.gotBox (hyh e)
  obtain ⟨HH, hHH⟩ : ∃ HH, HH = unL (vB s sig) s.omega s.k := ⟨_, rfl⟩
  rw [← hHH] at H hvch
  have nHH : HH.length = s.k := by rw [hHH]; unfold unL; simp
  have lHH : ∀ f ∈ HH, f.length = 256 := by
    rw [hHH]; unfold unL
    intro f hf
    obtain ⟨r, _, rfl⟩ := List.mem_map.1 hf
    exact length_unF _ _ _
  refine ⟨_, rfl, yh, rfl, rfl, H.nw fun p1 w8 H hp1 => H.st 5 (i := 0) rfl rfl (Nat.lt_succ_self 0) rfl fun w9 H => he7.1.isNil (ite_false rfl ?_)⟩
  have H : Mine w [] w9 [.blk p s.cells t_lay_Set, .row t_uint8 1 u (u8s mu), Res.err er 0, .box fz fun w => Pols w yz (vZ s sig), .box fh fun w => Pols w yh HH, .blk p1 [.slice yh.a yh.n yh.c] t_s_s_int] := H
  have H := H.drew
  have hbe := hX.beta
  refine H.ldI 0 rfl (ad1 p 6) rfl (H.ldI 0 rfl (ad1 p 4) rfl ⟨⟨by omega, by omega⟩, call_of (wave_Norm_ok yz (vZ s sig) (by omega) pZ _ (H.box 3 rfl)) ?_⟩)
  rintro _ w10 ⟨rfl, m10⟩
  have k1 : ∀ j, kept (Addr.add ⟨p, 0, none⟩ j) 1 w9.drew w10 := fun j => kept_of m10 (by rw [add_block]; exact (H.blk 0 rfl).lt) (by simp)
  have H := H.frame m10
  refine asI_i ⟨k1 4, k1 6, ?_⟩
  by_cases hnm : normL (vZ s sig) < (s.g1 : Int) - s.beta
  case neg =>
    rw [if_neg fun h => hnm h.1]
    refine ite_true (decide_eq_true (by omega)) (call_of (sign_fault_ok 7 (by decide) w10) ?_)
    rintro e w11 ⟨h, m⟩
    exact fin H h m
  have nC : (sig.take s.c).length = s.c := by rw [List.length_take]; omega
  refine ite_false (decide_eq_false (by omega)) (call_of (sift_Ball_all set xc (sig.take s.c) _ (kc.mod0 H.mod)) ?_)
  rw [nC, bC]
  rintro _ w11 ⟨yB, eB, rfl, hyB, -, -, m11⟩
  have H := H.got m11 hyB
  have pB : Po (ballL set (sig.take s.c)) := (ballL_okay (by rw [nC]; exact bC)).1
  generalize hB : ballL set (sig.take s.c) = B at *
  refine ⟨_, rfl, yB, rfl, rfl, H.nw fun p2 w12 H hp2 => hv.l 32 rfl (by omega) fun xt hxt kt _ => call_of (slices_Chunk_ok xt 320 (by omega) w12) ?_⟩
  rintro _ w13 ⟨b, c, rfl, Hc⟩
  have H := H.join Hc
  have H : Mine w [] w13 [.blk p s.cells t_lay_Set, .row t_uint8 1 u (u8s mu), Res.err er 0, .box fz fun w => Pols w yz (vZ s sig), .box fh fun w => Pols w yh HH, .blk p1 [.slice yh.a yh.n yh.c] t_s_s_int, .row t_int 1 yB (i64s B), .blk p2 [.slice none 0 0] t_s_s_int, .blk b [.slice xt.a xt.n xt.c] t_s_uint8, .blk c [.int .i64 ((320 : Nat) : Int)] t_int] := H
  have hkn : s.k * 320 = 320 * s.k := Nat.mul_comm _ _
  refine range_of (A := Fin s.k) rfl bod_chunk_1 [b, c] ?_ (fun w1 m => chunk_seq (x := xt) (k := 320) (N := s.k) (by omega) (by omega) kt.cap (by omega) ((H.blk 8 rfl).mod0 m) ((H.blk 9 rfl).mod0 m)) H
    (fun pre M N' => ∃ out xs fp, M = [.blk p s.cells t_lay_Set, .row t_uint8 1 u (u8s mu), Res.err er 0, .box fz fun w => Pols w yz (vZ s sig), .box fh fun w => Pols w yh HH, .blk p1 [.slice yh.a yh.n yh.c] t_s_s_int, .row t_int 1 yB (i64s B), .blk p2 [.slice out.a out.n out.c] t_s_s_int, .blk b [.slice xt.a xt.n xt.c] t_s_uint8, .blk c [.int .i64 ((320 : Nat) : Int)] t_int] ∧
      N' = [.row t_s_int 1 out (xs.map SlV.v), .box fp fun w => Elems Nums w xs (pre.map fun i => t1At vk i.val)])
    (fun _ _ _ => False) ?_ ?_ ?_ (fun _ _ _ _ _ _ h _ => h.elim)
  · intro d hd
    rcases List.mem_cons.1 hd with rfl | hd
    · exact (H.blk 8 rfl).lt
    · rw [List.mem_singleton.1 hd]; exact (H.blk 9 rfl).lt
  · intro W o HW
    obtain ⟨xs, fp, HW⟩ : Col Nums t_s_int w [] _ W ⟨none, 0, 0⟩ [] := Col.start HW
    rw [RL_app] at HW
    exact ⟨_, _, ⟨⟨none, 0, 0⟩, xs, fp, rfl, rfl⟩, HW⟩
  · rintro pre i W o M N' K Kr ⟨out, xs, fp, rfl, rfl⟩ hlen HW hK hKr
    have hik : i.val * 320 + 320 ≤ xt.n := by have := i.isLt; omega
    have kp := chunk_bytes (kt.mod0 HW.mod) (k := 320) (i := i.val) (by omega) hik
    rw [Nat.mul_comm i.val 320] at kp
    have e1 : t1At vk i.val = (unpack 10 (((vk.drop 32).drop (320 * i.val)).take 320)).map fun x => x * 8192 := rfl
    have hpl : (((vk.drop 32).drop (320 * i.val)).take 320).length = 320 := by rw [List.length_take, List.length_drop, List.length_drop]; omega
    have hT : (pre ++ [i]).map (fun j : Fin s.k => t1At vk j.val) = pre.map (fun j : Fin s.k => t1At vk j.val) ++ [t1At vk i.val] := by rw [List.map_append]; rfl
    rw [hT] at hK
    have hTl : (pre.map (fun j : Fin s.k => t1At vk j.val)).length ≤ 8 := by rw [List.length_map]; omega
    generalize pre.map (fun j : Fin s.k => t1At vk j.val) = T at *
    generalize t1At vk i.val = A at *
    generalize ((vk.drop 32).drop (320 * i.val)).take 320 = part at *
    refine call_of (bits_Unpack_ok 10 (by omega) (by omega) (chunkAt xt 320 i.val) part (by omega) W kp) ?_
    rintro _ w18 ⟨y, rfl, hy, m18⟩
    have D := (Mine.start W).got m18 hy
    have hU : (unpack 10 part).length = 256 ∧ ∀ x ∈ unpack 10 part, 0 ≤ x ∧ x < 1024 := ⟨by rw [length_unpack]; omega, fun x hx => unpack_lt 10 part x hx⟩
    generalize unpack 10 part = U at *
    have hyn := (D.nums 0 rfl).len
    refine asSl_s (loop1_up 0 256 (fun j w' => Mine W [] w' [.row t_int 1 y (i64s (mulPart U j))]) rfl (by omega) (by unfold mulPart; simpa using D) ?_ ?_)
    · intro again j w19 _ hj D hag
      have hg := hU.2 _ (mem_getD (l := U) (i := j) (by omega) 0)
      refine ite_true (decide_eq_true (by omega)) ((D.nums 0 rfl).ld (i := j) (by rw [mulPart_len]; omega) rfl ?_)
      rw [mulPart_get U (by omega)]
      refine ⟨⟨by omega, by omega⟩, D.stN 0 (i := j) rfl (by rw [mulPart_len]; omega) rfl fun w20 D => ⟨⟨by omega, by omega⟩, hag w20 ?_⟩⟩
      rw [← mulPart_set U (by omega)]
      exact D
    · intro again w19 D
      have hM : mulPart U 256 = A := by unfold mulPart; rw [e1, ← hU.1, List.take_length, List.drop_length, List.append_nil]
      rw [hM] at D
      have HW' := HW.frame D.mod
      refine ite_false (decide_eq_false (by omega)) (HW'.ldL 7 rfl rfl rfl ?_)
      have C : Col Nums t_s_int w [] (RL w13.heap.size o [.blk p s.cells t_lay_Set, .row t_uint8 1 u (u8s mu), Res.err er 0, .box fz fun w => Pols w yz (vZ s sig), .box fh fun w => Pols w yh HH, .blk p1 [.slice yh.a yh.n yh.c] t_s_s_int, .row t_int 1 yB (i64s B), .blk p2 [.slice out.a out.n out.c] t_s_s_int, .blk b [.slice xt.a xt.n xt.c] t_s_uint8, .blk c [.int .i64 ((320 : Nat) : Int)] t_int] []) W out T := ⟨xs, fp, by rw [RL_app]; exact HW⟩
      refine C.add (l := A) (D.boxed fun w2 h => Own.nums (h 0 _ rfl)) elt_vec ?_ fun out' w22 C' => ?_
      · omega
      obtain ⟨xs', fp', C'⟩ := C'
      rw [RL_app] at C'
      refine C'.st 7 (i := 0) rfl rfl (Nat.lt_succ_self 0) rfl fun w23 C2 => hK w23 _ _ ?_ ⟨out', xs', fp', rfl, rfl⟩ C2
      intro d hd
      rcases List.mem_cons.1 hd with rfl | hd
      · exact (C2.blk 8 rfl).trans (HW.blk 8 rfl).symm
      · rw [List.mem_singleton.1 hd]; exact (C2.blk 9 rfl).trans (HW.blk 9 rfl).symm
  · rintro pre W o M N' hpre ⟨out, xs, fp, rfl, rfl⟩ HW
    have eT : pre.map (fun i : Fin s.k => t1At vk i.val) = vT1 s vk := by
      have : pre.map (fun i : Fin s.k => t1At vk i.val) = (pre.map (·.val)).map (t1At vk) := by rw [List.map_map]; rfl
      rw [this, hpre]; rfl
    rw [eT] at HW
    have nT : (vT1 s vk).length = s.k := by unfold vT1; simp
    have pT : Pos (vT1 s vk) := by
      intro f hf
      unfold vT1 at hf
      obtain ⟨r, hr, rfl⟩ := List.mem_map.1 hf
      have hr := List.mem_range.1 hr
      have hl : (((vk.drop 32).drop (320 * r)).take 320).length = 320 := by rw [List.length_take, List.length_drop, List.length_drop]; omega
      refine ⟨by rw [List.length_map, length_unpack, hl], fun x hx => ?_⟩
      obtain ⟨z, hz, rfl⟩ := List.mem_map.1 hx
      have := unpack_lt 10 _ z hz
      omega
    have H := HW.drew
    have H : Mine w [] W.drew [.blk p s.cells t_lay_Set, .row t_uint8 1 u (u8s mu), Res.err er 0, .box fz fun w => Pols w yz (vZ s sig), .box fh fun w => Pols w yh HH, .blk p1 [.slice yh.a yh.n yh.c] t_s_s_int, .row t_int 1 yB (i64s B), .blk p2 [.slice out.a out.n out.c] t_s_s_int, .blk b [.slice xt.a xt.n xt.c] t_s_uint8, .blk c [.int .i64 ((320 : Nat) : Int)] t_int,
      .box [w13.heap.size] (fun V => V.heap[w13.heap.size]? = some (.deferred (some []))), .box [w13.heap.size + 1] (fun V => V.heap[w13.heap.size + 1]? = o), .row t_s_int 1 out (xs.map SlV.v), .box fp fun w => Elems Nums w xs (vT1 s vk)] := H
    have hout : Pols W.drew out (vT1 s vk) := vec_pols ⟨xs, H.rowSl 12 rfl, H.box 13 rfl⟩
    have hvr : (vk.take 32).length = 32 := by rw [List.length_take]; omega
    refine H.ld_lay_Set 0 rfl (hv.h 32 rfl (by omega) fun xr hxr kr _ => H.ldL 7 rfl rfl rfl (call_of (sign_matrix_ok s (by omega) (by omega) xr (vk.take 32) _ (kr.mod0 H.mod)) ?_))
    rintro _ w20 ⟨yA, rfl, hyA⟩
    have kp : ∀ {L : List Res} {w1 w2 : World}, Mine w [] w1 L → L[7]? = some (.blk p2 [.slice out.a out.n out.c] t_s_s_int) → Mod [] w1 w2 → kept ⟨p2, 0, none⟩ 1 w1 w2 := fun H h m => kept_of m (H.blk 7 h).lt (by simp)
    obtain ⟨fA, H2⟩ := H.gotBox hyA
    have lA : (matL s.k s.l (vk.take 32)).length = s.k := length_matL _ _ _
    have hrows := matL_rows (k := s.k) (l := s.l) hvr
    refine asSl_s ⟨kp H rfl hyA.mod, call_of (sign_apply_ok yA yz (matL s.k s.l (vk.take 32)) (vZ s sig) (by omega) (by omega) (by omega) (fun r h => by rw [nZ]; exact hrows r h) pZ _ (H2.box 14 rfl) (H2.box 3 rfl)) ?_⟩
    rintro _ w21 ⟨yW, rfl, hyW⟩
    obtain ⟨fW, H3⟩ := H2.gotBox hyW
    have pW : Pos (applyL (matL s.k s.l (vk.take 32)) (vZ s sig)) := applyL_pos _ _
    have nW : (applyL (matL s.k s.l (vk.take 32)) (vZ s sig)).length = s.k := by unfold applyL; rw [List.length_map, lA]
    refine asSl_s ⟨kp H2 rfl hyW.mod, call_of (sign_scaled_ok yB out B (vT1 s vk) (by omega) pB pT _ (H3.nums 6 rfl) (hout.mod0 (hyA.mod.trans hyW.mod))) ?_⟩
    rintro _ w22 ⟨yS, rfl, hyS⟩
    obtain ⟨fS, H4⟩ := H3.gotBox hyS
    have pS : Pos (scaledL B (vT1 s vk)) := scaledL_pos _ _
    have nS : (scaledL B (vT1 s vk)).length = s.k := (length_eachL _ _).trans nT
    refine asSl_s (call_of (sign_less_ok yW yS _ _ (by omega) (by omega) pW pS _ (H4.box 15 rfl) (H4.box 16 rfl)) ?_)
    rintro _ w23 ⟨yL, rfl, hyL⟩
    have eW : vW set s vk sig = lessL (applyL (matL s.k s.l (vk.take 32)) (vZ s sig)) (scaledL B (vT1 s vk)) := by unfold vW; rw [hB]
    rw [← eW] at hyL
    have pX : Pos (vW set s vk sig) := by rw [eW]; exact lessL_pos _ _
    have nX : (vW set s vk sig).length = s.k := by rw [eW]; exact (length_eachL _ _).trans nW
    generalize vW set s vk sig = X at *
    obtain ⟨fL, H5⟩ := H4.gotBox hyL
    have h7 : w23.cell? (Addr.add ⟨p, 0, none⟩ 7) = some (.int .i64 s.g2) := by rw [ad1, (H5.blk 0 rfl).cell]; rfl
    have hh1 : w23.cell? ⟨p1, 0, none⟩ = some (.slice yh.a yh.n yh.c) := H5.cell 5 rfl rfl rfl
    refine asSl_s (call_of (sign_each_ok _ (fun r f => useF s.g2 (HH.getD r []) f) yL X (by omega) w23 (H5.box 17 rfl) fun i y w' hi m hy => ver_1_tells hX.g2 h7 hh1 (H5.box 4 rfl) lHH pX (by omega) i y w' hi m hy) ?_)
    rintro _ w24 ⟨yU, rfl, hyU⟩
    change Boxed _ _ (fun w => Pols w yU (useL s.g2 HH X)) at hyU
    obtain ⟨fU, H6⟩ := H5.gotBox hyU
    have nU : (useL s.g2 HH X).length = s.k := (length_eachL _ _).trans nX
    have bU : Below (mOf s.g2) (useL s.g2 HH X) := eachL_all (p := fun f => f.length = 256 ∧ ∀ x ∈ f, 0 ≤ x ∧ x < mOf s.g2) fun i hi => use_below hX.g2 _ _ (pX.get hi).len
    have hbl2 : (highB s.g2 (useL s.g2 HH X)).length ≤ 1000000 := by
      obtain ⟨_, _, _, _, _, hw⟩ := hiW_blen hX.g2
      rw [high_len _ fun f hf => (bU f hf).1, nU]
      have : 32 * hiW s.g2 * s.k ≤ 32 * hiW s.g2 * 8 := Nat.mul_le_mul_left _ hk8
      omega
    generalize useL s.g2 HH X = UU at *
    refine asSl_s (call_of (lay_High_ok set his yU UU (by rw [hS]; exact nU) (by rw [hS]; exact bU) _ (H6.box 18 rfl)) ?_)
    rintro _ w25 ⟨yb, rfl, hyb, m25⟩
    rw [hS] at hyb
    have H7 := H6.got m25 hyb
    generalize highB s.g2 UU = HB at *
    have hml : mu.length ≤ 1000000 := by
      rw [hmu]; unfold muL
      have := spOut_len 136 31 (spOut 136 31 vk 64 ++ ([0, BitVec.ofNat 8 note.length] ++ (note ++ m))) 64 (by omega)
      rw [show ((64 : Nat) : Int) = 64 from rfl] at this
      omega
    refine ⟨_, rfl, yb, rfl, rfl, H7.ldI 0 rfl (ad1 p 8) rfl (H7.nw fun p4 w26 H8 _ => ?_)⟩
    refine call_of (sponge_Shake256_ok _ ⟨some ⟨p4, 0, none⟩, 2, 2⟩ [mu, HB] _ (Parts.of2b (H8.blk 20 rfl) (by simp) (H8.bytes 1 rfl) (off_nil _) (H8.bytes 19 rfl) (off_nil _)) (small2b rfl hml hbl2)) ?_
    rintro _ w27 ⟨yc, rfl, hyc, m27⟩
    rw [show [mu, HB].flatten = mu ++ HB by simp, ← hvch] at hyc
    have H9 := H8.got m27 hyc
    refine asSl_s (call_of (bytes_Equal_ok yc xc VCH (sig.take s.c) w27 (H9.bytes 21 rfl) (kc.mod0 H9.mod)) ?_)
    rintro _ w28 ⟨rfl, hw28⟩
    subst hw28
    refine asB_b (ite_intro (fun hne => ?_) (fun heq => ?_))
    · have hne : ¬ VCH = sig.take s.c := by simpa using hne
      rw [if_neg fun h => hne h.2]
      refine call_of (sign_fault_ok 7 (by decide) w28) ?_
      rintro e w29 ⟨h29, m29⟩
      have H10 := H9.gotE m29 h29
      refine Mine.retD H10 10 rfl fun w30 m30 H11 => ?_
      exact ⟨H11.isErr 22 rfl, H11.mod⟩
    · have heq : VCH = sig.take s.c := by simpa using heq
      rw [if_pos ⟨hnm, heq⟩]
      refine Mine.retD H9 10 rfl fun w30 m30 H11 => ?_
      exact ⟨IsErr.zero _ _, H11.mod⟩
end Go.Proofs.YtdnhoebcomffoaaGreatDoor
end
