/- Texts of this claim, packed: what the last one leans on. -/
import Derived.Test.YtdnhoebcomffoaaGreatDoorQ4
import Derived.Test.YtdnhoebcomffoaaGreatDoorQ3
import Derived.Test.YtdnhoebcomffoaaGreatDoorQ2
section
set_option linter.unusedVariables false
set_option linter.unusedSimpArgs false
/- VERIFYING: the program's. -/
namespace Go.Proofs.YtdnhoebcomffoaaGreatDoor
open Go Go.Ev
set_option maxRecDepth 20000
set_option linter.unusedVariables false
theorem zc_vec1 : zc Pr t_s_s_int = [.slice none 0 0] := by kernel_rfl
theorem bod_ver_1 : bodied Pr f_sign_Verify_1 = true := by kernel_rfl
theorem bod_chunk_1 : bodied Pr f_slices_Chunk_byte_byte_1 = true := by kernel_rfl
def useF (g : Int) (h f : List Int) : List Int := (List.range f.length).map fun i => use g (h.getD i 0) (f.getD i 0)
theorem use_below {g : Int} (hg : GG g) (h f : List Int) (hl : f.length = 256) : (useF g h f).length = 256 ∧ ∀ x ∈ useF g h f, 0 ≤ x ∧ x < mOf g := by
  unfold useF
  refine ⟨by rw [List.length_map, List.length_range, hl], fun x hx => ?_⟩
  obtain ⟨i, _, rfl⟩ := List.mem_map.1 hx
  have hr := prt_rng (x := f.getD i 0) hg
  have hm := mOf_rng hg
  generalize f.getD i 0 = y at *
  generalize h.getD i 0 = z at *
  unfold use
  split
  · split
    · exact ⟨Int.emod_nonneg _ (by omega), Int.emod_lt_of_pos _ (by omega)⟩
    · exact ⟨Int.emod_nonneg _ (by omega), Int.emod_lt_of_pos _ (by omega)⟩
  · omega
theorem ver_1_tells {w : World} {a b : Addr} {g : Int} (hg : GG g) (h7 : w.cell? (Addr.add a 7) = some (.int .i64 g)) {t : SlV} {HH X : List (List Int)} (hb : w.cell? b = some (.slice t.a t.n t.c)) (ht : Pols w t HH) (hT : ∀ f ∈ HH, f.length = 256) (hX : Pos X) (hTX : HH.length = X.length)
    (i : Nat) (y : SlV) (w' : World) (hi : i < X.length) (m : Mod [] w w') (hy : Nums w' y (X.getD i [])) :
    callV Pr (.func (.func f_sign_Verify_1) ⟨[]⟩ ⟨[.pointer (some a), .pointer (some b)]⟩) [.int .i64 (i : Int), .slice y.a y.n y.c] w' fun v w'' => ∃ z : SlV, v = .slice z.a z.n z.c ∧ Boxed w' w'' fun w => Nums w z (useF g (HH.getD i []) (X.getD i [])) := by
  refine callV_of bod_ver_1 (V_sign_Verify_1_of ?_)
  unfold V_sign_Verify_1
  have hyl := hy.len
  have px := hX.get hi
  have hlt := hT _ (mem_getD (i := i) (by omega) [])
  have hl := px.len
  unfold useF
  refine (Mine.start w').mkN elt_i64' zc_i64 (n := (X.getD i []).length) (by omega) (by omega) (by omega) fun z w2 H2 hzn => ?_
  obtain ⟨G, hG⟩ : ∃ G : Nat → Int, G = fun k => use g ((HH.getD i []).getD k 0) ((X.getD i []).getD k 0) := ⟨_, rfl⟩
  rw [← hG]
  rw [List.nil_append, ← part_zero G] at H2
  refine loop1_up 0 (X.getD i []).length (fun k w'' => Mine w' [] w'' [.row t_int 1 z (i64s (part G (X.getD i []).length k))]) rfl (by omega) H2 ?_ ?_
  · intro again k w3 _ hk H3 hag
    have H4 := H3.drew
    have mm := m.trans H4.mod
    refine ite_true (decide_eq_true (by omega)) ((hy.mod0 H3.mod).ld (i := k) hk rfl ⟨_, mm.cell0 h7, _, mm.cell0 hb, (ht.mod0 mm).ld (i := i) (by omega) rfl fun u hu => hu.ld (i := k) (by omega) rfl (call_of (round_Use_ok g _ _ hg _) ?_)⟩)
    rintro _ w5 ⟨rfl, hw⟩
    subst hw
    refine asI_i (H4.stN 0 (i := k) rfl (by rw [part_len _ (by omega)]; omega) rfl fun w6 H6 => ⟨⟨by omega, by omega⟩, hag w6 ?_⟩)
    rw [← part_set G hk (by rw [hG])]
    exact H6
  · intro again w3 H3
    rw [part_all] at H3
    exact ite_false (decide_eq_false (by omega)) ⟨z, rfl, Boxed.of_own (H3.fresh0 0 rfl) H3.mod fun w2 h => h.nums⟩
/-- what is multiplied one by one -/
def mulPart (U : List Int) (i : Nat) : List Int := (U.take i).map (fun x => x * 8192) ++ U.drop i
theorem mulPart_len (U : List Int) (i : Nat) : (mulPart U i).length = U.length := by unfold mulPart; simp only [List.length_append, List.length_map, List.length_take, List.length_drop]; omega
theorem mulPart_get (U : List Int) {i : Nat} (h : i < U.length) : (mulPart U i).getD i 0 = U.getD i 0 := by
  unfold mulPart
  rw [List.getD_eq_getElem?_getD, List.getElem?_append_right (by simp; omega)]
  simp only [List.length_map, List.length_take, Nat.min_eq_left (Nat.le_of_lt h), Nat.sub_self, List.getElem?_drop, Nat.add_zero]
  rw [List.getD_eq_getElem?_getD]
theorem mulPart_set (U : List Int) {i : Nat} (h : i < U.length) : (mulPart U i).set i (U.getD i 0 * 8192) = mulPart U (i + 1) := by
  unfold mulPart
  have hl : ((U.take i).map fun x => x * 8192).length = i := by simp; omega
  rw [List.set_append_right _ _ (by omega), hl, Nat.sub_self, List.drop_eq_getElem_cons h, List.set_cons_zero, take_succ_getD _ _ h 0, List.map_append, List.append_assoc]
  rfl
def t1At (vk : List B8) (r : Nat) : List Int := (unpack 10 (((vk.drop 32).drop (320 * r)).take 320)).map fun x => x * 8192
open Classical in
theorem sign_Verify_ok (set : Int) (xv xn xm xs : SlV) (vk note m sig : List B8) (h1 : vk.length ≤ 100000) (h2 : note.length ≤ 100000) (h3 : m.length ≤ 100000) (h4 : sig.length ≤ 100000) (w : World) (hv : Bytes w xv vk) (hn : Bytes w xn note) (hm : Bytes w xm m) (hs : Bytes w xs sig) :
    Ok Pr f_sign_Verify [.int .i64 set, .slice xv.a xv.n xv.c, .slice xn.a xn.n xn.c, .slice xm.a xm.n xm.c, .slice xs.a xs.n xs.c] w fun v w' => IsErr w w' v (verC set vk note m sig) ∧ Mod [] w w' := by
  by_cases his : isSet set = true
  case neg =>
    have hf : isSet set = false := by simpa using his
    have e : verC set vk note m sig = 2 := by unfold verC; rw [if_neg his]
    rw [e]
    exact sign_Verify_noset set hf xv xn xm xs w
  obtain ⟨z1, -, z3⟩ := sizes_eq his
  have hvl := hv.len
  have hsl := hs.len
  have hG := goodS his
  have hX := goodX his
  have hbl := blen_g (goodG1 his)
  have bC := ballC_of his
  obtain ⟨vkn, hvkn⟩ : ∃ n : Nat, n = vkS set := ⟨_, rfl⟩
  obtain ⟨sgn, hsgn⟩ : ∃ n : Nat, n = sgS set := ⟨_, rfl⟩
  have hver : verC set vk note m sig = if vk.length = vkn ∧ sig.length = sgn ∧ note.length ≤ 255 then
      (if uAll (vB (layS set) sig) (layS set).omega (layS set).k then
        (if normL (vZ (layS set) sig) < ((layS set).g1 : Int) - (layS set).beta ∧ vCH set (layS set) vk note m sig = sig.take (layS set).c then 0 else 7)
      else 4) else 3 := by unfold verC; rw [if_pos his, hvkn, hsgn]
  rw [← hvkn] at z1
  rw [← hsgn] at z3
  have hvch : vCH set (layS set) vk note m sig = spOut 136 31 (muL (spOut 136 31 vk 64) note m ++ highB (layS set).g2 (useL (layS set).g2 (unL (vB (layS set) sig) (layS set).omega (layS set).k) (vW set (layS set) vk sig))) ((layS set).c : Int) := by unfold vCH; rfl
  rw [hver]
  generalize vCH set (layS set) vk note m sig = VCH at *
  refine V_sign_Verify_of ?_
  unfold V_sign_Verify
  rw [zc_lSet, zc_vec1]
  refine call_of (lay_Of_ok set w) ?_
  rintro _ w1 ⟨rfl, m1⟩
  rw [his]
  obtain ⟨s, hS⟩ : ∃ s, layS set = s := ⟨_, rfl⟩
  simp only [hS] at hG hX hbl bC hver hvch z1 z3 ⊢
  refine ⟨_, rfl, as_lSet ⟨_, rfl, rfl, ((Mine.start w).frame m1).nw fun p w2 H _ => H.sT_lay_Set 0 rfl rfl fun w3 H => ite_false rfl (call_of (sign_Digest_ok xv xn xm vk note m (by omega) (by omega) (by omega) _ (hv.mod0 H.mod) (hn.mod0 H.mod) (hm.mod0 H.mod)) ?_)⟩⟩
  rintro _ w4 ⟨u, er, rfl, hu, he, hno, m4⟩
  have H := H.got2 m4 hu he hno
  obtain ⟨mu, hmu⟩ : ∃ mu, mu = muL (spOut 136 31 vk 64) note m := ⟨_, rfl⟩
  rw [← hmu] at H hvch
  have fin : ∀ {w' w2 : World} {L : List Res} {e : Value} {c : Int}, Mine w [] w' L → IsErr w' w2 e c → Mod [] w' w2 → IsErr w w2 e c ∧ Mod [] w w2 := fun H h m => ⟨h.from H.mod.size, (H.frame m).mod⟩
  refine ⟨_, rfl, u, rfl, rfl, join0_of fun go hgo => call_of (lay_Sizes_ok set w4) ?_⟩
  rintro _ w5 ⟨rfl, m5⟩
  rw [← hvkn, ← hsgn]
  have H := H.frame m5
  refine ⟨_, rfl, _, rfl, _, rfl, _, rfl, rfl, join1_of fun go1 hgo1 => ?_⟩
  have bad : (¬ (vk.length = vkn ∧ sig.length = sgn ∧ note.length ≤ 255)) → go1 true w5 := fun hb => by
    rw [if_neg hb] at hgo1
    refine hgo1 _ _ (ite_true rfl (call_of (sign_fault_ok 3 (by decide) w5) ?_))
    rintro e w6 ⟨h6, m6⟩
    exact fin H h6 m6
  by_cases hb1 : vk.length = vkn ∧ sig.length = sgn
  case neg =>
    refine ite_true ?_ (bad fun h => hb1 ⟨h.1, h.2.1⟩)
    have hh : ¬ (xv.n = vkn ∧ xs.n = sgn) := by rw [← hvl, ← hsl]; exact hb1
    by_cases hc : xv.n = vkn
    · have : ¬ xs.n = sgn := fun h => hh ⟨hc, h⟩
      simp; omega
    · simp; omega
  refine ite_false (by rw [← hvl, ← hsl, hb1.1, hb1.2]; simp) ((H.err 2 rfl).isNil ?_)
  by_cases hb2 : note.length ≤ 255
  case neg =>
    have : digC note.length = 3 := by unfold digC; rw [if_neg hb2]
    rw [this]
    exact bad fun h => hb2 h.2.2
  have hd0 : digC note.length = 0 := by unfold digC; rw [if_pos hb2]
  rw [if_pos hb2, hd0] at H
  rw [hd0]
  rw [if_pos ⟨hb1.1, hb1.2, hb2⟩] at hgo hgo1
  refine hgo1 _ _ (ite_false rfl (hgo _ ?_))
  have hk0 := hG.k0
  have hk8 := hG.k
  have hl0 := hG.l0
  have hl7 := hG.l
  have hc64 := hG.c
  have hg1 : s.g1 ≤ 524288 ∧ 131072 ≤ s.g1 := by rcases hX.g1 with h | h <;> omega
  have hmd : maskD s = 18 ∨ maskD s = 20 := by unfold maskD; split <;> simp
  have e32 : 32 * s.l * maskD s = 32 * maskD s * s.l := Nat.mul_right_comm _ _ _
  refine H.ldI 0 rfl (ad1 p 8) rfl (hs.h s.c rfl (by omega) fun xc hxc kc _ => ?_)
  have H := H.drew
  refine H.ldI 0 rfl (ad1 p 6) rfl ⟨⟨by omega, by omega⟩, H.ldI 0 rfl (ad1 p 6) rfl (H.ldI 0 rfl (ad1 p 1) rfl (H.ldI 0 rfl (ad1 p 8) rfl (hs.l s.c rfl (by omega) fun xz hxz kz _ => ?_)))⟩
  rw [show (s.g1 : Int) - 1 = ((s.g1 - 1 : Nat) : Int) by omega]
  refine call_of (sign_polys_ok (s.g1 - 1) s.g1 s.l (by omega) (by omega) (by omega) (by omega) xz (sig.drop s.c) (by rw [hbl, List.length_drop]; omega) _ (kz.mod0 H.mod)) ?_
  rintro _ w6 ⟨yz, xh, rfl, hyz, hxh⟩
  rw [hbl] at hyz hxh
  obtain ⟨fz, H⟩ := H.gotBox hyz
  have kh : Bytes w xh (vB s sig) := hxh _ kz
  have nB : (vB s sig).length = s.omega + s.k := by unfold vB; rw [List.length_drop, List.length_drop]; omega
  have pZ : Pos (vZ s sig) := polysL_pos (by omega) (by rw [List.length_drop]; omega)
  have nZ : (vZ s sig).length = s.l := by unfold vZ polysL; rw [List.length_map, List.length_range]
  refine ⟨_, rfl, yz, rfl, xh, rfl, rfl, call_of (lay_Unhint_ok set his s hS.symm xh (vB s sig) nB _ (kh.mod0 H.mod)) ?_⟩
  rintro _ w7 ⟨yh, e7, rfl, he7, m7, hyh⟩
  by_cases hu : uAll (vB s sig) s.omega s.k
  case neg =>
    have e : unC (vB s sig) s.omega s.k = 4 := by unfold unC; rw [if_neg hu]
    rw [e] at he7
    rw [if_neg hu]
    refine ⟨_, rfl, yh, rfl, rfl, (H.frame m7).nw fun p1 w8 H hp1 => H.st 4 (i := 0) rfl rfl (Nat.lt_succ_self 0) rfl fun w9 H => he7.1.isNil (ite_true rfl (call_of (sign_fault_ok 4 (by decide) w9) ?_))⟩
    rintro e w10 ⟨h, m⟩
    exact fin H h m
  have e : unC (vB s sig) s.omega s.k = 0 := by unfold unC; rw [if_pos hu]
  rw [e] at he7
  rw [if_pos hu] at *
  obtain ⟨fh, H⟩ := H.gotBox (hyh e)
  obtain ⟨HH, hHH⟩ : ∃ HH, HH = unL (vB s sig) s.omega s.k := ⟨_, rfl⟩
  rw [← hHH] at H hvch
  have nHH : HH.length = s.k := by rw [hHH]; unfold unL; simp
  have lHH : ∀ f ∈ HH, f.length = 256 := by
    rw [hHH]; unfold unL
    intro f hf
    obtain ⟨r, _, rfl⟩ := List.mem_map.1 hf
    exact length_unF _ _ _
  refine ⟨_, rfl, yh, rfl, rfl, H.nw fun p1 w8 H hp1 => H.st 5 (i := 0) rfl rfl (Nat.lt_succ_self 0) rfl fun w9 H => he7.1.isNil (ite_false rfl ?_)⟩
  have H : Mine w [] w9 [.blk p s.cells t_lay_Set, .row t_uint8 1 u (u8s mu), Res.err er 0, .box fz fun w => Pols w yz (vZ s sig), .box fh fun w => Pols w yh HH, .blk p1 [.slice yh.a yh.n yh.c] t_s_s_int] := H
  have H := H.drew
  have hbe := hX.beta
  refine H.ldI 0 rfl (ad1 p 6) rfl (H.ldI 0 rfl (ad1 p 4) rfl ⟨⟨by omega, by omega⟩, call_of (wave_Norm_ok yz (vZ s sig) (by omega) pZ _ (H.box 3 rfl)) ?_⟩)
  rintro _ w10 ⟨rfl, m10⟩
  have k1 : ∀ j, kept (Addr.add ⟨p, 0, none⟩ j) 1 w9.drew w10 := fun j => kept_of m10 (by rw [add_block]; exact (H.blk 0 rfl).lt) (by simp)
  have H := H.frame m10
  refine asI_i ⟨k1 4, k1 6, ?_⟩
  by_cases hnm : normL (vZ s sig) < (s.g1 : Int) - s.beta
  case neg =>
    rw [if_neg fun h => hnm h.1]
    refine ite_true (decide_eq_true (by omega)) (call_of (sign_fault_ok 7 (by decide) w10) ?_)
    rintro e w11 ⟨h, m⟩
    exact fin H h m
  have nC : (sig.take s.c).length = s.c := by rw [List.length_take]; omega
  refine ite_false (decide_eq_false (by omega)) (call_of (sift_Ball_all set xc (sig.take s.c) _ (kc.mod0 H.mod)) ?_)
  rw [nC, bC]
  rintro _ w11 ⟨yB, eB, rfl, hyB, -, -, m11⟩
  have H := H.got m11 hyB
  have pB : Po (ballL set (sig.take s.c)) := (ballL_okay (by rw [nC]; exact bC)).1
  generalize hB : ballL set (sig.take s.c) = B at *
  refine ⟨_, rfl, yB, rfl, rfl, H.nw fun p2 w12 H hp2 => hv.l 32 rfl (by omega) fun xt hxt kt _ => call_of (slices_Chunk_ok xt 320 (by omega) w12) ?_⟩
  rintro _ w13 ⟨b, c, rfl, Hc⟩
  have H := H.join Hc
  have H : Mine w [] w13 [.blk p s.cells t_lay_Set, .row t_uint8 1 u (u8s mu), Res.err er 0, .box fz fun w => Pols w yz (vZ s sig), .box fh fun w => Pols w yh HH, .blk p1 [.slice yh.a yh.n yh.c] t_s_s_int, .row t_int 1 yB (i64s B), .blk p2 [.slice none 0 0] t_s_s_int, .blk b [.slice xt.a xt.n xt.c] t_s_uint8, .blk c [.int .i64 ((320 : Nat) : Int)] t_int] := H
  have hkn : s.k * 320 = 320 * s.k := Nat.mul_comm _ _
  refine range_of (A := Fin s.k) rfl bod_chunk_1 [b, c] ?_ (fun w1 m => chunk_seq (x := xt) (k := 320) (N := s.k) (by omega) (by omega) kt.cap (by omega) ((H.blk 8 rfl).mod0 m) ((H.blk 9 rfl).mod0 m)) H
    (fun pre M N' => ∃ out xs fp, M = [.blk p s.cells t_lay_Set, .row t_uint8 1 u (u8s mu), Res.err er 0, .box fz fun w => Pols w yz (vZ s sig), .box fh fun w => Pols w yh HH, .blk p1 [.slice yh.a yh.n yh.c] t_s_s_int, .row t_int 1 yB (i64s B), .blk p2 [.slice out.a out.n out.c] t_s_s_int, .blk b [.slice xt.a xt.n xt.c] t_s_uint8, .blk c [.int .i64 ((320 : Nat) : Int)] t_int] ∧
      N' = [.row t_s_int 1 out (xs.map SlV.v), .box fp fun w => Elems Nums w xs (pre.map fun i => t1At vk i.val)])
    (fun _ _ _ => False) ?_ ?_ ?_ (fun _ _ _ _ _ _ h _ => h.elim)
  · intro d hd
    rcases List.mem_cons.1 hd with rfl | hd
    · exact (H.blk 8 rfl).lt
    · rw [List.mem_singleton.1 hd]; exact (H.blk 9 rfl).lt
  · intro W o HW
    obtain ⟨xs, fp, HW⟩ : Col Nums t_s_int w [] _ W ⟨none, 0, 0⟩ [] := Col.start HW
    rw [RL_app] at HW
    exact ⟨_, _, ⟨⟨none, 0, 0⟩, xs, fp, rfl, rfl⟩, HW⟩
  · rintro pre i W o M N' K Kr ⟨out, xs, fp, rfl, rfl⟩ hlen HW hK hKr
    have hik : i.val * 320 + 320 ≤ xt.n := by have := i.isLt; omega
    have kp := chunk_bytes (kt.mod0 HW.mod) (k := 320) (i := i.val) (by omega) hik
    rw [Nat.mul_comm i.val 320] at kp
    have e1 : t1At vk i.val = (unpack 10 (((vk.drop 32).drop (320 * i.val)).take 320)).map fun x => x * 8192 := rfl
    have hpl : (((vk.drop 32).drop (320 * i.val)).take 320).length = 320 := by rw [List.length_take, List.length_drop, List.length_drop]; omega
    have hT : (pre ++ [i]).map (fun j : Fin s.k => t1At vk j.val) = pre.map (fun j : Fin s.k => t1At vk j.val) ++ [t1At vk i.val] := by rw [List.map_append]; rfl
    rw [hT] at hK
    have hTl : (pre.map (fun j : Fin s.k => t1At vk j.val)).length ≤ 8 := by rw [List.length_map]; omega
    generalize pre.map (fun j : Fin s.k => t1At vk j.val) = T at *
    generalize t1At vk i.val = A at *
    generalize ((vk.drop 32).drop (320 * i.val)).take 320 = part at *
    refine call_of (bits_Unpack_ok 10 (by omega) (by omega) (chunkAt xt 320 i.val) part (by omega) W kp) ?_
    rintro _ w18 ⟨y, rfl, hy, m18⟩
    have D := (Mine.start W).got m18 hy
    have hU : (unpack 10 part).length = 256 ∧ ∀ x ∈ unpack 10 part, 0 ≤ x ∧ x < 1024 := ⟨by rw [length_unpack]; omega, fun x hx => unpack_lt 10 part x hx⟩
    generalize unpack 10 part = U at *
    have hyn := (D.nums 0 rfl).len
    refine asSl_s (loop1_up 0 256 (fun j w' => Mine W [] w' [.row t_int 1 y (i64s (mulPart U j))]) rfl (by omega) (by unfold mulPart; simpa using D) ?_ ?_)
    · intro again j w19 _ hj D hag
      have hg := hU.2 _ (mem_getD (l := U) (i := j) (by omega) 0)
      refine ite_true (decide_eq_true (by omega)) ((D.nums 0 rfl).ld (i := j) (by rw [mulPart_len]; omega) rfl ?_)
      rw [mulPart_get U (by omega)]
      refine ⟨⟨by omega, by omega⟩, D.stN 0 (i := j) rfl (by rw [mulPart_len]; omega) rfl fun w20 D => ⟨⟨by omega, by omega⟩, hag w20 ?_⟩⟩
      rw [← mulPart_set U (by omega)]
      exact D
    · intro again w19 D
      have hM : mulPart U 256 = A := by unfold mulPart; rw [e1, ← hU.1, List.take_length, List.drop_length, List.append_nil]
      rw [hM] at D
      have HW' := HW.frame D.mod
      refine ite_false (decide_eq_false (by omega)) (HW'.ldL 7 rfl rfl rfl ?_)
      have C : Col Nums t_s_int w [] (RL w13.heap.size o [.blk p s.cells t_lay_Set, .row t_uint8 1 u (u8s mu), Res.err er 0, .box fz fun w => Pols w yz (vZ s sig), .box fh fun w => Pols w yh HH, .blk p1 [.slice yh.a yh.n yh.c] t_s_s_int, .row t_int 1 yB (i64s B), .blk p2 [.slice out.a out.n out.c] t_s_s_int, .blk b [.slice xt.a xt.n xt.c] t_s_uint8, .blk c [.int .i64 ((320 : Nat) : Int)] t_int] []) W out T := ⟨xs, fp, by rw [RL_app]; exact HW⟩
      refine C.add (l := A) (D.boxed fun w2 h => Own.nums (h 0 _ rfl)) elt_vec ?_ fun out' w22 C' => ?_
      · omega
      obtain ⟨xs', fp', C'⟩ := C'
      rw [RL_app] at C'
      refine C'.st 7 (i := 0) rfl rfl (Nat.lt_succ_self 0) rfl fun w23 C2 => hK w23 _ _ ?_ ⟨out', xs', fp', rfl, rfl⟩ C2
      intro d hd
      rcases List.mem_cons.1 hd with rfl | hd
      · exact (C2.blk 8 rfl).trans (HW.blk 8 rfl).symm
      · rw [List.mem_singleton.1 hd]; exact (C2.blk 9 rfl).trans (HW.blk 9 rfl).symm
  · rintro pre W o M N' hpre ⟨out, xs, fp, rfl, rfl⟩ HW
    have eT : pre.map (fun i : Fin s.k => t1At vk i.val) = vT1 s vk := by
      have : pre.map (fun i : Fin s.k => t1At vk i.val) = (pre.map (·.val)).map (t1At vk) := by rw [List.map_map]; rfl
      rw [this, hpre]; rfl
    rw [eT] at HW
    have nT : (vT1 s vk).length = s.k := by unfold vT1; simp
    have pT : Pos (vT1 s vk) := by
      intro f hf
      unfold vT1 at hf
      obtain ⟨r, hr, rfl⟩ := List.mem_map.1 hf
      have hr := List.mem_range.1 hr
      have hl : (((vk.drop 32).drop (320 * r)).take 320).length = 320 := by rw [List.length_take, List.length_drop, List.length_drop]; omega
      refine ⟨by rw [List.length_map, length_unpack, hl], fun x hx => ?_⟩
      obtain ⟨z, hz, rfl⟩ := List.mem_map.1 hx
      have := unpack_lt 10 _ z hz
      omega
    have H := HW.drew
    have H : Mine w [] W.drew [.blk p s.cells t_lay_Set, .row t_uint8 1 u (u8s mu), Res.err er 0, .box fz fun w => Pols w yz (vZ s sig), .box fh fun w => Pols w yh HH, .blk p1 [.slice yh.a yh.n yh.c] t_s_s_int, .row t_int 1 yB (i64s B), .blk p2 [.slice out.a out.n out.c] t_s_s_int, .blk b [.slice xt.a xt.n xt.c] t_s_uint8, .blk c [.int .i64 ((320 : Nat) : Int)] t_int,
      .box [w13.heap.size] (fun V => V.heap[w13.heap.size]? = some (.deferred (some []))), .box [w13.heap.size + 1] (fun V => V.heap[w13.heap.size + 1]? = o), .row t_s_int 1 out (xs.map SlV.v), .box fp fun w => Elems Nums w xs (vT1 s vk)] := H
    have hout : Pols W.drew out (vT1 s vk) := vec_pols ⟨xs, H.rowSl 12 rfl, H.box 13 rfl⟩
    have hvr : (vk.take 32).length = 32 := by rw [List.length_take]; omega
    refine H.ld_lay_Set 0 rfl (hv.h 32 rfl (by omega) fun xr hxr kr _ => H.ldL 7 rfl rfl rfl (call_of (sign_matrix_ok s (by omega) (by omega) xr (vk.take 32) _ (kr.mod0 H.mod)) ?_))
    rintro _ w20 ⟨yA, rfl, hyA⟩
    have kp : ∀ {L : List Res} {w1 w2 : World}, Mine w [] w1 L → L[7]? = some (.blk p2 [.slice out.a out.n out.c] t_s_s_int) → Mod [] w1 w2 → kept ⟨p2, 0, none⟩ 1 w1 w2 := fun H h m => kept_of m (H.blk 7 h).lt (by simp)
    obtain ⟨fA, H2⟩ := H.gotBox hyA
    have lA : (matL s.k s.l (vk.take 32)).length = s.k := length_matL _ _ _
    have hrows := matL_rows (k := s.k) (l := s.l) hvr
    refine asSl_s ⟨kp H rfl hyA.mod, call_of (sign_apply_ok yA yz (matL s.k s.l (vk.take 32)) (vZ s sig) (by omega) (by omega) (by omega) (fun r h => by rw [nZ]; exact hrows r h) pZ _ (H2.box 14 rfl) (H2.box 3 rfl)) ?_⟩
    rintro _ w21 ⟨yW, rfl, hyW⟩
    obtain ⟨fW, H3⟩ := H2.gotBox hyW
    have pW : Pos (applyL (matL s.k s.l (vk.take 32)) (vZ s sig)) := applyL_pos _ _
    have nW : (applyL (matL s.k s.l (vk.take 32)) (vZ s sig)).length = s.k := by unfold applyL; rw [List.length_map, lA]
    refine asSl_s ⟨kp H2 rfl hyW.mod, call_of (sign_scaled_ok yB out B (vT1 s vk) (by omega) pB pT _ (H3.nums 6 rfl) (hout.mod0 (hyA.mod.trans hyW.mod))) ?_⟩
    rintro _ w22 ⟨yS, rfl, hyS⟩
    obtain ⟨fS, H4⟩ := H3.gotBox hyS
    have pS : Pos (scaledL B (vT1 s vk)) := scaledL_pos _ _
    have nS : (scaledL B (vT1 s vk)).length = s.k := (length_eachL _ _).trans nT
    refine asSl_s (call_of (sign_less_ok yW yS _ _ (by omega) (by omega) pW pS _ (H4.box 15 rfl) (H4.box 16 rfl)) ?_)
    rintro _ w23 ⟨yL, rfl, hyL⟩
    have eW : vW set s vk sig = lessL (applyL (matL s.k s.l (vk.take 32)) (vZ s sig)) (scaledL B (vT1 s vk)) := by unfold vW; rw [hB]
    rw [← eW] at hyL
    have pX : Pos (vW set s vk sig) := by rw [eW]; exact lessL_pos _ _
    have nX : (vW set s vk sig).length = s.k := by rw [eW]; exact (length_eachL _ _).trans nW
    generalize vW set s vk sig = X at *
    obtain ⟨fL, H5⟩ := H4.gotBox hyL
    have h7 : w23.cell? (Addr.add ⟨p, 0, none⟩ 7) = some (.int .i64 s.g2) := by rw [ad1, (H5.blk 0 rfl).cell]; rfl
    have hh1 : w23.cell? ⟨p1, 0, none⟩ = some (.slice yh.a yh.n yh.c) := H5.cell 5 rfl rfl rfl
    refine asSl_s (call_of (sign_each_ok _ (fun r f => useF s.g2 (HH.getD r []) f) yL X (by omega) w23 (H5.box 17 rfl) fun i y w' hi m hy => ver_1_tells hX.g2 h7 hh1 (H5.box 4 rfl) lHH pX (by omega) i y w' hi m hy) ?_)
    rintro _ w24 ⟨yU, rfl, hyU⟩
    change Boxed _ _ (fun w => Pols w yU (useL s.g2 HH X)) at hyU
    obtain ⟨fU, H6⟩ := H5.gotBox hyU
    have nU : (useL s.g2 HH X).length = s.k := (length_eachL _ _).trans nX
    have bU : Below (mOf s.g2) (useL s.g2 HH X) := eachL_all (p := fun f => f.length = 256 ∧ ∀ x ∈ f, 0 ≤ x ∧ x < mOf s.g2) fun i hi => use_below hX.g2 _ _ (pX.get hi).len
    have hbl2 : (highB s.g2 (useL s.g2 HH X)).length ≤ 1000000 := by
      obtain ⟨_, _, _, _, _, hw⟩ := hiW_blen hX.g2
      rw [high_len _ fun f hf => (bU f hf).1, nU]
      have : 32 * hiW s.g2 * s.k ≤ 32 * hiW s.g2 * 8 := Nat.mul_le_mul_left _ hk8
      omega
    generalize useL s.g2 HH X = UU at *
    refine asSl_s (call_of (lay_High_ok set his yU UU (by rw [hS]; exact nU) (by rw [hS]; exact bU) _ (H6.box 18 rfl)) ?_)
    rintro _ w25 ⟨yb, rfl, hyb, m25⟩
    rw [hS] at hyb
    have H7 := H6.got m25 hyb
    generalize highB s.g2 UU = HB at *
    have hml : mu.length ≤ 1000000 := by
      rw [hmu]; unfold muL
      have := spOut_len 136 31 (spOut 136 31 vk 64 ++ ([0, BitVec.ofNat 8 note.length] ++ (note ++ m))) 64 (by omega)
      rw [show ((64 : Nat) : Int) = 64 from rfl] at this
      omega
    refine ⟨_, rfl, yb, rfl, rfl, H7.ldI 0 rfl (ad1 p 8) rfl (H7.nw fun p4 w26 H8 _ => ?_)⟩
    refine call_of (sponge_Shake256_ok _ ⟨some ⟨p4, 0, none⟩, 2, 2⟩ [mu, HB] _ (Parts.of2b (H8.blk 20 rfl) (by simp) (H8.bytes 1 rfl) (off_nil _) (H8.bytes 19 rfl) (off_nil _)) (small2b rfl hml hbl2)) ?_
    rintro _ w27 ⟨yc, rfl, hyc, m27⟩
    rw [show [mu, HB].flatten = mu ++ HB by simp, ← hvch] at hyc
    have H9 := H8.got m27 hyc
    refine asSl_s (call_of (bytes_Equal_ok yc xc VCH (sig.take s.c) w27 (H9.bytes 21 rfl) (kc.mod0 H9.mod)) ?_)
    rintro _ w28 ⟨rfl, hw28⟩
    subst hw28
    refine asB_b (ite_intro (fun hne => ?_) (fun heq => ?_))
    · have hne : ¬ VCH = sig.take s.c := by simpa using hne
      rw [if_neg fun h => hne h.2]
      refine call_of (sign_fault_ok 7 (by decide) w28) ?_
      rintro e w29 ⟨h29, m29⟩
      have H10 := H9.gotE m29 h29
      refine Mine.retD H10 10 rfl fun w30 m30 H11 => ?_
      exact ⟨H11.isErr 22 rfl, H11.mod⟩
    · have heq : VCH = sig.take s.c := by simpa using heq
      rw [if_pos ⟨hnm, heq⟩]
      refine Mine.retD H9 10 rfl fun w30 m30 H11 => ?_
      exact ⟨IsErr.zero _ _, H11.mod⟩
end Go.Proofs.YtdnhoebcomffoaaGreatDoor
end
section
set_option linter.unusedVariables false
set_option linter.unusedSimpArgs false
/- THE STATEMENTS ON SIGNING: what is signed is taken. -/
namespace Go.Proofs.YtdnhoebcomffoaaGreatDoor
open Go Go.Ev
set_option maxRecDepth 20000
set_option linter.unusedVariables false
theorem signed_len {set : Int} {F note m rnd : List B8} (h : keyC set F.length = 0) (hs : sgC set (skL set F) note m rnd = 0) : (sgL set (skL set F) note m rnd).length = sgS set := by
  have h1 := signed_taken h hs
  unfold verC at h1
  split at h1
  · split at h1
    · rename_i h2; exact h2.2.1
    · exact absurd h1 (by decide)
  · exact absurd h1 (by decide)
theorem SignTwice_ok (x xm : SlV) (l m : List B8) (a b : Int) (ha : 0 ≤ a ∧ a < 256) (hb : 0 ≤ b ∧ b < 256) (w : World) (hg : Laid w) (hx : Bytes w x l) (hm : Bytes w xm m) :
    Ok Pr f_law13_SignTwice [.slice x.a x.n x.c, .slice xm.a xm.n xm.c, .int .u8 a, .int .u8 b] w fun v w' => v = .bool true ∧ Mod [] w w' := by
  refine V_law13_SignTwice_of ?_
  unfold V_law13_SignTwice
  have hxl := hx.len
  have hml := hm.len
  refine ite_intro (fun hc => awake13_of hg (Mine.start w)) (fun hc => ?_)
  simp only [Bool.or_eq_false_iff, decide_eq_false_iff_not] at hc
  refine call_of (law13_full_ok x l 9 (by omega) 32 (by omega) w hx) ?_
  rintro _ w1 ⟨q, rfl, hq, m1⟩
  have H := (Mine.start w).got m1 hq
  have hfl := length_fullL l 9 32
  generalize fullL l 9 32 = F at *
  refine asSl_s (call_of (sign_Keys_ok 1 q F _ (H.bytes 0 rfl)) ?_)
  rintro _ w2 ⟨y, z, er, rfl, H2⟩
  have H := H.join H2
  have hC : keyC 1 F.length = 0 := by rw [hfl]; rfl
  have hvl : (vkL 1 F).length = 1312 := by rw [(parts_made hC).1]; decide
  rw [hC] at H
  have H : Mine w [] w2 [.row t_uint8 1 q (u8s F), .row t_uint8 1 y (u8s (vkL 1 F)), .row t_uint8 1 z (u8s (skL 1 F)), Res.err er 0] := H
  have htk := fun rnd h => signed_taken (note := []) (m := m) (rnd := rnd) hC h
  have hln := fun rnd h => signed_len (note := []) (m := m) (rnd := rnd) hC h
  have e1 : sgS 1 = 2420 := rfl
  rw [e1] at hln
  generalize skL 1 F = K at *
  generalize vkL 1 F = V at *
  have hS : ∀ rnd, (sgL 1 K [] m rnd).length ≤ 2420 := fun rnd => by
    by_cases h : sgC 1 K [] m rnd = 0
    · rw [hln rnd h]; omega
    · have : sgL 1 K [] m rnd = [] := by unfold sgL; rw [if_neg h]
      rw [this]; exact Nat.zero_le _
  have hfa : ∀ z : Int, 0 ≤ z ∧ z < 256 → I64 z := fun z h => ⟨by omega, by omega⟩
  refine ⟨_, rfl, y, rfl, z, rfl, rfl, hfa a ha, call_of (law13_full_ok ⟨none, 0, 0⟩ [] a (by omega) 32 (by omega) _ (Bytes.nil _)) ?_⟩
  rintro _ w3 ⟨r1, rfl, hr1, m3⟩
  have H := H.got m3 hr1
  obtain ⟨RA, hRA⟩ : ∃ RA, RA = fullL [] a 32 := ⟨_, rfl⟩
  have hl1 := length_fullL [] a 32
  rw [← hRA] at H hl1
  refine asSl_s (call_of (sign_Sign_ok 1 z ⟨none, 0, 0⟩ xm r1 K [] m RA (by simp) (by omega) (by omega) _ (H.bytes 2 rfl) (Bytes.nil _) (hm.mod0 H.mod) (H.bytes 4 rfl)) ?_)
  rintro _ w4 ⟨u1, ef1, rfl, hu1, he1, hno1, m4⟩
  have H := H.got2 m4 hu1 he1 hno1
  refine ⟨_, rfl, u1, rfl, rfl, hfa a ha, call_of (law13_full_ok ⟨none, 0, 0⟩ [] a (by omega) 32 (by omega) _ (Bytes.nil _)) ?_⟩
  rintro _ w5 ⟨r2, rfl, hr2, m5⟩
  have H := H.got m5 hr2
  rw [← hRA] at H
  refine asSl_s (call_of (sign_Sign_ok 1 z ⟨none, 0, 0⟩ xm r2 K [] m RA (by simp) (by omega) (by omega) _ (H.bytes 2 rfl) (Bytes.nil _) (hm.mod0 H.mod) (H.bytes 7 rfl)) ?_)
  rintro _ w6 ⟨u2, ef2, rfl, hu2, he2, hno2, m6⟩
  have H := H.got2 m6 hu2 he2 hno2
  refine ⟨_, rfl, u2, rfl, rfl, hfa b hb, call_of (law13_full_ok ⟨none, 0, 0⟩ [] b (by omega) 32 (by omega) _ (Bytes.nil _)) ?_⟩
  rintro _ w7 ⟨r3, rfl, hr3, m7⟩
  have H := H.got m7 hr3
  have hl2 := length_fullL [] b 32
  generalize fullL [] b 32 = RB at *
  refine asSl_s (call_of (sign_Sign_ok 1 z ⟨none, 0, 0⟩ xm r3 K [] m RB (by simp) (by omega) (by omega) _ (H.bytes 2 rfl) (Bytes.nil _) (hm.mod0 H.mod) (H.bytes 10 rfl)) ?_)
  rintro _ w8 ⟨u3, ef3, rfl, hu3, he3, hno3, m8⟩
  have H := H.got2 m8 hu3 he3 hno3
  have hSA := hS RA
  have hSB := hS RB
  have tkA := htk RA
  have tkB := htk RB
  generalize sgC 1 K [] m RA = CA at *
  generalize sgC 1 K [] m RB = CB at *
  generalize sgL 1 K [] m RA = SA at *
  generalize sgL 1 K [] m RB = SB at *
  have H : Mine w [] w8 [.row t_uint8 1 q (u8s F), .row t_uint8 1 y (u8s V), .row t_uint8 1 z (u8s K), Res.err er 0, .row t_uint8 1 r1 (u8s RA), .row t_uint8 1 u1 (u8s SA), Res.err ef1 CA, .row t_uint8 1 r2 (u8s RA), .row t_uint8 1 u2 (u8s SA), Res.err ef2 CA, .row t_uint8 1 r3 (u8s RB), .row t_uint8 1 u3 (u8s SB), Res.err ef3 CB] := H
  refine ⟨_, rfl, u3, rfl, rfl, (H.err 3 rfl).isNil (ite_false rfl (join0_of fun go hgo => join1_of fun go1 hgo1 => ?_))⟩
  have bad : go1 true w8 := hgo1 _ _ (ite_true rfl ((H.err 6 rfl).isNil ((H.err 9 rfl).isNil (ite_true (by simp) (awake13_of hg H.drew)))))
  refine (H.err 6 rfl).isNil ?_
  by_cases hA : CA = 0
  case neg => exact ite_true (by simp [hA]) bad
  refine ite_false (by simp [hA]) ((H.err 9 rfl).isNil (ite_false (by simp [hA]) ((H.err 12 rfl).isNil ?_)))
  by_cases hB : CB = 0
  case neg => rw [decide_eq_false hB]; exact bad
  rw [decide_eq_true hB]
  refine hgo1 _ _ (ite_false rfl (hgo _ (call_of (law0_SameBytes_same u1 u2 SA _ (H.bytes 5 rfl) (H.bytes 8 rfl) (by omega)) ?_)))
  rintro _ w9 ⟨rfl, m9⟩
  have H := H.frame m9
  refine asB_b (ite_true rfl (call_of (sign_Verify_ok 1 y ⟨none, 0, 0⟩ xm u1 V [] m SA (by omega) (by simp) (by omega) (by omega) _ (H.bytes 1 rfl) (Bytes.nil _) (hm.mod0 H.mod) (H.bytes 5 rfl)) ?_))
  rintro e w10 ⟨h10, m10⟩
  rw [tkA hA] at h10
  have H := H.frame m10
  refine h10.1.isNil (ite_true rfl (call_of (sign_Verify_ok 1 y ⟨none, 0, 0⟩ xm u3 V [] m SB (by omega) (by simp) (by omega) (by omega) _ (H.bytes 1 rfl) (Bytes.nil _) (hm.mod0 H.mod) (H.bytes 11 rfl)) ?_))
  rintro e2 w11 ⟨h11, m11⟩
  rw [tkB hB] at h11
  exact h11.1.isNil (ite_true rfl (awake13_of hg (H.frame m11)))
end Go.Proofs.YtdnhoebcomffoaaGreatDoor
end
