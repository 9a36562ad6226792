/- THE STATEMENTS' OWN CODE answers true: chapter 19, what a token is made of. -/
import Derived.Test.YtoeedbljiocpdaaDoorLaw19c
namespace Go.Proofs.YtoeedbljiocpdaaDoor
open Go Go.Ev
set_option maxRecDepth 20000
set_option linter.unusedVariables false
theorem good_g1 : goodG g1 = true := by decide +kernel
theorem add_g1 {m : List GrV} (h : mayG m = true) : addC m g1 = if m.length = 8 then 12 else 0 := by
  unfold addC
  rw [if_pos ⟨h, good_g1⟩]
theorem fit_g1 : g1.fit := by
  show -9223372036854775808 ≤ (1024 : Int)
  omega
/-- what is hashed, so far -/
def cont (s : List B8) (ns : List Int) : Nat → List B8
  | 0 => []
  | i + 1 => laid s ++ bes (ns.take i)
theorem cont_last (s : List B8) (g : GrV) : cont s g.five 6 = laid s ++ bes g.five := rfl
theorem length_cont (s : List B8) (ns : List Int) (i : Nat) (hi : i ≤ 6) : (cont s ns i).length ≤ s.length + 100 := by
  cases i with
  | zero => show 0 ≤ _; omega
  | succ i =>
    show (laid s ++ bes (ns.take i)).length ≤ _
    rw [List.length_append, length_bes, List.length_take]
    unfold laid
    rw [List.length_append, length_be]
    omega
theorem GrantsBytes_ok (g : GrV) (a : SlV) (s : List B8) (many : Int) (w : World) (hg : Laid w) (ha : Bytes w a s) :
    Ok Pr f_law19_GrantsBytes [.agg ⟨g.cells⟩, .slice a.a a.n a.c, .int .i64 many] w fun v w' => v = .bool true ∧ Mod [] w w' := by
  refine V_law19_GrantsBytes_of ?_
  unfold V_law19_GrantsBytes
  refine (Mine.start w).nw fun p w1 H _ => ite_intro (fun hc => awake19_of hg H) (fun hc => ?_)
  have hal := ha.len
  have hc := of_decide_eq_false hc
  have hs : s.length ≤ 100 := by omega
  refine H.ld_api_Grant 0 rfl (call_of (grants_Token_ok a s g (by omega) _ (ha.mod0 H.mod)) ?_)
  rintro _ w3 ⟨tk, rfl, htk, m3⟩
  have H := H.got m3 htk
  have et : tok s g = [BitVec.ofInt 8 g.n0] ++ spOut 136 31 (laid s ++ bes g.five) 32 := by unfold tok; rfl
  have h32 := spOut32_len (laid s ++ bes g.five)
  rw [et] at H
  refine asSl_s (H.ldI 0 rfl (ad1 p 0) rfl (H.ldI 0 rfl (ad1 p 1) rfl (H.ldI 0 rfl (ad1 p 2) rfl (H.ldI 0 rfl (ad1 p 3) rfl (H.ldI 0 rfl (ad1 p 4) rfl (H.nw fun p1 w4 H _ => ?_))))))
  have H := H.got (Mod.refl [] w4) (Own.nil w4 w4.heap.size t_uint8 1)
  obtain ⟨ns, hns⟩ : ∃ ns : List Int, ns = (s.length : Int) :: g.five := ⟨_, rfl⟩
  have hnl : ns.length = 6 := by rw [hns]; rfl
  have H : Mine w [] w4 [.blk p g.cells t_api_Grant, .row t_uint8 1 tk (u8s ([BitVec.ofInt 8 g.n0] ++ spOut 136 31 (laid s ++ bes g.five) 32)), .blk p1 (i64s ns) t_int, .row t_uint8 1 ⟨none, 0, 0⟩ (u8s [])] := by
    rw [hns, hal]
    exact H
  obtain ⟨T, hT⟩ : ∃ T, T = [BitVec.ofInt 8 g.n0] ++ spOut 136 31 (laid s ++ bes g.five) 32 := ⟨_, rfl⟩
  have hTl : T.length = 33 := by rw [hT, List.length_append, h32]; rfl
  rw [← hT] at H
  refine loop2_up 0 6 (fun i (b : SlV) w' => Mine w [] w' [.blk p g.cells t_api_Grant, .row t_uint8 1 tk (u8s T), .blk p1 (i64s ns) t_int, .row t_uint8 1 b (u8s (cont s g.five i))]) rfl (by omega) H ?_ ?_
  · intro again i b w5 _ hi H hag
    refine ite_true (decide_eq_true (by show (i : Int) < 6; omega)) ?_
    have hcl := length_cont s g.five i (by omega)
    have hnx : cont s g.five (i + 1) = cont s g.five i ++ be (ns.getD i 0) ++ (if i = 0 then s else []) := by
      rw [hns]
      cases i with
      | zero => simp [cont, laid, bes]
      | succ i =>
        show laid s ++ bes (g.five.take (i + 1)) = laid s ++ bes (g.five.take i) ++ be (g.five.getD i 0) ++ _
        rw [if_neg (by omega), take_succ_getD _ _ (by show i < 5; omega) 0, bes_append]
        simp [bes, List.append_assoc]
    obtain ⟨C, hC⟩ : ∃ C, C = cont s g.five (i + 1) := ⟨_, rfl⟩
    rw [← hC] at hag hnx
    clear hC
    generalize cont s g.five i = c at *
    have hld : ∀ {w' : World} {L : List Res} {K : Int → Prop}, Mine w [] w' L → L[2]? = some (.blk p1 (i64s ns) t_int) → K (ns.getD i 0) → idxS (some ⟨p1, 0, none⟩) (i : Int) 6 (ldI .i64 (Addr.add (base (some ⟨p1, 0, none⟩)) (Int.toNat (i : Int) * 1)) w' K) := by
      intro w' L K H h2 hK
      have hN : Nums w' ⟨some ⟨p1, 0, none⟩, 6, 6⟩ ns := by
        have := H.blkNums 2 (l := ns) h2
        rw [hnl] at this
        exact this
      exact hN.ld (by omega) rfl hK
    generalize ns.getD i 0 = n at *
    have hbl := length_be n
    refine loop2_of (fun (b : SlV) (k : Int) w' => ∃ j : Nat, j ≤ 8 ∧ k = 7 - (j : Int) ∧ Mine w [] w' [.blk p g.cells t_api_Grant, .row t_uint8 1 tk (u8s T), .blk p1 (i64s ns) t_int, .row t_uint8 1 b (u8s (c ++ (be n).take j))]) (fun _ k _ => (k + 8).toNat) ⟨0, by omega, by omega, by simpa using H⟩ ?_
    rintro again1 b1 k w6 ⟨j, hj, rfl, H⟩ hag1
    have hb := (H.bytes 3 rfl).len
    rw [List.length_append, List.length_take, Nat.min_eq_left (by omega)] at hb
    refine ite_intro (fun hk => ?_) (fun hk => ?_)
    · have hk := of_decide_eq_true hk
      refine hld H rfl ⟨⟨by omega, by omega⟩, cnt_of (by omega) (H.app8one 3 ((be n).getD j 0) elt_u8 rfl (be_byte n j (by omega) _ (by omega)) (by omega) fun b' w7 H _ => ⟨⟨by omega, by omega⟩, hag1 _ _ w7 ⟨j + 1, by omega, by omega, ?_⟩ (by omega)⟩)⟩
      rw [take_succ_getD _ _ (by omega) 0, ← List.append_assoc]
      exact H
    · have hk := of_decide_eq_false hk
      rw [List.take_of_length_le (l := be n) (by omega)] at H
      refine ite_intro (fun h0 => ?_) (fun h0 => ?_)
      · have h0 := of_decide_eq_true h0
        rw [if_pos (by omega)] at hnx
        refine H.app8 3 elt_u8 rfl (ha.mod0 H.mod) (by omega) fun b2 w8 H _ => ⟨⟨by omega, by omega⟩, hag b2 w8 ?_⟩
        rw [hnx]
        exact H
      · have h0 := of_decide_eq_false h0
        rw [if_neg (by omega), List.append_nil] at hnx
        refine ⟨⟨by omega, by omega⟩, hag b1 w6 ?_⟩
        rw [hnx]
        exact H
  · intro again b w5 H
    rw [cont_last] at H
    refine ite_false rfl (join0_of fun go hgo => ?_)
    have rest : ∀ (w' : World) (L : List Res), Mine w [] w' L → go w' := by
      intro w6 L H
      refine hgo w6 ?_
      have H := ((H.take 0).got (Mod.refl [] w6) (Own.nil w6 w6.heap.size t_api_Grant 6))
      have H : Mine w [] w6 [.row t_api_Grant 6 ⟨none, 0, 0⟩ (grC [])] := by simpa [grC] using H
      refine loop2_of (fun (x : SlV) (k : Int) w' => ∃ m : List GrV, Made m ∧ k = (m.length : Int) + 1 ∧ Mine w [] w' [.row t_api_Grant 6 x (grC m)]) (fun _ k _ => (20 - k).toNat) ⟨[], Made.nil, rfl, H⟩ ?_
      rintro again1 x k w7 ⟨m, hm, rfl, H⟩ hag1
      have h8 := mayG_le hm.may
      refine call_of (law0_Low_ok many 11 (by omega) (by omega) _) ?_
      rintro _ w8 ⟨rfl, hw⟩
      subst hw
      generalize low many 11 = q at *
      refine asI_i (ite_intro (fun hq => ?_) (fun hq => awake19_of hg H))
      refine callOne H fun w9 H => ?_
      refine call_of (grants_Add_ok x m g1 (by omega) _ (H.rowSl 0 rfl)) ?_
      rintro _ w10 ⟨z, er, rfl, hz, he, hn, m10⟩
      have hC := add_g1 hm.may
      have hmade := fun h => hm.add (g := g1) h fit_g1
      have hA : addC m g1 = 0 → addL m g1 = m ++ [addR m g1] := fun h => by unfold addL; rw [if_pos h]
      have hN : addN m g1 = if addC m g1 = 0 then (m.length : Int) + 1 else 0 := rfl
      rw [hN]
      generalize addC m g1 = c at *
      generalize addL m g1 = Ls at *
      have H := H.got2 m10 hz he hn
      have hzl := Grs.len (H.rowSl 1 rfl)
      refine ⟨_, rfl, z, rfl, _, rfl, rfl, ?_⟩
      by_cases hl8 : m.length = 8
      · rw [if_pos hl8] at hC
        subst hC
        have hz0 := hn (by decide)
        subst hz0
        refine ite_true (decide_eq_true (by omega)) (ite_true rfl (call_of (law0_Num_err er 12 _ (hg.mine H (by simp)) (H.err 2 rfl)) ?_))
        rintro _ w11 ⟨rfl, m11⟩
        exact asI_i (ite_true rfl (awake19_of hg (H.frame m11)))
      · rw [if_neg hl8] at hC
        subst hC
        have hmd := hmade rfl
        have hLl : Ls.length = m.length + 1 := by rw [hA rfl]; simp
        refine ite_false (decide_eq_false (by omega)) ((H.err 2 rfl).isNil (ite_false ?_ ?_))
        · rw [if_pos rfl, decide_eq_true (show (m.length : Int) + 1 = (m.length : Int) + 1 from rfl), decide_eq_true (show ((z.n : Nat) : Int) = (m.length : Int) + 1 by omega)]; rfl
        refine call_of (grants_May_ok z Ls (by omega) _ (H.rowSl 1 rfl)) ?_
        rintro _ w11 ⟨rfl, m11⟩
        have H := H.frame m11
        rw [hmd.may]
        refine asB_b (ite_false rfl ⟨⟨by omega, by omega⟩, hag1 z _ w11 ⟨Ls, hmd, by omega, H.only 1 rfl⟩ (by omega)⟩)
    have H := H.drew
    refine H.ldI 0 rfl (ad1 p 0) rfl ?_
    have k0 : ∀ {w' w'' : World} {L L' : List Res} {i : Nat}, Mine w [] w' L → Mine w [] w'' L' → L[0]? = some (.blk p g.cells t_api_Grant) → L'[0]? = some (.blk p g.cells t_api_Grant) → kept (Addr.add ⟨p, 0, none⟩ i) 1 w' w'' := fun H H' h h' => keptB (H.blk 0 h) (H'.blk 0 h') (add_block _ _)
    have hLl : (laid s ++ bes g.five).length ≤ 1000 := by
      rw [List.length_append, length_bes]
      unfold laid
      rw [List.length_append, length_be]
      show 8 + s.length + 8 * 5 ≤ 1000
      omega
    generalize laid s ++ bes g.five = c at *
    obtain ⟨o, ho⟩ : ∃ o, o = spOut 136 31 c 32 := ⟨_, rfl⟩
    rw [← ho] at hT h32
    have cE : ∀ {w' : World} {L : List Res} {K : SlV → World → Prop} (e p4 : Nat), Mine w [] w' L → L[3]? = some (.row t_uint8 1 b (u8s c)) → L[e]? = some (.blk p4 [b.v] t_s_uint8) →
        (∀ z w'', Mine w [] w'' (L ++ [.row t_uint8 1 z (u8s o)]) → K z w'') → callK Pr f_sponge_Shake256 [.int .i64 32, .slice (some ⟨p4, 0, none⟩) 1 1] w' fun v w'' => asSl v fun t => K t w'' := by
      intro w' L K e p4 H h3 he hK
      refine call_of (sponge_Shake256_ok 32 ⟨some ⟨p4, 0, none⟩, 1, 1⟩ [c] _ (Parts.of1 (H.blk e he) (by simp) (H.bytes 3 h3) (off_nil _)) (small1 rfl (by omega))) ?_
      rintro _ w'' ⟨z, rfl, hz, m⟩
      rw [show [c].flatten = c by simp, ← ho] at hz
      exact asSl_s (hK z w'' (H.got m hz))
    have fin : ∀ {w' : World} {L : List Res} (e f p2 : Nat) (z : SlV), Mine w [] w' L → L[1]? = some (.row t_uint8 1 tk (u8s T)) → L[e]? = some (.blk p2 [.int .u8 (IntKind.wrap .u8 g.n0)] t_uint8) → L[f]? = some (.row t_uint8 1 z (u8s o)) → 1 < e →
        appK Pr [t_s_uint8, t_s_uint8] t_s_uint8 [.slice (some ⟨p2, 0, none⟩) 1 1, .slice z.a z.n z.c] w' fun t w'' => callK Pr f_law0_SameBytes [.slice tk.a tk.n tk.c, .slice t.a t.n t.c] w'' fun v w23 => asB v fun t73 => iteP (!t73) (Value.bool false = .bool true ∧ Mod [] w w23) (go w23) := by
      intro w' L e f p2 z H h1 he hf h1e
      have hz := H.bytes f hf
      have hzl := hz.len
      have hel : e < L.length := (List.getElem?_eq_some_iff.1 he).1
      have H := H.asRow e 1 1 1 he rfl (Nat.le_refl _) (by simp only [maxLen]; omega)
      rw [wrap_u8_any] at H
      refine H.app8 (s := ⟨some ⟨p2, 0, none⟩, 1, 1⟩) (vs := [BitVec.ofInt 8 g.n0]) e elt_u8 (by rw [List.getElem?_set_self hel]; rfl) hz (by show 1 + z.n ≤ _; omega) fun t w'' H _ => ?_
      rw [← hT] at H
      have ht := H.bytes (s := t) (bs := T) e (by rw [List.getElem?_set_self (by simpa using hel)])
      have htk := H.bytes (s := tk) (bs := T) 1 (by rw [List.getElem?_set_ne (by omega), List.getElem?_set_ne (by omega)]; exact h1)
      refine call_of (law0_SameBytes_same tk t T _ htk ht (by omega)) ?_
      rintro _ w23 ⟨rfl, m23⟩
      exact asB_b (ite_false rfl (rest w23 _ (H.frame m23)))
    refine ⟨?_, ?_⟩
    · refine H.nw fun p2 w6 H6 _ => H6.nw fun p4 w7 H7 _ => ⟨k0 H6 H7 rfl rfl, cE 5 p4 H7 rfl rfl fun z w8 H8 => ⟨k0 H7 H8 rfl rfl, ?_⟩⟩
      exact fin 4 6 p2 z H8 rfl rfl rfl (by omega)
    · refine H.nw fun p4 w6 H6 _ => ⟨k0 H H6 rfl rfl, ?_, ?_⟩
      · refine H6.nw fun p2 w7 H7 _ => cE 4 p4 H7 rfl rfl fun z w8 H8 => ⟨k0 H7 H8 rfl rfl, ?_⟩
        exact fin 5 6 p2 z H8 rfl rfl rfl (by omega)
      · refine cE 4 p4 H6 rfl rfl fun z w7 H7 => ⟨k0 H6 H7 rfl rfl, H7.nw fun p2 w8 H8 _ => ?_⟩
        exact fin 6 5 p2 z H8 rfl rfl rfl (by omega)
end Go.Proofs.YtoeedbljiocpdaaDoor
