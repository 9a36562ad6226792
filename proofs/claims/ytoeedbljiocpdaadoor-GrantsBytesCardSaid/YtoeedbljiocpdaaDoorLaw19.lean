/- THE STATEMENTS' OWN CODE, chapter 19: what every program answers that is one. -/
import Derived.Test.YtoeedbljiocpdaaDoorGr4
namespace Go.Proofs.YtoeedbljiocpdaaDoor
open Go Go.Ev
set_option maxRecDepth 100000
set_option linter.unusedVariables false
def g1 : GrV := ⟨1, 1, 2, 1024, 9, false⟩
def z32 : List B8 := List.replicate 32 0
theorem tok_z : (((spOut 136 31 (laid z32 ++ bes g1.five) 32).take 1).map fun b => b.toNat) = [0x69] := by kernel_rfl
theorem tok_n : (((spOut 136 31 (laid [] ++ bes g1.five) 32).take 1).map fun b => b.toNat) = [0x27] := by kernel_rfl
theorem tok_ne : tok [] g1 ≠ tok z32 g1 := by
  have h1 := tok_z
  have h2 := tok_n
  intro h
  unfold tok at h
  generalize spOut 136 31 (laid z32 ++ bes g1.five) 32 = A at *
  generalize spOut 136 31 (laid [] ++ bes g1.five) 32 = B at *
  rw [List.cons.injEq] at h
  rw [h.2, h1] at h2
  exact absurd h2 (by decide)
theorem add_one : addC [] g1 = 0 ∧ addN [] g1 = 1 ∧ addL [] g1 = [g1] := by
  have h : addC [] g1 = 0 := by decide +kernel
  refine ⟨h, ?_, ?_⟩
  · unfold addN; rw [if_pos h]; rfl
  · unfold addL; rw [if_pos h]; rfl
theorem may_g1 : mayG [g1] = true := by decide +kernel
theorem allow_9 : allowC g1 1 2 10 9 = 0 := by decide +kernel
theorem allow_10 : allowC g1 1 2 10 10 = 10 := by decide +kernel
theorem told_z (t : List B8) (h : t = tok z32 g1) : Told [g1] z32 t g1 0 := by
  subst h
  exact .inr (.inr ⟨may_g1, ⟨0, by simp, rfl, fun j hj => by omega, rfl⟩, rfl⟩)
theorem told_n (t : List B8) (h : t = tok z32 g1) : Told [g1] [] t gz 15 := by
  subst h
  refine .inr (.inl ⟨may_g1, fun j hj => ?_, rfl, rfl⟩)
  obtain rfl : j = 0 := by simpa using hj
  exact tok_ne
theorem law0_OverGrants_ok (x : SlV) (l : List GrV) (w : World) (hx : Own w 0 t_api_Grant 6 x (grC l)) (hl : l.length ≤ 100000) : Ok Pr f_law0_OverGrants [.slice x.a x.n x.c] w fun v w' => v = .tuple ⟨[]⟩ ∧ Mod x.row w w' := by
  refine V_law0_OverGrants_of ?_
  unfold V_law0_OverGrants
  have H := Mine.start1 (r := .row t_api_Grant 6 x (grC l)) hx
  have hxs : Grs w x l := hx.sl
  have hxl := hxs.len
  refine loop1_up 0 l.length (fun i w' => ∃ m : List Value, m.length = 6 * l.length ∧ Mine w x.row w' [.row t_api_Grant 6 x m]) rfl (by omega) ⟨_, length_grC l, H⟩ ?_ ?_
  · rintro again i w1 _ hi ⟨m, hm, H⟩ hag
    have ea : ∀ j : Nat, Addr.add (Addr.add (base x.a) (Int.toNat (i : Int) * 6)) j = Addr.add (base x.a) (i * 6 + j) := fun j => by rw [Int.toNat_natCast, add_add]
    refine ite_true (by rw [← hxl]; simpa using hi) ⟨⟨Sl.pre hxs (by omega), by omega, by omega⟩, ?_⟩
    unfold sT_api_Grant
    refine H.stRow 0 rfl (ea 0) (by omega) rfl fun w2 H => ?_
    refine H.stRow 0 rfl (ea 1) (by simp only [List.length_set]; omega) rfl fun w3 H => ?_
    refine H.stRow 0 rfl (ea 2) (by simp only [List.length_set]; omega) rfl fun w4 H => ?_
    refine H.stRow 0 rfl (ea 3) (by simp only [List.length_set]; omega) rfl fun w5 H => ?_
    refine H.stRow 0 rfl (ea 4) (by simp only [List.length_set]; omega) rfl fun w6 H => ?_
    refine H.stRow 0 rfl (ea 5) (by simp only [List.length_set]; omega) rfl fun w7 H => ?_
    exact ⟨⟨by omega, by omega⟩, hag w7 ⟨_, by simp only [List.length_set]; exact hm, H⟩⟩
  · rintro again w1 ⟨m, hm, H⟩
    refine ite_false (by rw [← hxl]; simp) ?_
    refine H.app1 0 elt_gr rfl rfl (by intro u hu; simp only [List.mem_cons, List.not_mem_nil, or_false] at hu; rcases hu with rfl | rfl | rfl | rfl | rfl | rfl <;> rfl) (by omega) (by omega) fun s' w2 H _ => ?_
    exact ⟨rfl, H.mod⟩
theorem law19_one_ok (w : World) : Ok Pr f_law19_one [] w fun v w' => v = .agg ⟨g1.cells⟩ ∧ Mod [] w w' := by
  refine V_law19_one_of ?_
  unfold V_law19_one
  rw [zc_gr]
  exact (Mine.start w).nw fun p w1 H _ => H.sT_api_Grant 0 rfl rfl fun w2 H => H.ld_api_Grant 0 rfl ⟨rfl, H.mod⟩
theorem as_gr {g : GrV} {K : Int → Int → Int → Int → Int → Bool → Prop} (h : K g.n0 g.n1 g.n2 g.n3 g.n4 g.rev) : as_api_Grant (.agg ⟨g.cells⟩) K := as_api_Grant_of h
theorem callOne {w0 w : World} {L : List Res} {K : Int → Int → Int → Int → Int → Bool → World → Prop} (H : Mine w0 [] w L) (h : ∀ w', Mine w0 [] w' L → K g1.n0 g1.n1 g1.n2 g1.n3 g1.n4 g1.rev w') :
    callK Pr f_law19_one [] w fun v w' => as_api_Grant v fun a b c d e f => K a b c d e f w' := by
  refine call_of (law19_one_ok w) ?_
  rintro _ w' ⟨rfl, m⟩
  exact as_gr (h w' (H.frame m))
theorem law19_awake_ok (w : World) (hg : Laid w) : Ok Pr f_law19_awake [] w fun v w' => v = .bool true ∧ Mod [] w w' := by
  refine V_law19_awake_of ?_
  unfold V_law19_awake
  rw [zc_gr]
  refine callOne (Mine.start w) fun w1 H => ?_
  refine call_of (grants_Add_ok ⟨none, 0, 0⟩ [] g1 (by simp) _ (Grs.nil _)) ?_
  rintro _ w2 ⟨y, er, rfl, hy, he, hn, m2⟩
  obtain ⟨e1, e2, e3⟩ := add_one
  rw [e3] at hy
  rw [e1] at he hn
  rw [e2]
  have H := H.got2 m2 hy he hn
  refine ⟨_, rfl, y, rfl, _, rfl, rfl, ?_⟩
  obtain ⟨T, hT⟩ : ∃ T, T = tok z32 g1 := ⟨_, rfl⟩
  have hTl : T.length = 33 := by rw [hT]; exact length_tok _ _
  refine join1_of fun go hgo => ?_
  have rest : ∀ (x0 z : SlV) (w' : World), Mine w [] w' [.row t_api_Grant 6 y (grC [g1]), Res.err er 0, .row t_uint8 1 x0 (u8s z32), .row t_uint8 1 z (u8s T)] → go z w' := by
    intro x0 z w3 H
    refine hgo z w3 ?_
    have hzl := (H.bytes 3 rfl).len
    refine H.mkU elt_u8 (by kernel_rfl) (n := 32) rfl rfl (by omega) fun x w4 H hxn => ?_
    change Mine w [] w4 [.row t_api_Grant 6 y (grC [g1]), Res.err er 0, .row t_uint8 1 x0 (u8s z32), .row t_uint8 1 z (u8s T), .row t_uint8 1 x (u8s z32)] at H
    refine call_of (grants_Check_ok [g1] y x z z32 T (by simp [z32]) (by simp) _ (H.rowSl 0 rfl) (H.bytes 4 rfl) (H.bytes 3 rfl)) ?_
    rintro _ w5 ⟨g, c, er2, rfl, ht, he2, m5⟩
    obtain ⟨rfl, rfl⟩ := ht.unique (told_z T hT)
    have H := H.gotE m5 he2
    refine ⟨_, rfl, as_gr ⟨rfl, H.nw fun p w6 H _ => H.sT_api_Grant 6 rfl rfl fun w7 H => ?_⟩⟩
    refine call_of (grants_Check_ok [g1] y ⟨none, 0, 0⟩ z [] T (by simp) (by simp) _ (H.rowSl 0 rfl) (Bytes.nil _) (H.bytes 3 rfl)) ?_
    rintro _ w8 ⟨g, c, er3, rfl, ht, he3, m8⟩
    obtain ⟨rfl, rfl⟩ := ht.unique (told_n T hT)
    have H := H.gotE m8 he3
    refine ⟨_, rfl, as_gr ⟨rfl, H.nw fun p1 w9 H _ => H.sT_api_Grant 8 rfl rfl fun w10 H => ?_⟩⟩
    change Mine w [] w10 [.row t_api_Grant 6 y (grC [g1]), Res.err er 0, .row t_uint8 1 x0 (u8s z32), .row t_uint8 1 z (u8s T), .row t_uint8 1 x (u8s z32), Res.err er2 0, .blk p g1.cells t_api_Grant, Res.err er3 15, .blk p1 gz.cells t_api_Grant] at H
    have H1 := H
    have H := H.drew
    refine ite_true rfl ((H1.err 1 rfl).isNil (H.ld_api_Grant 6 rfl (ite_true (by rw [← hzl, hTl]; rfl) (callOne H fun w11 H2 => ⟨keptB (H.blk 6 rfl) (H2.blk 6 rfl) rfl, ?_⟩))))
    refine eqK_gr (g := g1) (ite_true rfl ((H2.err 5 rfl).isNil (ite_true rfl (call_of (law0_Num_err er3 15 _ (hg.mine H2 (by simp)) (H2.err 7 rfl)) ?_))))
    rintro _ w12 ⟨rfl, m12⟩
    have H := H2.frame m12
    refine asI_i (H.ld_api_Grant 6 rfl (ite_true rfl (call_of (grants_Allows_ok g1 1 2 10 9 _) ?_)))
    rintro e4 w13 ⟨h4, m13⟩
    rw [allow_9] at h4
    have H := H.frame m13
    refine h4.1.isNil (H.ld_api_Grant 6 rfl (ite_true rfl (call_of (grants_Allows_ok g1 1 2 10 10 _) ?_)))
    rintro e5 w14 ⟨h5, m14⟩
    rw [allow_10] at h5
    have H := H.gotE m14 h5
    refine call_of (law0_Num_err e5 10 _ (hg.mine H (by simp)) (H.err 9 rfl)) ?_
    rintro _ w15 ⟨rfl, m15⟩
    have H := H.frame m15
    refine asI_i (ite_true rfl (call_of (grants_May_ok y [g1] (by simp) _ (H.rowSl 0 rfl)) ?_))
    rintro _ w16 ⟨rfl, m16⟩
    rw [may_g1]
    exact asB_b ⟨rfl, (H.frame m16).mod⟩
  have H := H.drew
  have tk : ∀ (x0 : SlV) (w' : World), Mine w [] w' [.row t_api_Grant 6 y (grC [g1]), Res.err er 0, .row t_uint8 1 x0 (u8s z32)] → callK Pr f_grants_Token [.slice x0.a x0.n x0.c, .agg ⟨g1.cells⟩] w' fun v w'' => asSl v fun t => go t w'' := by
    intro x0 w' H
    refine call_of (grants_Token_ok x0 z32 g1 (by simp [z32]) _ (H.bytes 2 rfl)) ?_
    rintro _ w'' ⟨z, rfl, hz, m⟩
    rw [← hT] at hz
    exact asSl_s (rest x0 z w'' (H.got m hz))
  refine ⟨?_, ?_⟩
  · exact H.mkU elt_u8 (by kernel_rfl) (n := 32) rfl rfl (by omega) fun x0 w4 H hxn => callOne H fun w5 H => tk x0 w5 H
  · exact callOne H fun w5 H => H.mkU elt_u8 (by kernel_rfl) (n := 32) rfl rfl (by omega) fun x0 w4 H hxn => tk x0 w4 H
theorem awake19_of {w0 w : World} {L : List Res} (hg : Laid w0) (H : Mine w0 [] w L) : callK Pr f_law19_awake [] w fun v w' => asB v fun t => (Value.bool t = .bool true ∧ Mod [] w0 w') := by
  refine call_of (law19_awake_ok w (hg.mine H (by simp))) ?_
  rintro _ w1 ⟨rfl, m⟩
  exact asB_b ⟨rfl, (H.frame m).mod⟩
end Go.Proofs.YtoeedbljiocpdaaDoor
