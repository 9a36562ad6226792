/- A REQUEST'S BODY IS READ: the program's. -/
import Derived.Test.YtoeedbljiocpdaaDoorRdAsk
namespace Go.Proofs.YtoeedbljiocpdaaDoor
open Go Go.Ev
set_option maxRecDepth 20000
set_option linter.unusedVariables false
theorem code_New_ok (x : SlV) (l : List B8) (hl : l.length ≤ 1000000) (w : World) (hx : Bytes w x l) : Ok Pr f_code_New [.slice x.a x.n x.c] w fun v w' =>
    ∃ (b : Nat) (B : SlV), v = .pointer (some ⟨b, 0, none⟩) ∧ Own w' w.heap.size t_uint8 1 B (u8s l) ∧ Blk w' b [B.v, .bool false] t_code_Reader ∧ w.heap.size ≤ b ∧ b ∉ B.row ∧ Mod [] w w' := by
  refine V_code_New_of ?_
  unfold V_code_New
  refine call_of (slices_Clone_byte_ok x l (by omega) w hx) ?_
  rintro _ w1 ⟨y, rfl, hy, m⟩
  have H := (Mine.start w).got m hy
  refine asSl_s (H.nw fun p w2 H hp => ?_)
  refine ⟨p, y, rfl, H.fresh0 0 rfl, H.blk 1 rfl, ?_, fun hc => H.apart 0 1 _ _ (by omega) rfl rfl p hc (by simp [Res.blk]), H.mod⟩
  exact (H.own 1 _ rfl p (by simp [Res.blk])).resolve_left (by simp)
/-- a reading under way: what is owned -/
def RQ (w0 w : World) (p b p1 : Nat) (B : SlV) (full : List B8) (s : Option (List B8)) (E : List Res) : Prop :=
  ∃ (x : SlV) (bad : Bool), Mine w0 [] w (.blk p askZ.cells t_api_Ask :: .row t_uint8 1 B (u8s full) :: .blk b [x.v, .bool bad] t_code_Reader :: .blk p1 [.pointer (some ⟨b, 0, none⟩)] t_p_code_Reader :: E) ∧ RdS B full x bad s
section
variable {w0 w : World} {p b p1 : Nat} {B : SlV} {full : List B8} {s s' : Option (List B8)} {E : List Res}
theorem RQ.off {w : World} {x : SlV} {bad : Bool} (H : Mine w0 [] w (.blk p askZ.cells t_api_Ask :: .row t_uint8 1 B (u8s full) :: .blk b [x.v, .bool bad] t_code_Reader :: .blk p1 [.pointer (some ⟨b, 0, none⟩)] t_p_code_Reader :: E)) : off [b] B := fun h0 a ha hc => by
  have hc : a.block = b := by simpa using hc
  have hr : b ∈ B.row := by unfold SlV.row; rw [ha]; show b ∈ [a.block]; rw [hc]; simp
  exact H.apart 1 2 _ _ (by omega) rfl rfl b hr (by simp [Res.blk])
theorem RQ.drew (h : RQ w0 w p b p1 B full s E) : RQ w0 w.drew p b p1 B full s E := by
  obtain ⟨x, bad, H, hs⟩ := h
  exact ⟨x, bad, H.drew, hs⟩
theorem RQ.frame {w' : World} (h : RQ w0 w p b p1 B full s E) (m : Mod [] w w') : RQ w0 w' p b p1 B full s E := by
  obtain ⟨x, bad, H, hs⟩ := h
  exact ⟨x, bad, H.frame m, hs⟩
theorem RQ.kept {w' : World} {E' : List Res} {s' : Option (List B8)} (h : RQ w0 w p b p1 B full s E) (h' : RQ w0 w' p b p1 B full s' E') : Ev.kept ⟨p1, 0, none⟩ 1 w w' := by
  obtain ⟨x, bad, H, hs⟩ := h
  obtain ⟨x', bad', H', hs'⟩ := h'
  exact keptB (H.blk 3 rfl) (H'.blk 3 rfl) rfl
theorem RQ.ldP (h : RQ w0 w p b p1 B full s E) {K : Option Addr → Prop} (hK : K (some ⟨b, 0, none⟩)) : Ev.ldP ⟨p1, 0, none⟩ w K := by
  obtain ⟨x, bad, H, hs⟩ := h
  exact H.ldP 3 rfl rfl rfl hK
theorem RQ.next {w' : World} {v : Value} (h : RQ w0 w p b p1 B full s E) (hB : True) (hr : RdAt w w' b t_code_Reader B full s') : RQ w0 w' p b p1 B full s' E := by
  obtain ⟨x, bad, H, hs⟩ := h
  obtain ⟨x', bad', hb, hs', m⟩ := hr
  exact ⟨x', bad', H.upd (r' := .blk b [x'.v, .bool bad'] t_code_Reader) 2 rfl m (fun c hc => .inl hc) hb (fun c hc => .inl hc), hs'⟩
theorem RQ.num {lo hi n : Int} (h : RQ w0 w p b p1 B full s E) (e : rNum lo hi s = (n, s')) {K : Int → World → Prop} (hK : ∀ w', RQ w0 w' p b p1 B full s' E → Ev.kept ⟨p1, 0, none⟩ 1 w w' → K n w') :
    callK Pr f_code_Reader_Number [.pointer (some ⟨b, 0, none⟩), .int .i64 lo, .int .i64 hi] w fun v w' => asI .i64 v fun t => K t w' := by
  obtain ⟨x, bad, H, hs⟩ := id h
  refine call_of (code_Reader_Number_ok b B full x bad s lo hi w (H.blk 2 rfl) hs (H.bytes 1 rfl) (RQ.off H)) ?_
  rintro _ w' ⟨rfl, hr⟩
  rw [e] at hr ⊢
  have h' := h.next (v := .nilIface) trivial hr
  exact asI_i (hK w' h' (h.kept h'))
theorem RQ.clo {n : Int} (h : RQ w0 w p b p1 B full s E) (e : rNum 0 1099511627776 s = (n, s')) {K : Int → World → Prop} (hK : ∀ w', RQ w0 w' p b p1 B full s' E → Ev.kept ⟨p1, 0, none⟩ 1 w w' → K n w') :
    callK Pr f_ask_read_1 [.pointer (some ⟨p1, 0, none⟩)] w fun v w' => asI .i64 v fun t => K t w' := by
  have ok : Ok Pr f_ask_read_1 [.pointer (some ⟨p1, 0, none⟩)] w fun v w' => v = .int .i64 n ∧ RQ w0 w' p b p1 B full s' E := by
    refine V_ask_read_1_of ?_
    unfold V_ask_read_1
    exact h.ldP (h.num e fun w' h' _ => ⟨rfl, h'⟩)
  refine call_of ok ?_
  rintro _ w' ⟨rfl, h'⟩
  exact asI_i (hK w' h' (h.kept h'))
theorem RQ.nw (h : RQ w0 w p b p1 B full s []) {K : Addr → World → Prop} (hK : ∀ a w', RQ w0 w' p b p1 B full s [.blk a askZ.cells t_api_Ask] → Ev.kept ⟨p1, 0, none⟩ 1 w w' → K ⟨a, 0, none⟩ w') : Ev.nw t_api_Ask askZ.cells w K := by
  obtain ⟨x, bad, H, hs⟩ := id h
  refine H.nw fun a w' H' _ => ?_
  have h' : RQ w0 w' p b p1 B full s [.blk a askZ.cells t_api_Ask] := ⟨x, bad, H', hs⟩
  exact hK a w' h' (h.kept h')
theorem RQ.bytes {most : Int} {o : List B8} (h : RQ w0 w p b p1 B full s E) (e : rBytes most s = (o, s')) {K : SlV → World → Prop} (hK : ∀ y w', RQ w0 w' p b p1 B full s' E → Tail B full y o → Ev.kept ⟨p1, 0, none⟩ 1 w w' → K y w') :
    callK Pr f_code_Reader_Bytes [.pointer (some ⟨b, 0, none⟩), .int .i64 most] w fun v w' => asSl v fun t => K t w' := by
  obtain ⟨x, bad, H, hs⟩ := id h
  refine call_of (code_Reader_Bytes_ok b B full x bad s most w (H.blk 2 rfl) hs (H.bytes 1 rfl) (RQ.off H)) ?_
  rintro _ w' ⟨y, rfl, hy, hr⟩
  rw [e] at hr hy
  have h' := h.next (v := .nilIface) trivial hr
  exact asSl_s (hK y w' h' hy (h.kept h'))
theorem RQ.text {most : Int} {o : List B8} (h : RQ w0 w p b p1 B full s E) (e : rBytes most s = (o, s')) {K : ByteArray → World → Prop} (hK : ∀ w', RQ w0 w' p b p1 B full s' E → Ev.kept ⟨p1, 0, none⟩ 1 w w' → K (strOf o) w') :
    callK Pr f_code_Reader_Text [.pointer (some ⟨b, 0, none⟩), .int .i64 most] w fun v w' => asStr v fun t => K t w' := by
  obtain ⟨x, bad, H, hs⟩ := id h
  refine call_of (code_Reader_Text_ok b B full x bad s most w (H.blk 2 rfl) hs (H.bytes 1 rfl) (RQ.off H)) ?_
  rintro _ w' ⟨rfl, hr⟩
  rw [e] at hr ⊢
  have h' := h.next (v := .nilIface) trivial hr
  exact ⟨_, rfl, hK w' h' (h.kept h')⟩
end
theorem zc_pR : zc Pr t_p_code_Reader = [.pointer none] := by kernel_rfl
theorem ask_read_ok (x : SlV) (l : List B8) (hl : l.length ≤ 100000) (w : World) (hx : Bytes w x l) : Ok Pr f_ask_read [.slice x.a x.n x.c] w fun v w' =>
    ∃ (q : AskV) (lb lt : List B8) (s : Option (List B8)) (B : SlV), v = .tuple ⟨[.agg ⟨q.cells⟩, .bool (rEnd s && mayAsk q)]⟩ ∧ Rds (1, 6) (1, mxC) (1, 13) (0, mxC) l q lb lt s ∧ Own w' w.heap.size t_uint8 1 B (u8s l) ∧ Tail B l q.by_ lb ∧ Tail B l q.tok lt ∧ Mod [] w w' := by
  refine V_ask_read_of ?_
  unfold V_ask_read
  rw [zc_Ask, zc_pR]
  refine (Mine.start w).nw fun p w1 H _ => call_of (code_New_ok x l (by omega) _ (hx.mod0 H.mod)) ?_
  rintro _ w2 ⟨b, B, rfl, hB, hR, hge, hd, m⟩
  have H := H.push2 m (r := .row t_uint8 1 B (u8s l)) (s := .blk b [B.v, .bool false] t_code_Reader) (hB.mono' (Nat.zero_le _)) hR (fun c hc => (hB.row_ge c hc).1) (fun c hc => by rw [List.mem_singleton.1 hc]; exact hge) (fun c hc hcb => hd (by rw [← List.mem_singleton.1 hcb]; exact hc))
  refine asP_p (H.nw fun p1 w3 H _ => H.st 3 rfl rfl (by simp) rfl fun w4 H => ?_)
  have h0 : RQ w w4 p b p1 B l (some l) [] := ⟨B, false, H, rfl, Tail.self B l⟩
  obtain ⟨v0, s1, e1⟩ : ∃ v s', rNum 1 6 (some l) = (v, s') := ⟨_, _, rfl⟩
  obtain ⟨v1, s2, e2⟩ : ∃ v s', rNum 1 1099511627776 s1 = (v, s') := ⟨_, _, rfl⟩
  obtain ⟨v2, s3, e3⟩ : ∃ v s', rNum 1 13 s2 = (v, s') := ⟨_, _, rfl⟩
  obtain ⟨v3, s4, e4⟩ : ∃ v s', rNum 0 1099511627776 s3 = (v, s') := ⟨_, _, rfl⟩
  obtain ⟨v4, s5, e5⟩ : ∃ v s', rNum 0 1099511627776 s4 = (v, s') := ⟨_, _, rfl⟩
  obtain ⟨v5, s6, e6⟩ : ∃ v s', rNum 0 1099511627776 s5 = (v, s') := ⟨_, _, rfl⟩
  obtain ⟨v6, s7, e7⟩ : ∃ v s', rNum 0 1099511627776 s6 = (v, s') := ⟨_, _, rfl⟩
  obtain ⟨v7, s8, e8⟩ : ∃ v s', rNum 0 1099511627776 s7 = (v, s') := ⟨_, _, rfl⟩
  obtain ⟨v8, s9, e9⟩ : ∃ v s', rNum 0 1099511627776 s8 = (v, s') := ⟨_, _, rfl⟩
  obtain ⟨v9, s10, e10⟩ : ∃ v s', rNum 0 1099511627776 s9 = (v, s') := ⟨_, _, rfl⟩
  obtain ⟨v10, s11, e11⟩ : ∃ v s', rNum 0 1099511627776 s10 = (v, s') := ⟨_, _, rfl⟩
  obtain ⟨nm, sa, ea⟩ : ∃ v s', rBytes 300 s11 = (v, s') := ⟨_, _, rfl⟩
  obtain ⟨lb, sb, eb⟩ : ∃ v s', rBytes 2000 sa = (v, s') := ⟨_, _, rfl⟩
  obtain ⟨lt, sc, ec⟩ : ∃ v s', rBytes 100 sb = (v, s') := ⟨_, _, rfl⟩
  refine join1_of fun go hgo => ?_
  have last : ∀ a w', RQ w w' p b p1 B l s11 [.blk a askZ.cells t_api_Ask] → sT_api_Ask ⟨a, 0, none⟩ v0 v1 v2 v3 v4 v5 v6 v7 v8 v9 v10 S_empty ⟨none, 0, 0⟩ ⟨none, 0, 0⟩ w' (fun w'' => go ⟨a, 0, none⟩ w'') := by
    rintro a w5 ⟨x5, bad5, H, hs5⟩
    refine H.sT_api_Ask 4 rfl rfl fun w6 H => hgo _ w6 ?_
    have h6 : RQ w w6 p b p1 B l s11 [.blk a (⟨v0, v1, v2, v3, v4, v5, v6, v7, v8, v9, v10, S_empty, ⟨none, 0, 0⟩, ⟨none, 0, 0⟩⟩ : AskV).cells t_api_Ask] := ⟨x5, bad5, H, hs5⟩
    have h6 := h6.drew
    refine h6.ldP (h6.ldP (h6.ldP (h6.text ea fun w7 h7 k7 => ⟨k7, k7, h7.bytes eb fun y2 w8 h8 t2 k8 => ⟨k8, h8.bytes ec fun y3 w9 h9 t3 k9 => ?_⟩⟩)))
    obtain ⟨x9, bad9, H, hs9⟩ := h9
    refine H.st 4 rfl (ad1 a 11) (by simp) rfl fun w10 H => H.st 4 rfl (ad1 a 12) (by simp) rfl fun w11 H => H.st 4 rfl (ad1 a 13) (by simp) rfl fun w12 H => ?_
    obtain ⟨q, hq⟩ : ∃ q : AskV, q = ⟨v0, v1, v2, v3, v4, v5, v6, v7, v8, v9, v10, strOf nm, y2, y3⟩ := ⟨_, rfl⟩
    have H : Mine w [] w12 [.blk p askZ.cells t_api_Ask, .row t_uint8 1 B (u8s l), .blk b [x9.v, .bool bad9] t_code_Reader, .blk p1 [.pointer (some ⟨b, 0, none⟩)] t_p_code_Reader, .blk a q.cells t_api_Ask] := by
      rw [hq]; exact H
    have hrd : Rds (1, 6) (1, mxC) (1, 13) (0, mxC) l q lb lt sc := by
      rw [hq]
      exact ⟨s1, s2, s3, s4, s5, s6, s7, s8, s9, s10, s11, sa, sb, nm, e1, e2, e3, e4, e5, e6, e7, e8, e9, e10, e11, ea, rfl, eb, ec⟩
    have ty : Tail B l q.by_ lb := by rw [hq]; exact t2
    have tt : Tail B l q.tok lt := by rw [hq]; exact t3
    have H := H.drew
    refine H.ld_api_Ask 4 rfl (H.ldP 3 rfl rfl rfl (call_of (code_Reader_End_ok b B l x9 bad9 sc _ (H.blk 2 rfl) hs9 (H.bytes 1 rfl)) ?_))
    rintro er w13 ⟨he, m13⟩
    have H13 := H.frame m13
    refine ⟨keptB (H.blk 4 rfl) (H13.blk 4 rfl) rfl, he.1.isNil (H13.ld_api_Ask 4 rfl ?_)⟩
    cases hend : rEnd sc with
    | true =>
      refine ite_true rfl (call_of (ask_May_ok q _) ?_)
      rintro _ w14 ⟨rfl, m14⟩
      have H14 := H13.frame m14
      refine asB_b ⟨keptB (H13.blk 4 rfl) (H14.blk 4 rfl) rfl, H14.sT_api_Ask 0 rfl rfl fun w15 H15 => H15.ld_api_Ask 0 rfl ?_⟩
      exact ⟨q, lb, lt, sc, B, by rw [hend, Bool.true_and], hrd, H15.fresh0 1 rfl, ty, tt, H15.mod⟩
    | false =>
      refine ite_false rfl ⟨keptB (H13.blk 4 rfl) (H13.blk 4 rfl) rfl, H13.sT_api_Ask 0 rfl rfl fun w15 H15 => H15.ld_api_Ask 0 rfl ?_⟩
      exact ⟨q, lb, lt, sc, B, by rw [hend, Bool.false_and], hrd, H15.fresh0 1 rfl, ty, tt, H15.mod⟩
  clear hgo
  have hq0 := h0.drew
  refine hq0.ldP ?_
  refine hq0.ldP ?_
  refine hq0.ldP ?_
  refine ⟨?_, ?_⟩
  · refine RQ.num hq0 e1 fun w101 hq1 hk1 => ?_
    refine ⟨hk1, ?_⟩
    refine ⟨hk1, ?_⟩
    refine ⟨?_, ?_⟩
    · refine RQ.num hq1 e2 fun w102 hq2 hk2 => ?_
      refine ⟨hk2, ?_⟩
      refine ⟨?_, ?_⟩
      · refine RQ.num hq2 e3 fun w103 hq3 hk3 => ?_
        refine ⟨?_, ?_⟩
        · refine RQ.clo hq3 e4 fun w104 hq4 hk4 => ?_
          refine ⟨?_, ?_⟩
          · refine RQ.clo hq4 e5 fun w105 hq5 hk5 => ?_
            refine ⟨?_, ?_⟩
            · refine RQ.clo hq5 e6 fun w106 hq6 hk6 => ?_
              refine ⟨?_, ?_⟩
              · refine RQ.clo hq6 e7 fun w107 hq7 hk7 => ?_
                refine ⟨?_, ?_⟩
                · refine RQ.clo hq7 e8 fun w108 hq8 hk8 => ?_
                  refine ⟨?_, ?_⟩
                  · refine RQ.clo hq8 e9 fun w109 hq9 hk9 => ?_
                    refine ⟨?_, ?_⟩
                    · refine RQ.clo hq9 e10 fun w110 hq10 hk10 => ?_
                      refine ⟨?_, ?_⟩
                      · refine RQ.clo hq10 e11 fun w111 hq11 hk11 => ?_
                        refine RQ.nw hq11 fun a w112 hq12 hk12 => ?_
                        refine ⟨hk12, ?_⟩
                        refine ⟨hk12, ?_⟩
                        refine ⟨hk12, ?_⟩
                        exact last _ _ hq12
                      · refine RQ.nw hq10 fun a w113 hq13 hk13 => ?_
                        refine ⟨hk13, ?_⟩
                        refine ⟨hk13, ?_⟩
                        refine ⟨hk13, ?_⟩
                        refine RQ.clo hq13 e11 fun w114 hq14 hk14 => ?_
                        exact last _ _ hq14
                    · refine RQ.nw hq9 fun a w115 hq15 hk15 => ?_
                      refine ⟨hk15, ?_⟩
                      refine ⟨hk15, ?_⟩
                      refine ⟨hk15, ?_⟩
                      refine RQ.clo hq15 e10 fun w116 hq16 hk16 => ?_
                      refine RQ.clo hq16 e11 fun w117 hq17 hk17 => ?_
                      exact last _ _ hq17
                  · refine RQ.nw hq8 fun a w118 hq18 hk18 => ?_
                    refine ⟨hk18, ?_⟩
                    refine ⟨hk18, ?_⟩
                    refine ⟨hk18, ?_⟩
                    refine RQ.clo hq18 e9 fun w119 hq19 hk19 => ?_
                    refine RQ.clo hq19 e10 fun w120 hq20 hk20 => ?_
                    refine RQ.clo hq20 e11 fun w121 hq21 hk21 => ?_
                    exact last _ _ hq21
                · refine RQ.nw hq7 fun a w122 hq22 hk22 => ?_
                  refine ⟨hk22, ?_⟩
                  refine ⟨hk22, ?_⟩
                  refine ⟨hk22, ?_⟩
                  refine RQ.clo hq22 e8 fun w123 hq23 hk23 => ?_
                  refine RQ.clo hq23 e9 fun w124 hq24 hk24 => ?_
                  refine RQ.clo hq24 e10 fun w125 hq25 hk25 => ?_
                  refine RQ.clo hq25 e11 fun w126 hq26 hk26 => ?_
                  exact last _ _ hq26
              · refine RQ.nw hq6 fun a w127 hq27 hk27 => ?_
                refine ⟨hk27, ?_⟩
                refine ⟨hk27, ?_⟩
                refine ⟨hk27, ?_⟩
                refine RQ.clo hq27 e7 fun w128 hq28 hk28 => ?_
                refine RQ.clo hq28 e8 fun w129 hq29 hk29 => ?_
                refine RQ.clo hq29 e9 fun w130 hq30 hk30 => ?_
                refine RQ.clo hq30 e10 fun w131 hq31 hk31 => ?_
                refine RQ.clo hq31 e11 fun w132 hq32 hk32 => ?_
                exact last _ _ hq32
            · refine RQ.nw hq5 fun a w133 hq33 hk33 => ?_
              refine ⟨hk33, ?_⟩
              refine ⟨hk33, ?_⟩
              refine ⟨hk33, ?_⟩
              refine RQ.clo hq33 e6 fun w134 hq34 hk34 => ?_
              refine RQ.clo hq34 e7 fun w135 hq35 hk35 => ?_
              refine RQ.clo hq35 e8 fun w136 hq36 hk36 => ?_
              refine RQ.clo hq36 e9 fun w137 hq37 hk37 => ?_
              refine RQ.clo hq37 e10 fun w138 hq38 hk38 => ?_
              refine RQ.clo hq38 e11 fun w139 hq39 hk39 => ?_
              exact last _ _ hq39
          · refine RQ.nw hq4 fun a w140 hq40 hk40 => ?_
            refine ⟨hk40, ?_⟩
            refine ⟨hk40, ?_⟩
            refine ⟨hk40, ?_⟩
            refine RQ.clo hq40 e5 fun w141 hq41 hk41 => ?_
            refine RQ.clo hq41 e6 fun w142 hq42 hk42 => ?_
            refine RQ.clo hq42 e7 fun w143 hq43 hk43 => ?_
            refine RQ.clo hq43 e8 fun w144 hq44 hk44 => ?_
            refine RQ.clo hq44 e9 fun w145 hq45 hk45 => ?_
            refine RQ.clo hq45 e10 fun w146 hq46 hk46 => ?_
            refine RQ.clo hq46 e11 fun w147 hq47 hk47 => ?_
            exact last _ _ hq47
        · refine RQ.nw hq3 fun a w148 hq48 hk48 => ?_
          refine ⟨hk48, ?_⟩
          refine ⟨hk48, ?_⟩
          refine ⟨hk48, ?_⟩
          refine RQ.clo hq48 e4 fun w149 hq49 hk49 => ?_
          refine RQ.clo hq49 e5 fun w150 hq50 hk50 => ?_
          refine RQ.clo hq50 e6 fun w151 hq51 hk51 => ?_
          refine RQ.clo hq51 e7 fun w152 hq52 hk52 => ?_
          refine RQ.clo hq52 e8 fun w153 hq53 hk53 => ?_
          refine RQ.clo hq53 e9 fun w154 hq54 hk54 => ?_
          refine RQ.clo hq54 e10 fun w155 hq55 hk55 => ?_
          refine RQ.clo hq55 e11 fun w156 hq56 hk56 => ?_
          exact last _ _ hq56
      · refine RQ.nw hq2 fun a w157 hq57 hk57 => ?_
        refine ⟨hk57, ?_⟩
        refine ⟨hk57, ?_⟩
        refine ⟨hk57, ?_⟩
        refine RQ.num hq57 e3 fun w158 hq58 hk58 => ?_
        refine RQ.clo hq58 e4 fun w159 hq59 hk59 => ?_
        refine RQ.clo hq59 e5 fun w160 hq60 hk60 => ?_
        refine RQ.clo hq60 e6 fun w161 hq61 hk61 => ?_
        refine RQ.clo hq61 e7 fun w162 hq62 hk62 => ?_
        refine RQ.clo hq62 e8 fun w163 hq63 hk63 => ?_
        refine RQ.clo hq63 e9 fun w164 hq64 hk64 => ?_
        refine RQ.clo hq64 e10 fun w165 hq65 hk65 => ?_
        refine RQ.clo hq65 e11 fun w166 hq66 hk66 => ?_
        exact last _ _ hq66
    · refine RQ.nw hq1 fun a w167 hq67 hk67 => ?_
      refine ⟨hk67, ?_⟩
      refine ⟨hk67, ?_⟩
      refine ⟨hk67, ?_⟩
      refine RQ.num hq67 e2 fun w168 hq68 hk68 => ?_
      refine ⟨hk68, ?_⟩
      refine RQ.num hq68 e3 fun w169 hq69 hk69 => ?_
      refine RQ.clo hq69 e4 fun w170 hq70 hk70 => ?_
      refine RQ.clo hq70 e5 fun w171 hq71 hk71 => ?_
      refine RQ.clo hq71 e6 fun w172 hq72 hk72 => ?_
      refine RQ.clo hq72 e7 fun w173 hq73 hk73 => ?_
      refine RQ.clo hq73 e8 fun w174 hq74 hk74 => ?_
      refine RQ.clo hq74 e9 fun w175 hq75 hk75 => ?_
      refine RQ.clo hq75 e10 fun w176 hq76 hk76 => ?_
      refine RQ.clo hq76 e11 fun w177 hq77 hk77 => ?_
      exact last _ _ hq77
  · refine RQ.nw hq0 fun a w178 hq78 hk78 => ?_
    refine ⟨hk78, ?_⟩
    refine ⟨hk78, ?_⟩
    refine ⟨hk78, ?_⟩
    refine RQ.num hq78 e1 fun w179 hq79 hk79 => ?_
    refine ⟨hk79, ?_⟩
    refine ⟨hk79, ?_⟩
    refine RQ.num hq79 e2 fun w180 hq80 hk80 => ?_
    refine ⟨hk80, ?_⟩
    refine RQ.num hq80 e3 fun w181 hq81 hk81 => ?_
    refine RQ.clo hq81 e4 fun w182 hq82 hk82 => ?_
    refine RQ.clo hq82 e5 fun w183 hq83 hk83 => ?_
    refine RQ.clo hq83 e6 fun w184 hq84 hk84 => ?_
    refine RQ.clo hq84 e7 fun w185 hq85 hk85 => ?_
    refine RQ.clo hq85 e8 fun w186 hq86 hk86 => ?_
    refine RQ.clo hq86 e9 fun w187 hq87 hk87 => ?_
    refine RQ.clo hq87 e10 fun w188 hq88 hk88 => ?_
    refine RQ.clo hq88 e11 fun w189 hq89 hk89 => ?_
    exact last _ _ hq89
end Go.Proofs.YtoeedbljiocpdaaDoor
