/- WHAT EVERY PROGRAM ANSWERS THAT IS ONE: law2.awake is true. -/
import Derived.Test.YtnkpeojnbajooaaDoorNum
import Derived.Test.YtnkpeojnbajooaaDoorSha0
namespace Go.Ev
open Go Go.RowKit
/-- a block, some of it frozen -/
def Fz (w : World) (b : Nat) (cs : List Value) (t : TypeId) : Prop := ∃ fr, w.heap[b]? = some (.cells ⟨cs⟩ t fr)
def Res.fz (b : Nat) (cs : List Value) (t : TypeId) : Res where
  fp := [b]
  ok w := Fz w b cs t
  stab w w' h k := by obtain ⟨fr, k⟩ := k; exact ⟨fr, (h b (by simp)).trans k⟩
  lt w h c hc := by
    simp only [List.mem_singleton] at hc; subst hc
    obtain ⟨fr, h⟩ := h
    exact (Array.getElem?_eq_some_iff.1 h).1
theorem Fz.cell {w : World} {b : Nat} {cs : List Value} {t : TypeId} (h : Fz w b cs t) (i : Nat) : w.cell? ⟨b, i, none⟩ = cs[i]? := by
  obtain ⟨fr, h⟩ := h; simp [World.cell?, h]
theorem Fz.sl {w : World} {b : Nat} {cs : List Value} {t : TypeId} (h : Fz w b cs t) (sz n c : Nat) (hn : n * sz ≤ cs.length) (hc : n ≤ c) : Sl w ⟨some ⟨b, 0, none⟩, n, c⟩ sz (cs.take (n * sz)) := by
  refine ⟨by simp only [List.length_take]; omega, hc, fun _ => rfl, fun i v hv => ?_⟩
  show w.cell? (Addr.add ⟨b, 0, none⟩ i) = some v
  rw [ad1, h.cell]
  rw [List.getElem?_take] at hv
  split at hv
  · exact hv
  · cases hv
theorem Mine.strish {P : Program} {w0 w : World} {S : List Nat} {L : List Res} (H : Mine w0 S w L) (k : Nat) {b : Nat} {cs : List Value} {t : TypeId} {K : World → Prop} (hk : L[k]? = some (.blk b cs t)) (h : ∀ w', Mine w0 S w' (L.set k (.fz b cs t)) → K w') : strishK P (some ⟨b, 0, none⟩) w K := by
  have hb := H.blk k hk
  have hs : w.shape? b = some (t, cs.length) := by unfold Blk at hb; simp [World.shape?, hb]
  refine ⟨w.freeze ⟨b, cs.length, none⟩ 1, by simp [markStringish, hs], h _ ?_⟩
  refine H.upd (T := [b]) k hk ⟨rfl, rfl, rfl, by simp [World.freeze], fun j _ hj => ?_⟩ (fun c hc => .inl hc) ⟨(cs.length, cs.length + 1), ?_⟩ (fun c hc => .inl hc)
  · have hj : ¬ b = j := fun e => hj (by simp [e])
    simp [World.freeze, Array.getElem?_modify, hj]
  · unfold Blk at hb
    simp [World.freeze, Array.getElem?_modify, hb]
end Go.Ev
namespace Go.Proofs.YtnkpeojnbajooaaDoor
open Go Go.Ev
theorem gives_ready {rate : Nat} {suf : B8} {gives : Bool} {s : List B64 × Nat} (h : if gives then Gives rate s else Fits rate s) : Gives rate (ready rate suf gives s) := by
  cases gives with
  | true => exact h
  | false => exact ⟨(length_flip _ _ _).trans ((length_flip _ _ _).trans h.1), Nat.le_refl _⟩
theorem small1 {parts : SlV} {l : List B8} (hn : parts.n = 1) (hl : l.length ≤ 1000000) : Small parts [l] := ⟨by omega, fun m hm => by rw [List.mem_singleton.1 hm]; omega⟩
theorem law2_awake_ok (w : World) (hg : Laid w) : Ok Pr f_law2_awake [] w fun v w' => v = .bool true ∧ Mod [] w w' := by
  refine V_law2_awake_of ?_
  unfold V_law2_awake
  have h0 := hg.pos
  refine call_of (sponge_Sha256_ok ⟨none, 0, 0⟩ [] w (Parts.nil w []) ⟨by show 0 < 1000000; omega, fun l hl => by cases hl⟩) ?_
  rintro _ w1 ⟨y, rfl, hy, m1⟩
  have H := (Mine.start w).got m1 hy
  refine asSl_s (call_of (sponge_New_ok 136 6 rfl _) ?_)
  rintro _ w2 ⟨b, rfl, h2, hb, m2⟩
  have H := H.gotblk m2 h2 hb
  change Mine w [] w2 [.row t_uint8 1 y (u8s (spOut 136 6 [] 32)), spr b z25 136 0 6 false] at H
  refine asP_p (ite_false rfl (H.nw fun p w3 H hp => H.strish 2 rfl fun w4 H => H.nw fun p1 w5 H hp1 => ?_))
  let x1 : SlV := ⟨some ⟨p, 0, none⟩, 1, 1⟩
  change Mine w [] w5 [.row t_uint8 1 y (u8s (spOut 136 6 [] 32)), spr b z25 136 0 6 false, .fz p [.int .u8 97] t_uint8, .blk p1 [x1.v] t_s_uint8] at H
  have hx1 : Bytes w5 x1 [97] := Fz.sl (H.get 2 rfl) 1 1 1 (by simp) (by omega)
  have ho1 : off [b] x1 := fun _ a ha hc => by
    simp only [x1, Option.some.injEq] at ha
    subst ha
    exact H.apart 2 1 _ _ (by omega) rfl rfl p (by simp [Res.fz]) hc
  have hp5 : Parts w5 [b] ⟨some ⟨p1, 0, none⟩, 1, 1⟩ [[97]] := Parts.of1 (H.blk 3 rfl) (fun hc => H.apart 3 1 _ _ (by omega) rfl rfl p1 (by simp [Res.blk]) hc) hx1 ho1
  refine call_of (sponge_Write_ok (by omega) (s := (z25, 0)) ⟨rfl, by show 0 < 136; omega⟩ b ⟨some ⟨p1, 0, none⟩, 1, 1⟩ _ _ (H.blk 1 rfl) hp5 (small1 rfl (by simp))) ?_
  rintro _ w6 ⟨rfl, h6, m6⟩
  have hf : Fits 136 (absorb 136 (z25, 0) [[97]].flatten) := Fits.absorb _ ⟨rfl, by show 0 < 136; omega⟩
  have H := H.upd (r' := spr b _ 136 _ 6 false) 1 rfl m6 (fun c hc => .inl hc) h6 (fun c hc => .inl hc)
  generalize absorb 136 (z25, 0) [[97]].flatten = s1 at *
  refine call_of (sponge_Read_ok (by omega) (by omega) (gives := false) (s := s1) hf b 1 (by omega) (by omega) _ h6) ?_
  rintro _ w7 ⟨z, rfl, hz, h7, m7⟩
  have H := H.upd (r' := spr b _ 136 _ 6 true) 1 rfl m7 (fun c hc => .inl hc) h7 (fun c hc => .inl hc)
  have hzl := hz.bytes.len
  rw [length_squeeze] at hzl
  have hg7 : Gives 136 (squeeze 136 (ready 136 6 false s1) 1).2 := (gives_ready (gives := false) hf).squeeze (by omega) 1
  generalize squeeze 136 (ready 136 6 false s1) 1 = s2 at *
  refine asSl_s (H.nw fun q w8 H hq => H.strish 4 rfl fun w9 H => H.nw fun q1 w10 H hq1 => ?_)
  refine call_of (sponge_Write_over hg7.1 b ⟨some ⟨q1, 0, none⟩, 1, 1⟩ _ (H.blk 1 rfl)) ?_
  rintro _ w11 ⟨f, rfl, h11, hf11, m11⟩
  have H := H.gotblk m11 h11 hf11
  have hy := H.bytes 0 rfl
  have hyl := hy.len
  have e32 : spOut 136 6 [] 32 = refOut 136 6 [] 32 := spOut_nat 136 6 [] 32 (by omega) (by omega)
  have hl32 : (refOut 136 6 [] 32).length = 32 := length_refOut _ _ _ _
  rw [e32] at hy hyl
  obtain ⟨ha7, hff⟩ := sha00
  generalize refOut 136 6 [] 32 = L32 at hy hyl hl32 ha7 hff
  refine ite_true (by rw [← hyl, hl32]; rfl) (hy.ld (i := 0) (by omega) (ite_true (by rw [ha7]; rfl) (hy.ld (i := 1) (by omega) (ite_true (by rw [hff]; rfl) ?_))))
  refine ifn_nil (ite_true (by rw [← hzl]; rfl) ?_)
  refine call_of (law0_Num_ok f 5 S_sponge _ (hg.mine H (by simp)) h11 (by decide)) ?_
  rintro _ w12 ⟨rfl, m12⟩
  have H := H.frame m12
  refine asI_i (ite_true rfl (call_of (sponge_New_no 0 6 rfl _) ?_))
  rintro _ _ ⟨rfl, rfl⟩
  exact asP_p ⟨rfl, H.mod⟩
end Go.Proofs.YtnkpeojnbajooaaDoor
