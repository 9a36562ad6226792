/- THE SPONGE: in and out. -/
import Derived.Test.YtoeedbljiocpdaaDoorSp
namespace Go.Proofs.YtoeedbljiocpdaaDoor
open Go Go.Ev
/-- a byte goes in -/
def inB (rate : Nat) (s : List B64 × Nat) (x : B8) : List B64 × Nat := turn rate (flip s.1 s.2 x, s.2 + 1)
def absorb (rate : Nat) (s : List B64 × Nat) (l : List B8) : List B64 × Nat := l.foldl (inB rate) s
theorem absorb_append (rate : Nat) (s : List B64 × Nat) (a b : List B8) : absorb rate s (a ++ b) = absorb rate (absorb rate s a) b := List.foldl_append
/-- what is kept true of it -/
def Fits (rate : Nat) (s : List B64 × Nat) : Prop := s.1.length = 25 ∧ s.2 < rate
theorem Fits.inB {rate : Nat} {s : List B64 × Nat} (h : Fits rate s) (x : B8) : Fits rate (inB rate s x) := by
  unfold YtoeedbljiocpdaaDoor.inB turn
  split
  · exact ⟨length_perm _ ((length_flip _ _ _).trans h.1), Nat.lt_of_le_of_lt (Nat.zero_le _) h.2⟩
  · rename_i hn
    have := h.2
    exact ⟨(length_flip _ _ _).trans h.1, by dsimp only at hn ⊢; omega⟩
theorem Fits.absorb {rate : Nat} : ∀ (l : List B8) {s : List B64 × Nat}, Fits rate s → Fits rate (absorb rate s l)
  | [], _, h => h
  | x :: r, _, h => Fits.absorb r (h.inB x)
theorem take_succ_getD {A : Type} (l : List A) (i : Nat) (h : i < l.length) (d : A) : l.take (i + 1) = l.take i ++ [l.getD i d] := by
  rw [List.take_succ_eq_append_getElem h]
  simp [h]
theorem sponge_Write_ok {s : List B64 × Nat} {rate : Nat} {suf : B8} (hr : rate ≤ 192) (hs : Fits rate s) (b : Nat) (parts : SlV) (ls : List (List B8)) (w : World) (h : Sponge w b s.1 rate s.2 suf false) (hp : Parts w [b] parts ls)
    (hsmall : parts.n < 1000000 ∧ ∀ l ∈ ls, l.length < 1000000000) :
    Ok Pr f_sponge_Sponge_Write [.pointer (some ⟨b, 0, none⟩), .slice parts.a parts.n parts.c] w fun v w' => v = .nilIface ∧ Sponge w' b (absorb rate s ls.flatten).1 rate (absorb rate s ls.flatten).2 suf false ∧ Mod [b] w w' := by
  refine V_sponge_Sponge_Write_of ?_
  unfold V_sponge_Sponge_Write
  have H := Mine.start1 (r := spr b s.1 rate s.2 suf false) h
  refine ite_false rfl (nc (H.ldB 0 (i := 28) rfl (ad1 b 28) (spc_gives hs.1) (ite_false rfl ?_)))
  have hn := hp.len
  let st (j : Nat) := absorb rate s (ls.take j).flatten
  refine loop1_up 0 ls.length (fun j w' => Mine w [b] w' [spr b (st j).1 rate (st j).2 suf false]) rfl (by omega) H ?_ ?_
  · intro again j w3 _ hj H hag
    refine ite_true (by rw [hn]; simpa using hj) ?_
    refine (hp.mod H.mod).ld hj fun x hx hxo => ?_
    have hxl := hx.len
    have hxs : (ls.getD j []).length < 1000000000 := hsmall.2 _ (by simp [hj])
    have hst : Fits rate (st j) := hs.absorb _
    have H3 := Mine.start1 (r := spr b (st j).1 rate (st j).2 suf false) (H.blk 0 rfl)
    refine loop1_up 0 (ls.getD j []).length (fun i w' => Mine w3 [b] w' [spr b (absorb rate (st j) ((ls.getD j []).take i)).1 rate (absorb rate (st j) ((ls.getD j []).take i)).2 suf false]) rfl (by omega) H3 ?_ ?_
    · intro again i w4 _ hi H4 hag
      have hf : Fits rate (absorb rate (st j) ((ls.getD j []).take i)) := hst.absorb _
      have hx4 : Bytes w4 x (ls.getD j []) := hx.mod H4.mod hxo
      have hcur := H4.blk 0 rfl
      have hat := hf.2
      refine ite_true (by rw [← hxl]; simpa using hi) (hx4.ld hi (nc (H4.ldI 0 (i := 27) rfl (ad1 b 27) (spc_at hf.1) ?_)))
      refine call_of (sponge_flip_ok hf.1 b _ (by omega) _ _ hcur) ?_
      rintro _ w5 ⟨rfl, h5, m5⟩
      have H5 := H4.upd (r' := spr b _ rate _ suf false) 0 rfl m5 (fun c hc => .inl hc) h5 (fun c hc => .inl hc)
      have hl5 : (flip (absorb rate (st j) ((ls.getD j []).take i)).1 (absorb rate (st j) ((ls.getD j []).take i)).2 ((ls.getD j []).getD i 0)).length = 25 := (length_flip _ _ _).trans hf.1
      refine nc (H5.ldI 0 (i := 27) rfl (ad1 b 27) (spc_at hl5) ⟨⟨by omega, by omega⟩, nc (H5.st 0 (i := 27) rfl (ad1 b 27) (by rw [length_spc hl5]; omega) rfl fun w6 H6 => ?_)⟩)
      have h6 := H6.blk 0 rfl
      rw [show ((absorb rate (st j) ((ls.getD j []).take i)).2 : Int) + 1 = (((absorb rate (st j) ((ls.getD j []).take i)).2 + 1 : Nat) : Int) by omega, spc_set_at hl5] at h6
      refine call_of (sponge_turn_ok hl5 b _ h6) ?_
      rintro _ w7 ⟨rfl, h7, m7⟩
      refine ⟨⟨by omega, by omega⟩, hag w7 ?_⟩
      rw [take_succ_getD _ _ hi 0, absorb_append]
      exact H6.upd (r' := spr b _ rate _ suf false) 0 rfl m7 (fun c hc => .inl hc) h7 (fun c hc => .inl hc)
    · intro again w4 H4
      refine ite_false (by rw [← hxl]; simp) ⟨⟨by omega, by omega⟩, ?_⟩
      refine hag w4 ?_
      have e1 : st (j + 1) = absorb rate (st j) ((ls.getD j []).take (ls.getD j []).length) := by
        simp only [st]
        rw [take_succ_getD _ _ hj [], List.flatten_append, absorb_append, List.take_length]
        simp
      rw [e1]
      exact H.upd (r' := spr b _ rate _ suf false) 0 rfl H4.mod (fun c hc => .inl hc) (H4.blk 0 rfl) (fun c hc => .inl hc)
  · intro again w3 H
    have e : ls.take ls.length = ls := List.take_length
    refine ite_false (by rw [hn]; simp) ⟨rfl, ?_, H.mod⟩
    have := H.blk 0 rfl
    simp only [st, e] at this
    exact this

/-- an error of this layer -/
def IsFault (w w' : World) (v : Value) (c : Int) : Prop := ∃ b, v = .iface t_p_api_Fault (.pointer (some ⟨b, 0, none⟩)) ∧ Blk w' b [.int .i64 c, .string S_sponge] t_api_Fault ∧ w.heap.size ≤ b ∧ Mod [] w w'
theorem sponge_Write_over {ws : List B64} {rate at_ : Nat} {suf : B8} (hws : ws.length = 25) (b : Nat) (parts : SlV) (w : World) (h : Sponge w b ws rate at_ suf true) :
    Ok Pr f_sponge_Sponge_Write [.pointer (some ⟨b, 0, none⟩), .slice parts.a parts.n parts.c] w fun v w' => IsFault w w' v 5 := by
  refine V_sponge_Sponge_Write_of ?_
  unfold V_sponge_Sponge_Write
  have H := Mine.start1 (r := spr b ws rate at_ suf true) h
  exact ite_false rfl (nc (H.ldB 0 (i := 28) rfl (ad1 b 28) (spc_gives hws) (ite_true rfl (call_of (sponge_fault_ok 5 w) fun v w' h => h))))
theorem sponge_Write_nil (parts : SlV) (w : World) : Ok Pr f_sponge_Sponge_Write [.pointer none, .slice parts.a parts.n parts.c] w fun v w' => IsFault w w' v 1 := by
  refine V_sponge_Sponge_Write_of ?_
  unfold V_sponge_Sponge_Write
  exact ite_true rfl (call_of (sponge_fault_ok 1 w) fun v w' h => h)
/-- the byte at a place -/
def byteAt (s : List B64 × Nat) : B8 := (g s.1 (s.2 / 8) >>> (8 * (s.2 % 8))).setWidth 8
def outB (rate : Nat) (x : List B8 × (List B64 × Nat)) (_i : Nat) : List B8 × (List B64 × Nat) := (x.1 ++ [byteAt (turn rate x.2)], ((turn rate x.2).1, (turn rate x.2).2 + 1))
def squeeze (rate : Nat) (s : List B64 × Nat) (n : Nat) : List B8 × (List B64 × Nat) := up (outB rate) ([], s) n
theorem squeeze_succ (rate : Nat) (s : List B64 × Nat) (n : Nat) : squeeze rate s (n + 1) = outB rate (squeeze rate s n) n := up_succ _ _ _
/-- where it gives -/
def Gives (rate : Nat) (s : List B64 × Nat) : Prop := s.1.length = 25 ∧ s.2 ≤ rate
theorem Gives.turn {rate : Nat} (hr : 0 < rate) {s : List B64 × Nat} (h : Gives rate s) : Fits rate (turn rate s) := by
  unfold YtoeedbljiocpdaaDoor.turn
  split
  · exact ⟨length_perm _ h.1, hr⟩
  · rename_i hn
    have := h.2
    exact ⟨h.1, by omega⟩
theorem Gives.squeeze {rate : Nat} (hr : 0 < rate) {s : List B64 × Nat} (h : Gives rate s) (n : Nat) : Gives rate (squeeze rate s n).2 := by
  induction n with
  | zero => exact h
  | succ n ih =>
    rw [squeeze_succ]
    have := ih.turn hr
    exact ⟨this.1, this.2⟩
theorem length_squeeze (rate : Nat) (s : List B64 × Nat) (n : Nat) : (squeeze rate s n).1.length = n := by
  induction n with
  | zero => rfl
  | succ n ih => rw [squeeze_succ]; simp [outB, ih]
/-- the last bytes that go in -/
def close (rate : Nat) (suf : B8) (s : List B64 × Nat) : List B64 × Nat := (flip (flip s.1 s.2 suf) (rate - 1) 128, rate)
theorem sponge_Read_no (p : Option Addr) (n : Int) (hn : p = none ∨ n < 1 ∨ 1048576 < n) (w : World) : Ok Pr f_sponge_Sponge_Read [.pointer p, .int .i64 n] w fun v w' => v = .slice none 0 0 ∧ w' = w := by
  refine V_sponge_Sponge_Read_of ?_
  unfold V_sponge_Sponge_Read
  refine ite_true ?_ ⟨rfl, rfl⟩
  simp only [Bool.or_eq_true, decide_eq_true_eq]
  rcases hn with rfl | h | h
  · exact .inl (.inl rfl)
  · exact .inl (.inr h)
  · exact .inr h
/-- what a reading is begun with -/
def ready (rate : Nat) (suf : B8) (gives : Bool) (s : List B64 × Nat) : List B64 × Nat := if gives then s else close rate suf s
theorem zrow_bytes (n : Nat) : (zeroRow n (zc Pr t_uint8)).take (0 * 1) = u8s [] := by simp [u8s]
theorem sponge_Read_ok {s : List B64 × Nat} {rate : Nat} {suf : B8} {gives : Bool} (hr0 : 8 ≤ rate) (hr : rate ≤ 192) (hs : if gives then Gives rate s else Fits rate s) (b : Nat) (n : Nat) (hn : 1 ≤ n) (hn' : n ≤ 1048576) (w : World) (h : Sponge w b s.1 rate s.2 suf gives) :
    Ok Pr f_sponge_Sponge_Read [.pointer (some ⟨b, 0, none⟩), .int .i64 (n : Int)] w fun v w' => ∃ x : SlV, v = .slice x.a x.n x.c ∧ Own w' w.heap.size t_uint8 1 x (u8s (squeeze rate (ready rate suf gives s) n).1) ∧
      Sponge w' b (squeeze rate (ready rate suf gives s) n).2.1 rate (squeeze rate (ready rate suf gives s) n).2.2 suf true ∧ Mod [b] w w' := by
  refine V_sponge_Sponge_Read_of ?_
  unfold V_sponge_Sponge_Read
  refine ite_false (by simp; omega) (join0_of fun go hgo => ?_)
  have H := Mine.start1 (r := spr b s.1 rate s.2 suf gives) h
  -- the giving
  have give : ∀ (s' : List B64 × Nat) (w1 : World), s' = ready rate suf gives s → Gives rate s' → Mine w [b] w1 [spr b s'.1 rate s'.2 suf true] → go w1 := by
    rintro s' w1 rfl hg H
    refine hgo w1 ?_
    refine H.mkS (l := 0) (c := n) elt_u8 rfl rfl (Nat.zero_le _) (by omega) (by omega) fun c w2 H hc => ?_
    rw [zrow_bytes] at H
    generalize ready rate suf gives s = r at *
    refine loop2_up 0 n (fun i x w' => Mine w [b] w' [spr b (squeeze rate r i).2.1 rate (squeeze rate r i).2.2 suf true, .row t_uint8 1 x (u8s (squeeze rate r i).1)] ∧ x.n = i) rfl (by omega) ⟨H, rfl⟩ ?_ ?_
    · rintro again i x w3 _ hi ⟨H, hx⟩ hag
      have hq := hg.squeeze (by omega) i
      have hf := hq.turn (by omega)
      have hfa := hf.2
      refine ite_true (by simp; omega) (call_of (sponge_turn_ok hq.1 b _ (H.blk 0 rfl)) ?_)
      rintro _ w4 ⟨rfl, h4, m4⟩
      have H4 := (H.upd (r' := spr b _ rate _ suf true) 0 rfl m4 (fun c hc => .inl hc) h4 (fun c hc => .inl hc)).drew
      change Mine w [b] _ [spr b (turn rate (squeeze rate r i).2).1 rate (turn rate (squeeze rate r i).2).2 suf true, .row t_uint8 1 x (u8s (squeeze rate r i).1)] at H4
      refine nc (H4.ldI 0 (i := 27) rfl (ad1 b 27) (spc_at hf.1) ⟨⟨by omega, by rw [maxi64]; omega⟩, nc ⟨⟨by omega, by omega⟩, ?_⟩⟩)
      refine H4.ldI 0 (i := (turn rate (squeeze rate r i).2).2 / 8) rfl (ad0 b ((turn rate (squeeze rate r i).2).2 / 8)) (spc_word hf.1 _ (by omega)) (nc (H4.ldI 0 (i := 27) rfl (ad1 b 27) (spc_at hf.1) ⟨by omega, ⟨by omega, by omega⟩, ?_⟩))
      refine cnt_of (by omega) ?_
      rw [show ((8 : Int) * (((turn rate (squeeze rate r i).2).2 : Int) % 8)) = ((8 * ((turn rate (squeeze rate r i).2).2 % 8) : Nat) : Int) by omega, shr64, low8]
      refine H4.app1 1 elt_u8 rfl rfl (by simp [isOne]) (by omega) (by omega) fun x' w6 H6 hx' => ?_
      change Mine w [b] _ [spr b (turn rate (squeeze rate r i).2).1 rate (turn rate (squeeze rate r i).2).2 suf true, .row t_uint8 1 x' (u8s (squeeze rate r i).1 ++ [u8 (byteAt (turn rate (squeeze rate r i).2))])] at H6
      refine nc (H6.ldI 0 (i := 27) rfl (ad1 b 27) (spc_at hf.1) ⟨⟨by omega, by omega⟩, nc (H6.st 0 (i := 27) rfl (ad1 b 27) (by rw [length_spc hf.1]; omega) rfl fun w7 H7 => ⟨⟨by omega, by omega⟩, ?_⟩)⟩)
      refine hag x' w7 ⟨?_, by omega⟩
      rw [show ((turn rate (squeeze rate r i).2).2 : Int) + 1 = (((turn rate (squeeze rate r i).2).2 + 1 : Nat) : Int) by omega, spc_set_at hf.1] at H7
      rw [squeeze_succ]
      have e : u8s (outB rate (squeeze rate r i) i).1 = u8s (squeeze rate r i).1 ++ [u8 (byteAt (turn rate (squeeze rate r i).2))] := by
        unfold outB; rw [u8s_append]; rfl
      rw [e]
      exact H7
    · rintro again x w3 ⟨H, hx⟩
      refine ite_false (by simp) ⟨x, rfl, H.fresh 1 rfl ?_, H.blk 0 rfl, H.mod⟩
      intro c hc hcS
      exact H.apart 1 0 _ _ (by omega) rfl rfl c hc (by simpa [Res.blk] using hcS)
  refine nc (H.ldB 0 (i := 28) rfl (ad1 b 28) (spc_gives (by cases gives <;> exact hs.1)) ?_)
  cases gives with
  | true => exact ite_false rfl (give s w rfl hs H)
  | false =>
    have hs : Fits rate s := hs
    have hsa := hs.2
    have H := H.drew
    refine ite_true rfl (nc (H.ldI 0 (i := 27) rfl (ad1 b 27) (spc_at hs.1) (nc (H.ldI 0 (i := 26) rfl (ad1 b 26) (spc_suf hs.1) (call_of (sponge_flip_ok hs.1 b _ (by omega) _ _ (H.blk 0 rfl)) ?_)))))
    rintro _ w3 ⟨rfl, h3, m3⟩
    have H3 := H.upd (r' := spr b _ rate _ suf false) 0 rfl m3 (fun c hc => .inl hc) h3 (fun c hc => .inl hc)
    have l3 : (flip s.1 s.2 suf).length = 25 := (length_flip _ _ _).trans hs.1
    refine nc (H3.ldI 0 (i := 25) rfl (ad1 b 25) (spc_rate l3) ⟨⟨by omega, by omega⟩, ?_⟩)
    rw [show ((rate : Int) - 1) = ((rate - 1 : Nat) : Int) by omega]
    refine call_of (sponge_flip_ok l3 b (rate - 1) (by omega) 128 _ h3) ?_
    rintro _ w4 ⟨rfl, h4, m4⟩
    have H4 := H3.upd (r' := spr b _ rate _ suf false) 0 rfl m4 (fun c hc => .inl hc) h4 (fun c hc => .inl hc)
    have l4 : (flip (flip s.1 s.2 suf) (rate - 1) 128).length = 25 := (length_flip _ _ _).trans l3
    refine nc (H4.ldI 0 (i := 25) rfl (ad1 b 25) (spc_rate l4) (nc (H4.st 0 (i := 28) rfl (ad1 b 28) (by rw [length_spc l4]; omega) rfl fun w5 H5 => ?_)))
    rw [spc_set_gives l4] at H5
    refine nc (H5.st 0 (i := 27) rfl (ad1 b 27) (by show 27 < (spc _ _ _ _ _).length; rw [length_spc l4]; omega) rfl fun w6 H6 => ?_)
    refine give (close rate suf s) w6 rfl ⟨l4, Nat.le_refl _⟩ ?_
    rw [spc_set_at l4] at H6
    exact H6
end Go.Proofs.YtoeedbljiocpdaaDoor
