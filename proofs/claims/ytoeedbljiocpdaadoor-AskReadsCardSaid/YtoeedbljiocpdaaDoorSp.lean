/- THE SPONGE: what each function computes. -/
import Derived.Test.YtoeedbljiocpdaaDoorKec3
import Derived.Test.YtoeedbljiocpdaaDoorRow
namespace Go.Proofs.YtoeedbljiocpdaaDoor
open Go Go.Ev
theorem elt_u8 : Elt Pr t_s_uint8 t_uint8 1 1 := Elt.of (by kernel_rfl)
theorem maxi64 : IntKind.max .i64 = 9223372036854775807 := by decide
def tail4 (rate at_ : Nat) (suf : B8) (gives : Bool) : List Value := [.int .i64 (rate : Int), .int .u8 (suf.toNat : Int), .int .i64 (at_ : Int), .bool gives]
/-- the cells of a sponge -/
def spc (ws : List B64) (rate at_ : Nat) (suf : B8) (gives : Bool) : List Value := u64s ws ++ tail4 rate at_ suf gives
def flip (ws : List B64) (i : Nat) (b : B8) : List B64 := ws.set (i / 8) (g ws (i / 8) ^^^ (b.setWidth 64 <<< (8 * (i % 8))))
theorem length_flip (ws : List B64) (i : Nat) (b : B8) : (flip ws i b).length = ws.length := by simp [flip]
theorem ad0 (b i : Nat) : Addr.add (Addr.add ⟨b, 0, none⟩ 0) (i * 1) = ⟨b, i, none⟩ := by rw [add_mk, ad]
theorem ad00 (b : Nat) : Addr.add ⟨b, 0, none⟩ 0 = ⟨b, 0, none⟩ := add_mk _ _ _
section
variable {ws : List B64} {rate at_ : Nat} {suf : B8} {gives : Bool}
theorem spc_word (hws : ws.length = 25) (i : Nat) (hi : i < 25) : (spc ws rate at_ suf gives)[i]? = some (.int .u64 ((g ws i).toNat : Int)) := by
  unfold spc
  rw [List.getElem?_append_left (by simp; omega)]
  exact u64s_get ws i (by omega)
theorem spc_rate (hws : ws.length = 25) : (spc ws rate at_ suf gives)[25]? = some (.int .i64 (rate : Int)) := by
  unfold spc; rw [List.getElem?_append_right (by simp; omega), length_u64s, hws]; rfl
theorem spc_suf (hws : ws.length = 25) : (spc ws rate at_ suf gives)[26]? = some (.int .u8 (suf.toNat : Int)) := by
  unfold spc; rw [List.getElem?_append_right (by simp; omega), length_u64s, hws]; rfl
theorem spc_at (hws : ws.length = 25) : (spc ws rate at_ suf gives)[27]? = some (.int .i64 (at_ : Int)) := by
  unfold spc; rw [List.getElem?_append_right (by simp; omega), length_u64s, hws]; rfl
theorem spc_gives (hws : ws.length = 25) : (spc ws rate at_ suf gives)[28]? = some (.bool gives) := by
  unfold spc; rw [List.getElem?_append_right (by simp; omega), length_u64s, hws]; rfl
theorem length_spc (hws : ws.length = 25) : (spc ws rate at_ suf gives).length = 29 := by simp [spc, tail4, hws]
theorem spc_set_at (hws : ws.length = 25) (n : Nat) : (spc ws rate at_ suf gives).set 27 (.int .i64 (n : Int)) = spc ws rate n suf gives := by
  unfold spc; rw [List.set_append_right _ _ (by simp; omega), length_u64s, hws]; rfl
theorem spc_set_gives (hws : ws.length = 25) (b : Bool) : (spc ws rate at_ suf gives).set 28 (.bool b) = spc ws rate at_ suf b := by
  unfold spc; rw [List.set_append_right _ _ (by simp; omega), length_u64s, hws]; rfl
theorem spc_set_word (hws : ws.length = 25) (i : Nat) (x : B64) (hi : i < 25) : (spc ws rate at_ suf gives).set i (.int .u64 (x.toNat : Int)) = spc (ws.set i x) rate at_ suf gives := by
  unfold spc; rw [List.set_append_left _ _ (by simp; omega), ← u64s_set]; rfl
theorem spc_take (hws : ws.length = 25) : (spc ws rate at_ suf gives).take 25 = u64s ws := by
  unfold spc; rw [List.take_append_of_le_length (by simp; omega), List.take_of_length_le (by simp; omega)]
theorem spc_drop (hws : ws.length = 25) : (spc ws rate at_ suf gives).drop 25 = tail4 rate at_ suf gives := by
  unfold spc; rw [List.drop_append_of_le_length (by simp; omega), List.drop_of_length_le (by simp; omega), List.nil_append]
end
abbrev Sponge (w : World) (b : Nat) (ws : List B64) (rate at_ : Nat) (suf : B8) (gives : Bool) : Prop := Blk w b (spc ws rate at_ suf gives) t_sponge_Sponge
abbrev spr (b : Nat) (ws : List B64) (rate at_ : Nat) (suf : B8) (gives : Bool) : Res := .blk b (spc ws rate at_ suf gives) t_sponge_Sponge

theorem sponge_fault_ok (c : Int) (w : World) : Ok Pr f_sponge_fault [.int .i64 c] w fun v w' => ∃ b, v = .iface t_p_api_Fault (.pointer (some ⟨b, 0, none⟩)) ∧ Blk w' b [.int .i64 c, .string S_sponge] t_api_Fault ∧ w.heap.size ≤ b ∧ Mod [] w w' := by
  refine V_sponge_fault_of ?_
  unfold V_sponge_fault
  exact nw_blk fun b w' hb h1 h2 _ => ⟨b, rfl, h1, by omega, h2⟩
def mayBe (rate : Int) (suf : B8) : Bool := decide (8 ≤ rate) && decide (rate ≤ 192) && decide (rate % 8 = 0) && decide (1 ≤ (suf.toNat : Int)) && decide ((suf.toNat : Int) ≤ 127)
theorem tmod8 (x : Int) : decide (Int.tmod x 8 = 0) = decide (x % 8 = 0) := by
  have : Int.tmod x 8 = 0 ↔ x % 8 = 0 := by rw [← Int.dvd_iff_tmod_eq_zero, Int.dvd_iff_emod_eq_zero]
  simp only [this]
theorem sponge_New_no (rate : Int) (suf : B8) (h : mayBe rate suf = false) (w : World) : Ok Pr f_sponge_New [.int .i64 rate, .int .u8 (suf.toNat : Int)] w fun v w' => v = .pointer none ∧ w' = w := by
  refine V_sponge_New_of ?_
  unfold V_sponge_New
  rw [tmod8]
  refine ite_true ?_ ⟨rfl, rfl⟩
  unfold mayBe at h
  simp only [Bool.and_eq_false_iff, decide_eq_false_iff_not] at h
  simp only [Bool.or_eq_true, decide_eq_true_eq, Bool.not_eq_true', decide_eq_false_iff_not]
  omega
theorem sponge_New_ok (rate : Nat) (suf : B8) (h : mayBe rate suf = true) (w : World) : Ok Pr f_sponge_New [.int .i64 (rate : Int), .int .u8 (suf.toNat : Int)] w fun v w' => ∃ b, v = .pointer (some ⟨b, 0, none⟩) ∧ Sponge w' b z25 rate 0 suf false ∧ w.heap.size ≤ b ∧ Mod [] w w' := by
  refine V_sponge_New_of ?_
  unfold V_sponge_New
  rw [tmod8]
  refine ite_false ?_ (nw_blk fun b w' hb h1 h2 _ => ⟨b, rfl, h1, by omega, h2⟩)
  unfold mayBe at h
  simp only [Bool.and_eq_true, decide_eq_true_eq] at h
  simp only [Bool.or_eq_false_iff, decide_eq_false_iff_not, Bool.not_eq_false', decide_eq_true_eq]
  omega
theorem sponge_flip_ok {ws : List B64} {rate at_ : Nat} {suf : B8} {gives : Bool} (hws : ws.length = 25) (b i : Nat) (hi : i < 200) (x : B8) (w : World) (h : Sponge w b ws rate at_ suf gives) :
    Ok Pr f_sponge_Sponge_flip [.pointer (some ⟨b, 0, none⟩), .int .i64 (i : Int), .int .u8 (x.toNat : Int)] w fun v w' => v = .tuple ⟨[]⟩ ∧ Sponge w' b (flip ws i x) rate at_ suf gives ∧ Mod [b] w w' := by
  refine V_sponge_Sponge_flip_of ?_
  unfold V_sponge_Sponge_flip
  have H := Mine.start1 (r := spr b ws rate at_ suf gives) h
  refine ⟨⟨by omega, by rw [maxi64]; omega⟩, ⟨by omega, by omega⟩, H.drew.ldI 0 (i := i / 8) rfl (ad0 b (i / 8)) (spc_word hws _ (by omega)) ⟨by omega, ⟨by omega, by omega⟩, ?_⟩⟩
  refine ⟨⟨by omega, by omega⟩, H.drew.st 0 (i := i / 8) rfl (ad0 b (i / 8)) (by rw [length_spc hws]; omega) rfl fun w1 H => ⟨rfl, ?_, H.mod⟩⟩
  have H := H.blk 0 rfl
  rw [up64, show ((8 : Int) * ((i : Int) % 8)) = ((8 * (i % 8) : Nat) : Int) by omega, shl64, xor64, spc_set_word hws _ _ (by omega)] at H
  exact H
/-- when the rate is reached -/
def turn (rate : Nat) (s : List B64 × Nat) : List B64 × Nat := if s.2 = rate then (perm s.1, 0) else s
theorem length_turn {rate : Nat} {s : List B64 × Nat} (h : s.1.length = 25) : (turn rate s).1.length = 25 := by
  unfold turn; split
  · exact length_perm _ h
  · exact h
theorem sponge_turn_ok {ws : List B64} {rate at_ : Nat} {suf : B8} {gives : Bool} (hws : ws.length = 25) (b : Nat) (w : World) (h : Sponge w b ws rate at_ suf gives) :
    Ok Pr f_sponge_Sponge_turn [.pointer (some ⟨b, 0, none⟩)] w fun v w' => v = .tuple ⟨[]⟩ ∧ Sponge w' b (turn rate (ws, at_)).1 rate (turn rate (ws, at_)).2 suf gives ∧ Mod [b] w w' := by
  refine V_sponge_Sponge_turn_of ?_
  unfold V_sponge_Sponge_turn
  have H := (Mine.start1 (r := spr b ws rate at_ suf gives) h).drew
  refine H.ldI 0 (i := 27) rfl (ad1 b 27) (spc_at hws) (H.ldI 0 (i := 25) rfl (ad1 b 25) (spc_rate hws) (ite_intro (fun h1 => ?_) (fun h1 => ?_)))
  · have h2 : at_ = rate := by have := of_decide_eq_true h1; omega
    rw [turn, if_pos h2]
    refine H.ldAp 0 rfl (ad00 b) (by rw [length_spc hws]; omega) ?_
    rw [spc_take hws]
    refine call_of (keccak_Permute_ok ws hws _) ?_
    rintro _ w1 ⟨rfl, m⟩
    have H := H.frame m
    refine asArr_u64s (nc (H.stAp 0 rfl (ad00 b) (by rw [length_u64s, length_perm ws hws]) (by rw [length_spc hws]; omega) (ones_u64s _) fun w2 H => ?_))
    rw [spc_drop hws] at H
    refine Mine.st (L := [spr b (perm ws) rate at_ suf gives]) H 0 (i := 27) rfl (ad1 b 27) (by rw [length_spc (length_perm ws hws)]; omega) rfl fun w3 H => ⟨rfl, ?_, H.mod⟩
    have H := H.blk 0 rfl
    rw [show (.int .i64 (0 : Int) : Value) = .int .i64 ((0 : Nat) : Int) from rfl, spc_set_at (length_perm ws hws)] at H
    exact H
  · have h2 : ¬ at_ = rate := by have := of_decide_eq_false h1; omega
    rw [turn, if_neg h2]
    exact ⟨rfl, H.blk 0 rfl, H.mod⟩
end Go.Proofs.YtoeedbljiocpdaaDoor
