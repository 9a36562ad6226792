/- STRUCTS IN CELLS: how they are read and written: printed by a program of this claim's author (vc.py). -/
import Derived.Test.YtoeedbljiocpdaaDoorVC
import Derived.Test.YtoeedbljiocpdaaDoorRow
namespace Go.Ev
open Go Go.RowKit
set_option linter.unusedVariables false
theorem Mine.ldS {w0 w : World} {S : List Nat} {L : List Res} (H : Mine w0 S w L) (k : Nat) {b i : Nat} {a : Addr} {n : ByteArray} {cs : List Value} {t : TypeId} {K : ByteArray → Prop} (hk : L[k]? = some (.blk b cs t)) (ha : a = ⟨b, i, none⟩) (hv : cs[i]? = some (.string n)) (h : K n) : ldS a w K :=
  ⟨n, H.cell k hk ha hv, h⟩
theorem Mine.ldV {w0 w : World} {S : List Nat} {L : List Res} (H : Mine w0 S w L) (k : Nat) {b i : Nat} {a : Addr} {n : Value} {cs : List Value} {t : TypeId} {K : Value → Prop} (hk : L[k]? = some (.blk b cs t)) (ha : a = ⟨b, i, none⟩) (hv : cs[i]? = some n) (h : K n) : ldV a w K :=
  ⟨n, H.cell k hk ha hv, h⟩
end Go.Ev
namespace Go.Proofs.YtoeedbljiocpdaaDoor
open Go Go.Ev
set_option linter.unusedVariables false
set_option linter.unusedSimpArgs false
@[reducible] def cs_api_Ask (c0 : Int) (c1 : Int) (c2 : Int) (c3 : Int) (c4 : Int) (c5 : Int) (c6 : Int) (c7 : Int) (c8 : Int) (c9 : Int) (c10 : Int) (c11 : ByteArray) (c12 : SlV) (c13 : SlV) : List Value := [.int .i64 c0, .int .i64 c1, .int .i64 c2, .int .i64 c3, .int .i64 c4, .int .i64 c5, .int .i64 c6, .int .i64 c7, .int .i64 c8, .int .i64 c9, .int .i64 c10, .string c11, .slice c12.a c12.n c12.c, .slice c13.a c13.n c13.c]
theorem ld_api_Ask_of {a : Addr} {w : World} {c0 : Int} {c1 : Int} {c2 : Int} {c3 : Int} {c4 : Int} {c5 : Int} {c6 : Int} {c7 : Int} {c8 : Int} {c9 : Int} {c10 : Int} {c11 : ByteArray} {c12 : SlV} {c13 : SlV} {K : Int → Int → Int → Int → Int → Int → Int → Int → Int → Int → Int → ByteArray → SlV → SlV → Prop} (h : ∀ (i : Nat) (v : Value), (cs_api_Ask c0 c1 c2 c3 c4 c5 c6 c7 c8 c9 c10 c11 c12 c13)[i]? = some v → w.cell? (Addr.add a i) = some v) (hK : K c0 c1 c2 c3 c4 c5 c6 c7 c8 c9 c10 c11 c12 c13) : ld_api_Ask a w K :=
  ⟨_, h 0 _ rfl, ⟨_, h 1 _ rfl, ⟨_, h 2 _ rfl, ⟨_, h 3 _ rfl, ⟨_, h 4 _ rfl, ⟨_, h 5 _ rfl, ⟨_, h 6 _ rfl, ⟨_, h 7 _ rfl, ⟨_, h 8 _ rfl, ⟨_, h 9 _ rfl, ⟨_, h 10 _ rfl, ⟨_, h 11 _ rfl, ⟨c12, h 12 _ rfl, ⟨c13, h 13 _ rfl, hK⟩⟩⟩⟩⟩⟩⟩⟩⟩⟩⟩⟩⟩⟩
theorem _root_.Go.Ev.Mine.ld_api_Ask {w0 w : World} {S : List Nat} {L : List Res} (H : Mine w0 S w L) (k : Nat) {b : Nat} {t : TypeId} {c0 : Int} {c1 : Int} {c2 : Int} {c3 : Int} {c4 : Int} {c5 : Int} {c6 : Int} {c7 : Int} {c8 : Int} {c9 : Int} {c10 : Int} {c11 : ByteArray} {c12 : SlV} {c13 : SlV} {K : Int → Int → Int → Int → Int → Int → Int → Int → Int → Int → Int → ByteArray → SlV → SlV → Prop} (hk : L[k]? = some (.blk b (cs_api_Ask c0 c1 c2 c3 c4 c5 c6 c7 c8 c9 c10 c11 c12 c13) t)) (hK : K c0 c1 c2 c3 c4 c5 c6 c7 c8 c9 c10 c11 c12 c13) : ld_api_Ask ⟨b, 0, none⟩ w K :=
  ld_api_Ask_of (fun i v hv => H.cell k hk (ad1 b i) hv) hK
theorem _root_.Go.Ev.Mine.sT_api_Ask {w0 w : World} {S : List Nat} {L : List Res} (H : Mine w0 S w L) (k : Nat) {b : Nat} {t : TypeId} {cs : List Value} {c0 : Int} {c1 : Int} {c2 : Int} {c3 : Int} {c4 : Int} {c5 : Int} {c6 : Int} {c7 : Int} {c8 : Int} {c9 : Int} {c10 : Int} {c11 : ByteArray} {c12 : SlV} {c13 : SlV} {K : World → Prop} (hk : L[k]? = some (.blk b cs t)) (hl : cs.length = 14) (h : ∀ w', Mine w0 S w' (L.set k (.blk b (cs_api_Ask c0 c1 c2 c3 c4 c5 c6 c7 c8 c9 c10 c11 c12 c13) t)) → K w') : sT_api_Ask ⟨b, 0, none⟩ c0 c1 c2 c3 c4 c5 c6 c7 c8 c9 c10 c11 c12 c13 w K := by
  have hkl : k < L.length := (List.getElem?_eq_some_iff.1 hk).1
  obtain ⟨u0, u1, u2, u3, u4, u5, u6, u7, u8, u9, u10, u11, u12, u13, rfl⟩ : ∃ u0 u1 u2 u3 u4 u5 u6 u7 u8 u9 u10 u11 u12 u13, cs = [u0, u1, u2, u3, u4, u5, u6, u7, u8, u9, u10, u11, u12, u13] := by
    match cs, hl with
    | [u0, u1, u2, u3, u4, u5, u6, u7, u8, u9, u10, u11, u12, u13], _ => exact ⟨u0, u1, u2, u3, u4, u5, u6, u7, u8, u9, u10, u11, u12, u13, rfl⟩
  refine H.st k hk (ad1 b 0) (by simp) rfl fun w0 H0 => ?_
  simp only [List.set_set, List.set_cons_zero, List.set_cons_succ] at H0
  refine H0.st k (List.getElem?_set_self hkl) (ad1 b 1) (by simp) rfl fun w1 H1 => ?_
  simp only [List.set_set, List.set_cons_zero, List.set_cons_succ] at H1
  refine H1.st k (List.getElem?_set_self hkl) (ad1 b 2) (by simp) rfl fun w2 H2 => ?_
  simp only [List.set_set, List.set_cons_zero, List.set_cons_succ] at H2
  refine H2.st k (List.getElem?_set_self hkl) (ad1 b 3) (by simp) rfl fun w3 H3 => ?_
  simp only [List.set_set, List.set_cons_zero, List.set_cons_succ] at H3
  refine H3.st k (List.getElem?_set_self hkl) (ad1 b 4) (by simp) rfl fun w4 H4 => ?_
  simp only [List.set_set, List.set_cons_zero, List.set_cons_succ] at H4
  refine H4.st k (List.getElem?_set_self hkl) (ad1 b 5) (by simp) rfl fun w5 H5 => ?_
  simp only [List.set_set, List.set_cons_zero, List.set_cons_succ] at H5
  refine H5.st k (List.getElem?_set_self hkl) (ad1 b 6) (by simp) rfl fun w6 H6 => ?_
  simp only [List.set_set, List.set_cons_zero, List.set_cons_succ] at H6
  refine H6.st k (List.getElem?_set_self hkl) (ad1 b 7) (by simp) rfl fun w7 H7 => ?_
  simp only [List.set_set, List.set_cons_zero, List.set_cons_succ] at H7
  refine H7.st k (List.getElem?_set_self hkl) (ad1 b 8) (by simp) rfl fun w8 H8 => ?_
  simp only [List.set_set, List.set_cons_zero, List.set_cons_succ] at H8
  refine H8.st k (List.getElem?_set_self hkl) (ad1 b 9) (by simp) rfl fun w9 H9 => ?_
  simp only [List.set_set, List.set_cons_zero, List.set_cons_succ] at H9
  refine H9.st k (List.getElem?_set_self hkl) (ad1 b 10) (by simp) rfl fun w10 H10 => ?_
  simp only [List.set_set, List.set_cons_zero, List.set_cons_succ] at H10
  refine H10.st k (List.getElem?_set_self hkl) (ad1 b 11) (by simp) rfl fun w11 H11 => ?_
  simp only [List.set_set, List.set_cons_zero, List.set_cons_succ] at H11
  refine H11.st k (List.getElem?_set_self hkl) (ad1 b 12) (by simp) rfl fun w12 H12 => ?_
  simp only [List.set_set, List.set_cons_zero, List.set_cons_succ] at H12
  refine H12.st k (List.getElem?_set_self hkl) (ad1 b 13) (by simp) rfl fun w13 H13 => ?_
  simp only [List.set_set, List.set_cons_zero, List.set_cons_succ] at H13
  exact h _ H13
theorem as_api_Ask_of {c0 : Int} {c1 : Int} {c2 : Int} {c3 : Int} {c4 : Int} {c5 : Int} {c6 : Int} {c7 : Int} {c8 : Int} {c9 : Int} {c10 : Int} {c11 : ByteArray} {c12 : SlV} {c13 : SlV} {K : Int → Int → Int → Int → Int → Int → Int → Int → Int → Int → Int → ByteArray → SlV → SlV → Prop} (hK : K c0 c1 c2 c3 c4 c5 c6 c7 c8 c9 c10 c11 c12 c13) : as_api_Ask (.agg ⟨cs_api_Ask c0 c1 c2 c3 c4 c5 c6 c7 c8 c9 c10 c11 c12 c13⟩) K :=
  ⟨_, rfl, c0, rfl, c1, rfl, c2, rfl, c3, rfl, c4, rfl, c5, rfl, c6, rfl, c7, rfl, c8, rfl, c9, rfl, c10, rfl, c11, rfl, c12, rfl, c13, rfl, rfl, hK⟩
@[reducible] def cs_api_Grant (c0 : Int) (c1 : Int) (c2 : Int) (c3 : Int) (c4 : Int) (c5 : Bool) : List Value := [.int .i64 c0, .int .i64 c1, .int .i64 c2, .int .i64 c3, .int .i64 c4, .bool c5]
theorem ld_api_Grant_of {a : Addr} {w : World} {c0 : Int} {c1 : Int} {c2 : Int} {c3 : Int} {c4 : Int} {c5 : Bool} {K : Int → Int → Int → Int → Int → Bool → Prop} (h : ∀ (i : Nat) (v : Value), (cs_api_Grant c0 c1 c2 c3 c4 c5)[i]? = some v → w.cell? (Addr.add a i) = some v) (hK : K c0 c1 c2 c3 c4 c5) : ld_api_Grant a w K :=
  ⟨_, h 0 _ rfl, ⟨_, h 1 _ rfl, ⟨_, h 2 _ rfl, ⟨_, h 3 _ rfl, ⟨_, h 4 _ rfl, ⟨_, h 5 _ rfl, hK⟩⟩⟩⟩⟩⟩
theorem _root_.Go.Ev.Mine.ld_api_Grant {w0 w : World} {S : List Nat} {L : List Res} (H : Mine w0 S w L) (k : Nat) {b : Nat} {t : TypeId} {c0 : Int} {c1 : Int} {c2 : Int} {c3 : Int} {c4 : Int} {c5 : Bool} {K : Int → Int → Int → Int → Int → Bool → Prop} (hk : L[k]? = some (.blk b (cs_api_Grant c0 c1 c2 c3 c4 c5) t)) (hK : K c0 c1 c2 c3 c4 c5) : ld_api_Grant ⟨b, 0, none⟩ w K :=
  ld_api_Grant_of (fun i v hv => H.cell k hk (ad1 b i) hv) hK
theorem _root_.Go.Ev.Mine.sT_api_Grant {w0 w : World} {S : List Nat} {L : List Res} (H : Mine w0 S w L) (k : Nat) {b : Nat} {t : TypeId} {cs : List Value} {c0 : Int} {c1 : Int} {c2 : Int} {c3 : Int} {c4 : Int} {c5 : Bool} {K : World → Prop} (hk : L[k]? = some (.blk b cs t)) (hl : cs.length = 6) (h : ∀ w', Mine w0 S w' (L.set k (.blk b (cs_api_Grant c0 c1 c2 c3 c4 c5) t)) → K w') : sT_api_Grant ⟨b, 0, none⟩ c0 c1 c2 c3 c4 c5 w K := by
  have hkl : k < L.length := (List.getElem?_eq_some_iff.1 hk).1
  obtain ⟨u0, u1, u2, u3, u4, u5, rfl⟩ : ∃ u0 u1 u2 u3 u4 u5, cs = [u0, u1, u2, u3, u4, u5] := by
    match cs, hl with
    | [u0, u1, u2, u3, u4, u5], _ => exact ⟨u0, u1, u2, u3, u4, u5, rfl⟩
  refine H.st k hk (ad1 b 0) (by simp) rfl fun w0 H0 => ?_
  simp only [List.set_set, List.set_cons_zero, List.set_cons_succ] at H0
  refine H0.st k (List.getElem?_set_self hkl) (ad1 b 1) (by simp) rfl fun w1 H1 => ?_
  simp only [List.set_set, List.set_cons_zero, List.set_cons_succ] at H1
  refine H1.st k (List.getElem?_set_self hkl) (ad1 b 2) (by simp) rfl fun w2 H2 => ?_
  simp only [List.set_set, List.set_cons_zero, List.set_cons_succ] at H2
  refine H2.st k (List.getElem?_set_self hkl) (ad1 b 3) (by simp) rfl fun w3 H3 => ?_
  simp only [List.set_set, List.set_cons_zero, List.set_cons_succ] at H3
  refine H3.st k (List.getElem?_set_self hkl) (ad1 b 4) (by simp) rfl fun w4 H4 => ?_
  simp only [List.set_set, List.set_cons_zero, List.set_cons_succ] at H4
  refine H4.st k (List.getElem?_set_self hkl) (ad1 b 5) (by simp) rfl fun w5 H5 => ?_
  simp only [List.set_set, List.set_cons_zero, List.set_cons_succ] at H5
  exact h _ H5
theorem as_api_Grant_of {c0 : Int} {c1 : Int} {c2 : Int} {c3 : Int} {c4 : Int} {c5 : Bool} {K : Int → Int → Int → Int → Int → Bool → Prop} (hK : K c0 c1 c2 c3 c4 c5) : as_api_Grant (.agg ⟨cs_api_Grant c0 c1 c2 c3 c4 c5⟩) K :=
  ⟨_, rfl, c0, rfl, c1, rfl, c2, rfl, c3, rfl, c4, rfl, c5, rfl, rfl, hK⟩
@[reducible] def cs_lay_Set (c0 : Int) (c1 : Int) (c2 : Int) (c3 : Int) (c4 : Int) (c5 : Int) (c6 : Int) (c7 : Int) (c8 : Int) : List Value := [.int .i64 c0, .int .i64 c1, .int .i64 c2, .int .i64 c3, .int .i64 c4, .int .i64 c5, .int .i64 c6, .int .i64 c7, .int .i64 c8]
theorem ld_lay_Set_of {a : Addr} {w : World} {c0 : Int} {c1 : Int} {c2 : Int} {c3 : Int} {c4 : Int} {c5 : Int} {c6 : Int} {c7 : Int} {c8 : Int} {K : Int → Int → Int → Int → Int → Int → Int → Int → Int → Prop} (h : ∀ (i : Nat) (v : Value), (cs_lay_Set c0 c1 c2 c3 c4 c5 c6 c7 c8)[i]? = some v → w.cell? (Addr.add a i) = some v) (hK : K c0 c1 c2 c3 c4 c5 c6 c7 c8) : ld_lay_Set a w K :=
  ⟨_, h 0 _ rfl, ⟨_, h 1 _ rfl, ⟨_, h 2 _ rfl, ⟨_, h 3 _ rfl, ⟨_, h 4 _ rfl, ⟨_, h 5 _ rfl, ⟨_, h 6 _ rfl, ⟨_, h 7 _ rfl, ⟨_, h 8 _ rfl, hK⟩⟩⟩⟩⟩⟩⟩⟩⟩
theorem _root_.Go.Ev.Mine.ld_lay_Set {w0 w : World} {S : List Nat} {L : List Res} (H : Mine w0 S w L) (k : Nat) {b : Nat} {t : TypeId} {c0 : Int} {c1 : Int} {c2 : Int} {c3 : Int} {c4 : Int} {c5 : Int} {c6 : Int} {c7 : Int} {c8 : Int} {K : Int → Int → Int → Int → Int → Int → Int → Int → Int → Prop} (hk : L[k]? = some (.blk b (cs_lay_Set c0 c1 c2 c3 c4 c5 c6 c7 c8) t)) (hK : K c0 c1 c2 c3 c4 c5 c6 c7 c8) : ld_lay_Set ⟨b, 0, none⟩ w K :=
  ld_lay_Set_of (fun i v hv => H.cell k hk (ad1 b i) hv) hK
theorem _root_.Go.Ev.Mine.sT_lay_Set {w0 w : World} {S : List Nat} {L : List Res} (H : Mine w0 S w L) (k : Nat) {b : Nat} {t : TypeId} {cs : List Value} {c0 : Int} {c1 : Int} {c2 : Int} {c3 : Int} {c4 : Int} {c5 : Int} {c6 : Int} {c7 : Int} {c8 : Int} {K : World → Prop} (hk : L[k]? = some (.blk b cs t)) (hl : cs.length = 9) (h : ∀ w', Mine w0 S w' (L.set k (.blk b (cs_lay_Set c0 c1 c2 c3 c4 c5 c6 c7 c8) t)) → K w') : sT_lay_Set ⟨b, 0, none⟩ c0 c1 c2 c3 c4 c5 c6 c7 c8 w K := by
  have hkl : k < L.length := (List.getElem?_eq_some_iff.1 hk).1
  obtain ⟨u0, u1, u2, u3, u4, u5, u6, u7, u8, rfl⟩ : ∃ u0 u1 u2 u3 u4 u5 u6 u7 u8, cs = [u0, u1, u2, u3, u4, u5, u6, u7, u8] := by
    match cs, hl with
    | [u0, u1, u2, u3, u4, u5, u6, u7, u8], _ => exact ⟨u0, u1, u2, u3, u4, u5, u6, u7, u8, rfl⟩
  refine H.st k hk (ad1 b 0) (by simp) rfl fun w0 H0 => ?_
  simp only [List.set_set, List.set_cons_zero, List.set_cons_succ] at H0
  refine H0.st k (List.getElem?_set_self hkl) (ad1 b 1) (by simp) rfl fun w1 H1 => ?_
  simp only [List.set_set, List.set_cons_zero, List.set_cons_succ] at H1
  refine H1.st k (List.getElem?_set_self hkl) (ad1 b 2) (by simp) rfl fun w2 H2 => ?_
  simp only [List.set_set, List.set_cons_zero, List.set_cons_succ] at H2
  refine H2.st k (List.getElem?_set_self hkl) (ad1 b 3) (by simp) rfl fun w3 H3 => ?_
  simp only [List.set_set, List.set_cons_zero, List.set_cons_succ] at H3
  refine H3.st k (List.getElem?_set_self hkl) (ad1 b 4) (by simp) rfl fun w4 H4 => ?_
  simp only [List.set_set, List.set_cons_zero, List.set_cons_succ] at H4
  refine H4.st k (List.getElem?_set_self hkl) (ad1 b 5) (by simp) rfl fun w5 H5 => ?_
  simp only [List.set_set, List.set_cons_zero, List.set_cons_succ] at H5
  refine H5.st k (List.getElem?_set_self hkl) (ad1 b 6) (by simp) rfl fun w6 H6 => ?_
  simp only [List.set_set, List.set_cons_zero, List.set_cons_succ] at H6
  refine H6.st k (List.getElem?_set_self hkl) (ad1 b 7) (by simp) rfl fun w7 H7 => ?_
  simp only [List.set_set, List.set_cons_zero, List.set_cons_succ] at H7
  refine H7.st k (List.getElem?_set_self hkl) (ad1 b 8) (by simp) rfl fun w8 H8 => ?_
  simp only [List.set_set, List.set_cons_zero, List.set_cons_succ] at H8
  exact h _ H8
theorem as_lay_Set_of {c0 : Int} {c1 : Int} {c2 : Int} {c3 : Int} {c4 : Int} {c5 : Int} {c6 : Int} {c7 : Int} {c8 : Int} {K : Int → Int → Int → Int → Int → Int → Int → Int → Int → Prop} (hK : K c0 c1 c2 c3 c4 c5 c6 c7 c8) : as_lay_Set (.agg ⟨cs_lay_Set c0 c1 c2 c3 c4 c5 c6 c7 c8⟩) K :=
  ⟨_, rfl, c0, rfl, c1, rfl, c2, rfl, c3, rfl, c4, rfl, c5, rfl, c6, rfl, c7, rfl, c8, rfl, rfl, hK⟩
@[reducible] def cs_ref11_Set (c0 : Int) (c1 : Int) (c2 : Int) (c3 : Int) (c4 : Int) (c5 : Int) (c6 : Int) (c7 : Int) (c8 : Int) : List Value := [.int .i64 c0, .int .i64 c1, .int .i64 c2, .int .i64 c3, .int .i64 c4, .int .i64 c5, .int .i64 c6, .int .i64 c7, .int .i64 c8]
theorem ld_ref11_Set_of {a : Addr} {w : World} {c0 : Int} {c1 : Int} {c2 : Int} {c3 : Int} {c4 : Int} {c5 : Int} {c6 : Int} {c7 : Int} {c8 : Int} {K : Int → Int → Int → Int → Int → Int → Int → Int → Int → Prop} (h : ∀ (i : Nat) (v : Value), (cs_ref11_Set c0 c1 c2 c3 c4 c5 c6 c7 c8)[i]? = some v → w.cell? (Addr.add a i) = some v) (hK : K c0 c1 c2 c3 c4 c5 c6 c7 c8) : ld_ref11_Set a w K :=
  ⟨_, h 0 _ rfl, ⟨_, h 1 _ rfl, ⟨_, h 2 _ rfl, ⟨_, h 3 _ rfl, ⟨_, h 4 _ rfl, ⟨_, h 5 _ rfl, ⟨_, h 6 _ rfl, ⟨_, h 7 _ rfl, ⟨_, h 8 _ rfl, hK⟩⟩⟩⟩⟩⟩⟩⟩⟩
theorem _root_.Go.Ev.Mine.ld_ref11_Set {w0 w : World} {S : List Nat} {L : List Res} (H : Mine w0 S w L) (k : Nat) {b : Nat} {t : TypeId} {c0 : Int} {c1 : Int} {c2 : Int} {c3 : Int} {c4 : Int} {c5 : Int} {c6 : Int} {c7 : Int} {c8 : Int} {K : Int → Int → Int → Int → Int → Int → Int → Int → Int → Prop} (hk : L[k]? = some (.blk b (cs_ref11_Set c0 c1 c2 c3 c4 c5 c6 c7 c8) t)) (hK : K c0 c1 c2 c3 c4 c5 c6 c7 c8) : ld_ref11_Set ⟨b, 0, none⟩ w K :=
  ld_ref11_Set_of (fun i v hv => H.cell k hk (ad1 b i) hv) hK
theorem _root_.Go.Ev.Mine.sT_ref11_Set {w0 w : World} {S : List Nat} {L : List Res} (H : Mine w0 S w L) (k : Nat) {b : Nat} {t : TypeId} {cs : List Value} {c0 : Int} {c1 : Int} {c2 : Int} {c3 : Int} {c4 : Int} {c5 : Int} {c6 : Int} {c7 : Int} {c8 : Int} {K : World → Prop} (hk : L[k]? = some (.blk b cs t)) (hl : cs.length = 9) (h : ∀ w', Mine w0 S w' (L.set k (.blk b (cs_ref11_Set c0 c1 c2 c3 c4 c5 c6 c7 c8) t)) → K w') : sT_ref11_Set ⟨b, 0, none⟩ c0 c1 c2 c3 c4 c5 c6 c7 c8 w K := by
  have hkl : k < L.length := (List.getElem?_eq_some_iff.1 hk).1
  obtain ⟨u0, u1, u2, u3, u4, u5, u6, u7, u8, rfl⟩ : ∃ u0 u1 u2 u3 u4 u5 u6 u7 u8, cs = [u0, u1, u2, u3, u4, u5, u6, u7, u8] := by
    match cs, hl with
    | [u0, u1, u2, u3, u4, u5, u6, u7, u8], _ => exact ⟨u0, u1, u2, u3, u4, u5, u6, u7, u8, rfl⟩
  refine H.st k hk (ad1 b 0) (by simp) rfl fun w0 H0 => ?_
  simp only [List.set_set, List.set_cons_zero, List.set_cons_succ] at H0
  refine H0.st k (List.getElem?_set_self hkl) (ad1 b 1) (by simp) rfl fun w1 H1 => ?_
  simp only [List.set_set, List.set_cons_zero, List.set_cons_succ] at H1
  refine H1.st k (List.getElem?_set_self hkl) (ad1 b 2) (by simp) rfl fun w2 H2 => ?_
  simp only [List.set_set, List.set_cons_zero, List.set_cons_succ] at H2
  refine H2.st k (List.getElem?_set_self hkl) (ad1 b 3) (by simp) rfl fun w3 H3 => ?_
  simp only [List.set_set, List.set_cons_zero, List.set_cons_succ] at H3
  refine H3.st k (List.getElem?_set_self hkl) (ad1 b 4) (by simp) rfl fun w4 H4 => ?_
  simp only [List.set_set, List.set_cons_zero, List.set_cons_succ] at H4
  refine H4.st k (List.getElem?_set_self hkl) (ad1 b 5) (by simp) rfl fun w5 H5 => ?_
  simp only [List.set_set, List.set_cons_zero, List.set_cons_succ] at H5
  refine H5.st k (List.getElem?_set_self hkl) (ad1 b 6) (by simp) rfl fun w6 H6 => ?_
  simp only [List.set_set, List.set_cons_zero, List.set_cons_succ] at H6
  refine H6.st k (List.getElem?_set_self hkl) (ad1 b 7) (by simp) rfl fun w7 H7 => ?_
  simp only [List.set_set, List.set_cons_zero, List.set_cons_succ] at H7
  refine H7.st k (List.getElem?_set_self hkl) (ad1 b 8) (by simp) rfl fun w8 H8 => ?_
  simp only [List.set_set, List.set_cons_zero, List.set_cons_succ] at H8
  exact h _ H8
theorem as_ref11_Set_of {c0 : Int} {c1 : Int} {c2 : Int} {c3 : Int} {c4 : Int} {c5 : Int} {c6 : Int} {c7 : Int} {c8 : Int} {K : Int → Int → Int → Int → Int → Int → Int → Int → Int → Prop} (hK : K c0 c1 c2 c3 c4 c5 c6 c7 c8) : as_ref11_Set (.agg ⟨cs_ref11_Set c0 c1 c2 c3 c4 c5 c6 c7 c8⟩) K :=
  ⟨_, rfl, c0, rfl, c1, rfl, c2, rfl, c3, rfl, c4, rfl, c5, rfl, c6, rfl, c7, rfl, c8, rfl, rfl, hK⟩
end Go.Proofs.YtoeedbljiocpdaaDoor
