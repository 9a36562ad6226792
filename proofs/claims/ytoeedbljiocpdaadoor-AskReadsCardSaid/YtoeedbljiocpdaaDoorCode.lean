/- NUMBERS AND BYTES, ONE WAY: what code's and the document's Number, Bytes, Text compute. -/
import Derived.Test.YtoeedbljiocpdaaDoorStrs
import Derived.Test.YtoeedbljiocpdaaDoorVCc
namespace Go.Proofs.YtoeedbljiocpdaaDoor
open Go Go.Ev
set_option linter.unusedVariables false
theorem und_string : Pr.underlying t_string = some .string := by kernel_rfl
theorem und_bytes : Pr.underlying t_s_uint8 = some (.slice t_uint8) := by kernel_rfl
theorem und_u8 : Pr.underlying t_uint8 = some (.int .u8) := by kernel_rfl
theorem slices_Clone_byte_ok (x : SlV) (l : List B8) (hl : l.length ≤ 1000000000) (w : World) (hx : Bytes w x l) : Ok Pr f_slices_Clone_byte_byte [.slice x.a x.n x.c] w fun v w' => Gave w w' v l := by
  refine V_slices_Clone_byte_byte_of ?_
  unfold V_slices_Clone_byte_byte
  have hxl := hx.len
  refine ite_intro (fun h => ?_) (fun h => ?_)
  · have h0 : x.n = 0 := by
      rcases Nat.eq_zero_or_pos x.n with e | e
      · exact e
      · have := Sl.pre hx e
        cases ha : x.a with
        | none => rw [ha] at this; cases this
        | some a => rw [ha] at h; cases h
    obtain rfl : l = [] := List.eq_nil_of_length_eq_zero (by omega)
    exact ⟨⟨none, 0, 0⟩, rfl, Own.nil _ _ _ _, Mod.refl _ _⟩
  · refine (Mine.start w).nw fun p w1 H _ => ?_
    have H := H.asRow 0 1 0 0 rfl rfl (Nat.le_refl _) (by simp only [maxLen]; omega)
    refine H.app8 (s := ⟨some ⟨p, 0, none⟩, 0, 0⟩) (vs := []) 0 elt_u8 rfl (hx.mod0 H.mod) (by show 0 + x.n ≤ _; omega) fun y w2 H hy => ?_
    exact ⟨y, rfl, H.fresh0 0 rfl, H.mod⟩
/-- a number's eight bytes, the highest first -/
def be (n : Int) : List B8 := (List.range 8).map fun k => ((BitVec.ofInt 64 n : B64) >>> (56 - 8 * k)).setWidth 8
def bes (ns : List Int) : List B8 := (ns.map be).flatten
theorem length_be (n : Int) : (be n).length = 8 := by simp [be]
theorem length_bes (ns : List Int) : (bes ns).length = 8 * ns.length := by
  induction ns with
  | nil => rfl
  | cons a r ih =>
    show ((be a) ++ bes r).length = _
    rw [List.length_append, length_be, ih, List.length_cons]
    omega
theorem bes_append (a b : List Int) : bes (a ++ b) = bes a ++ bes b := by simp [bes]
theorem wrap_u64_any (n : Int) : IntKind.wrap .u64 n = ((BitVec.ofInt 64 n).toNat : Int) := by
  rw [wrap_u64, BitVec.toNat_ofInt]
  omega
theorem be_byte (n : Int) (k : Nat) (hk : k < 8) (s : Int) (hs : s = ((56 - 8 * k : Nat) : Int)) : IntKind.wrap .u8 (shr .u64 (IntKind.wrap .u64 n) s) = (((be n).getD k 0).toNat : Int) := by
  subst hs
  rw [wrap_u64_any, shr64, low8]
  simp [be, hk]
theorem code_Number_ok (x : SlV) (l : List B8) (y : SlV) (ns : List Int) (hl : l.length ≤ 1000000) (hn : ns.length ≤ 1000000) (w : World) (hx : Bytes w x l) (hy : Nums w y ns) :
    Ok Pr f_code_Number [.slice x.a x.n x.c, .slice y.a y.n y.c] w fun v w' => Gave w w' v (l ++ bes ns) := by
  refine V_code_Number_of ?_
  unfold V_code_Number
  have hyl := hy.len
  refine call_of (slices_Clone_byte_ok x l (by omega) w hx) ?_
  rintro _ w1 ⟨z, rfl, hz, m⟩
  have H := (Mine.start w).got m hz
  refine asSl_s (loop2_up 0 ns.length (fun i (b : SlV) w' => Mine w [] w' [.row t_uint8 1 b (u8s (l ++ bes (ns.take i)))]) rfl (by omega) (by simpa [bes] using H) ?_ ?_)
  · intro again i b w2 _ hi H hag
    refine ite_true (decide_eq_true (by omega)) ((hy.mod0 H.mod).ld hi rfl ?_)
    have hbs : bes (ns.take (i + 1)) = bes (ns.take i) ++ be (ns.getD i 0) := by rw [take_succ_getD _ _ hi 0, bes_append]; simp [bes]
    have hbl := length_bes (ns.take i)
    rw [List.length_take, Nat.min_eq_left (by omega)] at hbl
    rw [hbs] at hag
    generalize ns.getD i 0 = n at *
    have hnl := length_be n
    refine loop2_of (fun (b : SlV) (s : Int) w' => ∃ j : Nat, j ≤ 8 ∧ s = 56 - 8 * (j : Int) ∧ Mine w [] w' [.row t_uint8 1 b (u8s (l ++ bes (ns.take i) ++ (be n).take j))]) (fun _ s _ => (s + 8).toNat) ⟨0, by omega, by omega, by simpa using H⟩ ?_
    rintro again1 b s w3 ⟨j, hj, rfl, H⟩ hag1
    have hb := (H.bytes 0 rfl).len
    rw [List.length_append, List.length_append, List.length_take, Nat.min_eq_left (by omega)] at hb
    refine ite_intro (fun hc => ?_) (fun hc => ?_)
    · have hc := of_decide_eq_true hc
      refine cnt_of (by omega) (H.app8one 0 ((be n).getD j 0) elt_u8 rfl (be_byte n j (by omega) _ (by omega)) (by omega) fun b' w4 H _ => ⟨⟨by omega, by omega⟩, hag1 _ _ w4 ⟨j + 1, by omega, by omega, ?_⟩ (by omega)⟩)
      rw [take_succ_getD _ _ (by omega) 0, ← List.append_assoc]
      exact H
    · have hc := of_decide_eq_false hc
      rw [List.take_of_length_le (l := be n) (by omega), List.append_assoc] at H
      exact ⟨⟨by omega, by omega⟩, hag b w3 H⟩
  · intro again b w2 H
    rw [List.take_length] at H
    exact ite_false (decide_eq_false (by omega)) ⟨b, rfl, H.fresh0 0 rfl, H.mod⟩
/-- bytes, each with how many they are -/
def laid (p : List B8) : List B8 := be (p.length : Int) ++ p
def laids (ps : List (List B8)) : List B8 := (ps.map laid).flatten
theorem laids_append (a b : List (List B8)) : laids (a ++ b) = laids a ++ laids b := by simp [laids]
theorem length_laids_le : ∀ (ps : List (List B8)) (k : Nat), (∀ p ∈ ps, p.length ≤ k) → (laids ps).length ≤ ps.length * (k + 8)
  | [], _, _ => by simp [laids]
  | p :: r, k, h => by
    have h1 := length_laids_le r k fun q hq => h q (List.mem_cons_of_mem _ hq)
    have h2 := h p List.mem_cons_self
    show (laid p ++ laids r).length ≤ _
    rw [List.length_append, laid, List.length_append, length_be, List.length_cons, Nat.add_mul]
    omega
theorem bes_one (n : Int) : bes [n] = be n := by simp [bes]
theorem _root_.Go.Ev.Mine.blkNums {w0 w : World} {S : List Nat} {L : List Res} (H : Mine w0 S w L) (k : Nat) {b : Nat} {l : List Int} {t : TypeId} (hk : L[k]? = some (.blk b (i64s l) t)) : Nums w ⟨some ⟨b, 0, none⟩, l.length, l.length⟩ l := by
  have := (H.blk k hk).sl 1 l.length l.length (by simp) (Nat.le_refl _)
  rw [Nat.mul_one, List.take_of_length_le (by simp)] at this
  exact this
theorem code_Bytes_ok (x : SlV) (l : List B8) (y : SlV) (ps : List (List B8)) (hl : l.length ≤ 100000) (hn : ps.length ≤ 10) (hps : ∀ p ∈ ps, p.length ≤ 10000) (w : World) (hx : Bytes w x l) (hy : Parts w [] y ps) :
    Ok Pr f_code_Bytes [.slice x.a x.n x.c, .slice y.a y.n y.c] w fun v w' => Gave w w' v (l ++ laids ps) := by
  refine V_code_Bytes_of ?_
  unfold V_code_Bytes
  have hyl := hy.len
  refine call_of (slices_Clone_byte_ok x l (by omega) w hx) ?_
  rintro _ w1 ⟨z, rfl, hz, m⟩
  have H := (Mine.start w).got m hz
  refine asSl_s (loop2_up 0 ps.length (fun i (b : SlV) w' => Mine w [] w' [.row t_uint8 1 b (u8s (l ++ laids (ps.take i)))]) rfl (by omega) (by simpa [laids] using H) ?_ ?_)
  · intro again i b w2 _ hi H hag
    have hbl := length_laids_le (ps.take i) 10000 fun p hp => hps p (List.mem_of_mem_take hp)
    rw [List.length_take] at hbl
    have hbs : laids (ps.take (i + 1)) = laids (ps.take i) ++ laid (ps.getD i []) := by rw [take_succ_getD _ _ hi [], laids_append]; simp [laids]
    have hpl := hps (ps.getD i []) (by simp [hi])
    rw [hbs] at hag
    have hmin : min i ps.length * (10000 + 8) ≤ 10 * (10000 + 8) := Nat.mul_le_mul_right _ (by omega)
    refine ite_true (decide_eq_true (by omega)) (hy.ld0 H.mod hi fun u hu _ => H.nw fun p w3 H _ => ?_)
    have hul := hu.len
    generalize ps.getD i [] = pt at *
    have hbn := (H.bytes 0 rfl).len
    simp only [List.length_append] at hbn
    refine call_of (code_Number_ok b _ ⟨some ⟨p, 0, none⟩, 1, 1⟩ [((u.n : Nat) : Int)] (by rw [List.length_append]; omega) (by simp) _ (H.bytes 0 rfl) (H.blkNums 1 (l := [((u.n : Nat) : Int)]) rfl)) ?_
    rintro _ w4 ⟨q, rfl, hq, m4⟩
    have H := H.got m4 hq
    have hql := hq.bytes.len
    simp only [List.length_append, length_bes, List.length_cons, List.length_nil] at hql
    refine asSl_s (H.app8 2 elt_u8 rfl (hu.mod0 H.mod) (by omega) fun b' w5 H _ => ⟨⟨by omega, by omega⟩, hag b' w5 ?_⟩)
    have H := H.only 2 rfl
    rw [bes_one, ← hul, List.append_assoc, List.append_assoc] at H
    exact H
  · intro again b w2 H
    rw [List.take_length] at H
    exact ite_false (decide_eq_false (by omega)) ⟨b, rfl, H.fresh0 0 rfl, H.mod⟩
theorem code_Text_ok (x : SlV) (l : List B8) (s : ByteArray) (hl : l.length ≤ 100000) (hs : s.size ≤ 10000) (w : World) (hx : Bytes w x l) :
    Ok Pr f_code_Text [.slice x.a x.n x.c, .string s] w fun v w' => Gave w w' v (l ++ laid (bOf s)) := by
  refine V_code_Text_of ?_
  unfold V_code_Text
  refine (Mine.start w).s2b und_string und_bytes und_u8 fun b c zs w1 H hc _ => H.nw fun p w2 H _ => ?_
  have hb : Bytes w2 ⟨some ⟨b, 0, none⟩, s.size, c⟩ (bOf s) := Fz.bytes (H.get 0 rfl) hc
  refine call_of (code_Bytes_ok x l ⟨some ⟨p, 0, none⟩, 1, 1⟩ [bOf s] hl (by simp) (fun q hq => by rw [List.mem_singleton.1 hq, length_bOf]; exact hs) _ (hx.mod0 H.mod) (Parts.of1 (H.blk 1 rfl) (by simp) hb (off_nil _))) ?_
  rintro _ w3 ⟨y, rfl, hy, m3⟩
  have H := H.got m3 hy
  rw [show laids [bOf s] = laid (bOf s) by simp [laids]] at H
  exact asSl_s ⟨y, rfl, H.fresh0 2 rfl, H.mod⟩
/-! ### the document's -/
theorem ref14_Number_ok (x : SlV) (l : List B8) (y : SlV) (ns : List Int) (hl : l.length ≤ 1000000) (hn : ns.length ≤ 1000000) (w : World) (hx : Bytes w x l) (hy : Nums w y ns) :
    Ok Pr f_ref14_Number [.slice x.a x.n x.c, .slice y.a y.n y.c] w fun v w' => Gave w w' v (l ++ bes ns) := by
  refine V_ref14_Number_of ?_
  unfold V_ref14_Number
  have hxl := hx.len
  have hyl := hy.len
  refine (Mine.start w).clone8 elt_u8 hx (by omega) fun z w1 H _ => ?_
  refine loop2_up 0 ns.length (fun i (b : SlV) w' => Mine w [] w' [.row t_uint8 1 b (u8s (l ++ bes (ns.take i)))]) rfl (by omega) (by simpa [bes] using H) ?_ ?_
  · intro again i b w2 _ hi H hag
    refine ite_true (decide_eq_true (by omega)) ?_
    have hbs : bes (ns.take (i + 1)) = bes (ns.take i) ++ be (ns.getD i 0) := by rw [take_succ_getD _ _ hi 0, bes_append]; simp [bes]
    have hbl := length_bes (ns.take i)
    rw [List.length_take, Nat.min_eq_left (by omega)] at hbl
    rw [hbs] at hag
    have hnl := length_be (ns.getD i 0)
    refine loop2_of (fun (b : SlV) (s : Int) w' => ∃ j : Nat, j ≤ 8 ∧ s = 7 - (j : Int) ∧ Mine w [] w' [.row t_uint8 1 b (u8s (l ++ bes (ns.take i) ++ (be (ns.getD i 0)).take j))]) (fun _ s _ => (s + 8).toNat) ⟨0, by omega, by omega, by simpa using H⟩ ?_
    rintro again1 b s w3 ⟨j, hj, rfl, H⟩ hag1
    have hb := (H.bytes 0 rfl).len
    rw [List.length_append, List.length_append, List.length_take, Nat.min_eq_left (by omega)] at hb
    refine ite_intro (fun hc => ?_) (fun hc => ?_)
    · have hc := of_decide_eq_true hc
      refine (hy.mod0 H.mod).ld hi rfl ⟨⟨by omega, by omega⟩, cnt_of (by omega) (H.app8one 0 ((be (ns.getD i 0)).getD j 0) elt_u8 rfl (be_byte _ j (by omega) _ (by omega)) (by omega) fun b' w4 H _ => ⟨⟨by omega, by omega⟩, hag1 _ _ w4 ⟨j + 1, by omega, by omega, ?_⟩ (by omega)⟩)⟩
      rw [take_succ_getD _ _ (by omega) 0, ← List.append_assoc]
      exact H
    · have hc := of_decide_eq_false hc
      rw [List.take_of_length_le (l := be (ns.getD i 0)) (by omega), List.append_assoc] at H
      exact ⟨⟨by omega, by omega⟩, hag b w3 H⟩
  · intro again b w2 H
    rw [List.take_length] at H
    exact ite_false (decide_eq_false (by omega)) ⟨b, rfl, H.fresh0 0 rfl, H.mod⟩
theorem ref14_Bytes_ok (x : SlV) (l : List B8) (y : SlV) (ps : List (List B8)) (hl : l.length ≤ 100000) (hn : ps.length ≤ 10) (hps : ∀ p ∈ ps, p.length ≤ 10000) (w : World) (hx : Bytes w x l) (hy : Parts w [] y ps) :
    Ok Pr f_ref14_Bytes [.slice x.a x.n x.c, .slice y.a y.n y.c] w fun v w' => Gave w w' v (l ++ laids ps) := by
  refine V_ref14_Bytes_of ?_
  unfold V_ref14_Bytes
  have hxl := hx.len
  have hyl := hy.len
  refine (Mine.start w).clone8 elt_u8 hx (by omega) fun z w1 H _ => ?_
  refine loop2_up 0 ps.length (fun i (b : SlV) w' => Mine w [] w' [.row t_uint8 1 b (u8s (l ++ laids (ps.take i)))]) rfl (by omega) (by simpa [laids] using H) ?_ ?_
  · intro again i b w2 _ hi H hag
    have hbl := length_laids_le (ps.take i) 10000 fun p hp => hps p (List.mem_of_mem_take hp)
    rw [List.length_take] at hbl
    have hbs : laids (ps.take (i + 1)) = laids (ps.take i) ++ laid (ps.getD i []) := by rw [take_succ_getD _ _ hi [], laids_append]; simp [laids]
    have hpl := hps (ps.getD i []) (by simp [hi])
    rw [hbs] at hag
    have hmin : min i ps.length * (10000 + 8) ≤ 10 * (10000 + 8) := Nat.mul_le_mul_right _ (by omega)
    have H := H.drew
    obtain ⟨u, hu, hsm, hcell⟩ := hy.at hi
    have hul := hu.len
    have hc1 := hcell _ H.mod
    refine ite_true (decide_eq_true (by omega)) ⟨⟨hsm, by omega, by omega⟩, u, hc1, ⟨hsm, by omega, by omega⟩, u, hc1, H.nw fun p w3 H _ => ?_⟩
    generalize ps.getD i [] = pt at *
    have hbn := (H.bytes 0 rfl).len
    simp only [List.length_append] at hbn
    refine ⟨kept1 hc1 (hcell _ H.mod), ?_⟩
    refine call_of (ref14_Number_ok b _ ⟨some ⟨p, 0, none⟩, 1, 1⟩ [((u.n : Nat) : Int)] (by rw [List.length_append]; omega) (by simp) _ (H.bytes 0 rfl) (H.blkNums 1 (l := [((u.n : Nat) : Int)]) rfl)) ?_
    rintro _ w4 ⟨q, rfl, hq, m4⟩
    have hc3 := hcell _ H.mod
    have H := H.got m4 hq
    have hql := hq.bytes.len
    simp only [List.length_append, length_bes, List.length_cons, List.length_nil] at hql
    refine asSl_s ⟨kept1 hc3 (hcell _ H.mod), H.app8 2 elt_u8 rfl (hu.mod0 H.mod) (by omega) fun b' w5 H _ => ⟨⟨by omega, by omega⟩, hag b' w5 ?_⟩⟩
    have H := H.only 2 rfl
    rw [bes_one, ← hul, List.append_assoc, List.append_assoc] at H
    exact H
  · intro again b w2 H
    rw [List.take_length] at H
    exact ite_false (decide_eq_false (by omega)) ⟨b, rfl, H.fresh0 0 rfl, H.mod⟩
theorem ref14_Text_ok (x : SlV) (l : List B8) (s : ByteArray) (hl : l.length ≤ 100000) (hs : s.size ≤ 10000) (w : World) (hx : Bytes w x l) :
    Ok Pr f_ref14_Text [.slice x.a x.n x.c, .string s] w fun v w' => Gave w w' v (l ++ laid (bOf s)) := by
  refine V_ref14_Text_of ?_
  unfold V_ref14_Text
  refine (Mine.start w).nw fun p w1 H _ => ?_
  refine call_of (ref14_Number_ok x l ⟨some ⟨p, 0, none⟩, 1, 1⟩ [((s.size : Nat) : Int)] (by omega) (by simp) _ (hx.mod0 H.mod) (H.blkNums 0 (l := [((s.size : Nat) : Int)]) rfl)) ?_
  rintro _ w2 ⟨q, rfl, hq, m2⟩
  have H := H.got m2 hq
  have hql := hq.bytes.len
  simp only [List.length_append, length_bes, List.length_cons, List.length_nil] at hql
  refine asSl_s (H.appStr 1 elt_u8 und_string rfl (by omega) fun y w3 H _ => ⟨y, rfl, ?_, H.mod⟩)
  have e : l ++ laid (bOf s) = l ++ be ((s.size : Nat) : Int) ++ bOf s := by unfold laid; rw [length_bOf, List.append_assoc]
  rw [bes_one] at H
  rw [e]
  exact H.fresh0 1 rfl
end Go.Proofs.YtoeedbljiocpdaaDoor
