/- GRANTS: tokens, what a token tells, what a grant allows: the program's and the document's. -/
import Derived.Test.YtoeedbljiocpdaaDoorGr2
namespace Go.Proofs.YtoeedbljiocpdaaDoor
open Go Go.Ev
set_option maxRecDepth 20000
set_option linter.unusedVariables false
def GrV.five (g : GrV) : List Int := [g.n0, g.n1, g.n2, g.n3, g.n4]
@[irreducible] def tok (s : List B8) (g : GrV) : List B8 := BitVec.ofInt 8 g.n0 :: spOut 136 31 (laid s ++ bes g.five) 32
theorem spOut32_len (l : List B8) : (spOut 136 31 l 32).length = 32 := by
  have := spOut_len 136 31 l 32 (by omega)
  exact this
theorem length_tok (s : List B8) (g : GrV) : (tok s g).length = 33 := by
  unfold tok
  rw [List.length_cons, spOut32_len]
theorem grants_Token_ok (x : SlV) (s : List B8) (g : GrV) (hs : s.length ≤ 1000) (w : World) (hx : Bytes w x s) : Ok Pr f_grants_Token [.slice x.a x.n x.c, .agg ⟨g.cells⟩] w fun v w' => Gave w w' v (tok s g) := by
  refine V_grants_Token_of ?_
  unfold V_grants_Token
  have et : tok s g = [BitVec.ofInt 8 g.n0] ++ spOut 136 31 (laid s ++ bes g.five) 32 := by unfold tok; rfl
  have h32 := spOut32_len (laid s ++ bes g.five)
  rw [et]
  have hsl : (laid s).length = s.length + 8 := by unfold laid; rw [List.length_append, length_be]; omega
  have h5 : (bes g.five).length = 40 := length_bes _
  refine (Mine.start w).nw fun p w1 H _ => ?_
  refine H.ldI 0 rfl (ad1 p 0) rfl (H.ldI 0 rfl (ad1 p 1) rfl (H.ldI 0 rfl (ad1 p 2) rfl (H.ldI 0 rfl (ad1 p 3) rfl (H.ldI 0 rfl (ad1 p 4) rfl (H.nw fun p1 w2 H _ => ?_)))))
  refine call_of (code_Number_ok ⟨none, 0, 0⟩ [] ⟨some ⟨p1, 0, none⟩, 5, 5⟩ g.five (by simp) (by show 5 ≤ 1000000; omega) _ (Bytes.nil _) (H.blkNums 1 (l := g.five) rfl)) ?_
  rintro _ w3 ⟨f, rfl, hf, m3⟩
  rw [List.nil_append] at hf
  have H := H.got m3 hf
  have H := H.drew
  refine asSl_s (H.ldI 0 rfl (ad1 p 0) rfl ?_)
  have k0 : ∀ {w' w'' : World} {L L' : List Res}, Mine w [] w' L → Mine w [] w'' L' → L[0]? = some (.blk p g.cells t_api_Grant) → L'[0]? = some (.blk p g.cells t_api_Grant) → kept (Addr.add ⟨p, 0, none⟩ 0) 1 w' w'' := fun H H' h h' => keptB (H.blk 0 h) (H'.blk 0 h') (add_block _ _)
  have cC : ∀ {w' : World} {L : List Res} {K : SlV → World → Prop} (b p3 : Nat), Mine w [] w' L → L[b]? = some (.blk p3 [x.v] t_s_uint8) → (∀ y w'', Mine w [] w'' (L ++ [.row t_uint8 1 y (u8s (laid s))]) → K y w'') → callK Pr f_code_Bytes [.slice none 0 0, .slice (some ⟨p3, 0, none⟩) 1 1] w' fun v w'' => asSl v fun t => K t w'' := by
    intro w' L K b p3 H hb hK
    refine call_of (code_Bytes_ok ⟨none, 0, 0⟩ [] ⟨some ⟨p3, 0, none⟩, 1, 1⟩ [s] (by simp) (by simp) (fun q hq => by rw [List.mem_singleton.1 hq]; omega) _ (Bytes.nil _) (Parts.of1 (H.blk b hb) (by simp) (hx.mod0 H.mod) (off_nil _))) ?_
    rintro _ w'' ⟨y, rfl, hy, m⟩
    rw [show [] ++ laids [s] = laid s by simp [laids]] at hy
    exact asSl_s (hK y w'' (H.got m hy))
  have cE : ∀ {w' : World} {L : List Res} {K : SlV → World → Prop} (b p4 c : Nat) (y : SlV), Mine w [] w' L → L[b]? = some (.blk p4 [y.v, f.v] t_s_uint8) → L[c]? = some (.row t_uint8 1 y (u8s (laid s))) → L[2]? = some (.row t_uint8 1 f (u8s (bes g.five))) →
      (∀ z w'', Mine w [] w'' (L ++ [.row t_uint8 1 z (u8s (spOut 136 31 (laid s ++ bes g.five) 32))]) → K z w'') → callK Pr f_sponge_Shake256 [.int .i64 32, .slice (some ⟨p4, 0, none⟩) 2 2] w' fun v w'' => asSl v fun t => K t w'' := by
    intro w' L K b p4 c y H hb hc h2 hK
    refine call_of (sponge_Shake256_ok 32 ⟨some ⟨p4, 0, none⟩, 2, 2⟩ [laid s, bes g.five] _ (Parts.of2b (H.blk b hb) (by simp) (H.bytes c hc) (off_nil _) (H.bytes 2 h2) (off_nil _)) (small2b rfl (by omega) (by omega))) ?_
    rintro _ w'' ⟨z, rfl, hz, m⟩
    rw [show [laid s, bes g.five].flatten = laid s ++ bes g.five by simp] at hz
    exact asSl_s (hK z w'' (H.got m hz))
  generalize spOut 136 31 (laid s ++ bes g.five) 32 = o at *
  have fin : ∀ {w' : World} {L : List Res} (a e p2 : Nat) (z : SlV), Mine w [] w' L → L[a]? = some (.blk p2 [.int .u8 (IntKind.wrap .u8 g.n0)] t_uint8) → L[e]? = some (.row t_uint8 1 z (u8s o)) →
      appK Pr [t_s_uint8, t_s_uint8] t_s_uint8 [.slice (some ⟨p2, 0, none⟩) 1 1, .slice z.a z.n z.c] w' fun t w'' => Gave w w'' (.slice t.a t.n t.c) ([BitVec.ofInt 8 g.n0] ++ o) := by
    intro w' L a e p2 z H ha he
    have hz := H.bytes e he
    have hzl := hz.len
    have hal : a < L.length := (List.getElem?_eq_some_iff.1 ha).1
    have H := H.asRow a 1 1 1 ha rfl (Nat.le_refl _) (by simp only [maxLen]; omega)
    rw [wrap_u8_any] at H
    refine H.app8 (s := ⟨some ⟨p2, 0, none⟩, 1, 1⟩) (vs := [BitVec.ofInt 8 g.n0]) a elt_u8 (by rw [List.getElem?_set_self hal]; rfl) hz (by show 1 + z.n ≤ _; omega) fun t w'' H _ => ⟨t, rfl, ?_, H.mod⟩
    exact H.fresh0 a (by rw [List.getElem?_set_self (by simpa using hal)])
  refine ⟨?_, ?_⟩
  · refine H.nw fun p2 w4 H4 _ => H4.nw fun p3 w5 H5 _ => ⟨k0 H4 H5 rfl rfl, cC 4 p3 H5 rfl fun y w6 H6 => ⟨k0 H5 H6 rfl rfl, H6.nw fun p4 w7 H7 _ => ⟨k0 H6 H7 rfl rfl, cE 6 p4 5 y H7 rfl rfl rfl fun z w8 H8 => ⟨k0 H7 H8 rfl rfl, ?_⟩⟩⟩⟩
    exact fin 3 7 p2 z H8 rfl rfl
  · refine H.nw fun p3 w4 H4 _ => ⟨k0 H H4 rfl rfl, ?_, ?_⟩
    · refine H4.nw fun p2 w5 H5 _ => cC 3 p3 H5 rfl fun y w6 H6 => ⟨k0 H5 H6 rfl rfl, H6.nw fun p4 w7 H7 _ => ⟨k0 H6 H7 rfl rfl, cE 6 p4 5 y H7 rfl rfl rfl fun z w8 H8 => ⟨k0 H7 H8 rfl rfl, ?_⟩⟩⟩
      exact fin 4 7 p2 z H8 rfl rfl
    · refine cC 3 p3 H4 rfl fun y w5 H5 => ⟨k0 H4 H5 rfl rfl, ?_, ?_⟩
      · refine H5.nw fun p2 w6 H6 _ => H6.nw fun p4 w7 H7 _ => ⟨k0 H6 H7 rfl rfl, cE 6 p4 4 y H7 rfl rfl rfl fun z w8 H8 => ⟨k0 H7 H8 rfl rfl, ?_⟩⟩
        exact fin 5 7 p2 z H8 rfl rfl
      · refine H5.nw fun p4 w6 H6 _ => ⟨k0 H5 H6 rfl rfl, ?_, ?_⟩
        · refine H6.nw fun p2 w7 H7 _ => cE 5 p4 4 y H7 rfl rfl rfl fun z w8 H8 => ⟨k0 H7 H8 rfl rfl, ?_⟩
          exact fin 6 7 p2 z H8 rfl rfl
        · refine cE 5 p4 4 y H6 rfl rfl rfl fun z w7 H7 => ⟨k0 H6 H7 rfl rfl, H7.nw fun p2 w8 H8 _ => ?_⟩
          exact fin 7 6 p2 z H8 rfl rfl
theorem ref19_Token_ok (x : SlV) (s : List B8) (g : GrV) (hs : s.length ≤ 1000) (w : World) (hx : Bytes w x s) : Ok Pr f_ref19_Token [.slice x.a x.n x.c, .agg ⟨g.cells⟩] w fun v w' => Gave w w' v (tok s g) := by
  refine V_ref19_Token_of ?_
  unfold V_ref19_Token
  have et : tok s g = [BitVec.ofInt 8 g.n0] ++ spOut 136 31 (laid s ++ bes g.five) 32 := by unfold tok; rfl
  have h32 := spOut32_len (laid s ++ bes g.five)
  rw [et]
  have hsl : (laid s).length = s.length + 8 := by unfold laid; rw [List.length_append, length_be]; omega
  have h5 : (bes g.five).length = 40 := length_bes _
  refine (Mine.start w).nw fun p w1 H _ => join1_of fun go hgo => ?_
  have k0 : ∀ {w' w'' : World} {L L' : List Res} {i : Nat}, Mine w [] w' L → Mine w [] w'' L' → L[0]? = some (.blk p g.cells t_api_Grant) → L'[0]? = some (.blk p g.cells t_api_Grant) → kept (Addr.add ⟨p, 0, none⟩ i) 1 w' w'' := fun H H' h h' => keptB (H.blk 0 h) (H'.blk 0 h') (add_block _ _)
  have rest : ∀ (b : SlV) (w' : World) (L : List Res) (k : Nat), Mine w [] w' L → L[0]? = some (.blk p g.cells t_api_Grant) → L[k]? = some (.row t_uint8 1 b (u8s (laid s ++ bes g.five))) → 0 < k → go b w' := by
    intro b w' L k H h0 hk hk0
    have H : Mine w [] w' [.blk p g.cells t_api_Grant, .row t_uint8 1 b (u8s (laid s ++ bes g.five))] := H.two 0 k h0 hk (by omega)
    refine hgo b w' ?_
    have H := H.drew
    refine H.ldI 0 rfl (ad1 p 0) rfl ?_
    have cE : ∀ {w' : World} {L : List Res} {K : SlV → World → Prop}, Mine w [] w' L → L[1]? = some (.row t_uint8 1 b (u8s (laid s ++ bes g.five))) →
        (∀ z w'', Mine w [] w'' (L ++ [.row t_uint8 1 z (u8s (spOut 136 31 (laid s ++ bes g.five) 32))]) → K z w'') → callK Pr f_ref2_Shake256 [.int .i64 32, .slice b.a b.n b.c] w' fun v w'' => asSl v fun t => K t w'' := by
      intro w' L K H hb hK
      refine call_of (ref2_Shake256_ok 32 b _ _ (H.bytes 1 hb) (by rw [List.length_append]; omega)) ?_
      rintro _ w'' ⟨z, rfl, hz, m⟩
      exact asSl_s (hK z w'' (H.got m hz))
    have fin : ∀ {w' : World} {L : List Res} (a e p2 : Nat) (z : SlV), Mine w [] w' L → L[a]? = some (.blk p2 [.int .u8 (IntKind.wrap .u8 g.n0)] t_uint8) → L[e]? = some (.row t_uint8 1 z (u8s (spOut 136 31 (laid s ++ bes g.five) 32))) →
        appK Pr [t_s_uint8, t_s_uint8] t_s_uint8 [.slice (some ⟨p2, 0, none⟩) 1 1, .slice z.a z.n z.c] w' fun t w'' => Gave w w'' (.slice t.a t.n t.c) ([BitVec.ofInt 8 g.n0] ++ spOut 136 31 (laid s ++ bes g.five) 32) := by
      intro w' L a e p2 z H ha he
      generalize spOut 136 31 (laid s ++ bes g.five) 32 = o at *
      have hz := H.bytes e he
      have hzl := hz.len
      have hal : a < L.length := (List.getElem?_eq_some_iff.1 ha).1
      have H := H.asRow a 1 1 1 ha rfl (Nat.le_refl _) (by simp only [maxLen]; omega)
      rw [wrap_u8_any] at H
      refine H.app8 (s := ⟨some ⟨p2, 0, none⟩, 1, 1⟩) (vs := [BitVec.ofInt 8 g.n0]) a elt_u8 (by rw [List.getElem?_set_self hal]; rfl) hz (by show 1 + z.n ≤ _; omega) fun t w'' H _ => ⟨t, rfl, ?_, H.mod⟩
      exact H.fresh0 a (by rw [List.getElem?_set_self (by simpa using hal)])
    refine ⟨?_, ?_⟩
    · refine H.nw fun p2 w4 H4 _ => cE H4 rfl fun z w5 H5 => ⟨k0 H4 H5 rfl rfl, ?_⟩
      exact fin 2 3 p2 z H5 rfl rfl
    · refine cE H rfl fun z w5 H5 => ⟨k0 H H5 rfl rfl, H5.nw fun p2 w6 H6 _ => ?_⟩
      exact fin 3 2 p2 z H6 rfl rfl
  have H := H.drew
  refine H.ldI 0 rfl (ad1 p 0) rfl (H.ldI 0 rfl (ad1 p 1) rfl (H.ldI 0 rfl (ad1 p 2) rfl (H.ldI 0 rfl (ad1 p 3) rfl (H.ldI 0 rfl (ad1 p 4) rfl ?_))))
  have cC : ∀ {w' : World} {L : List Res} {K : SlV → World → Prop} (b p3 : Nat), Mine w [] w' L → L[b]? = some (.blk p3 [x.v] t_s_uint8) → (∀ y w'', Mine w [] w'' (L ++ [.row t_uint8 1 y (u8s (laid s))]) → K y w'') → callK Pr f_ref14_Bytes [.slice none 0 0, .slice (some ⟨p3, 0, none⟩) 1 1] w' fun v w'' => asSl v fun t => K t w'' := by
    intro w' L K b p3 H hb hK
    refine call_of (ref14_Bytes_ok ⟨none, 0, 0⟩ [] ⟨some ⟨p3, 0, none⟩, 1, 1⟩ [s] (by simp) (by simp) (fun q hq => by rw [List.mem_singleton.1 hq]; omega) _ (Bytes.nil _) (Parts.of1 (H.blk b hb) (by simp) (hx.mod0 H.mod) (off_nil _))) ?_
    rintro _ w'' ⟨y, rfl, hy, m⟩
    rw [show [] ++ laids [s] = laid s by simp [laids]] at hy
    exact asSl_s (hK y w'' (H.got m hy))
  have cN : ∀ {w' : World} {L : List Res} {K : SlV → World → Prop} (b p4 c : Nat) (y : SlV), Mine w [] w' L → L[b]? = some (.blk p4 (i64s g.five) t_int) → L[c]? = some (.row t_uint8 1 y (u8s (laid s))) →
      (∀ z w'', Mine w [] w'' (L ++ [.row t_uint8 1 z (u8s (laid s ++ bes g.five))]) → K z w'') → callK Pr f_ref14_Number [.slice y.a y.n y.c, .slice (some ⟨p4, 0, none⟩) 5 5] w' fun v w'' => asSl v fun t => K t w'' := by
    intro w' L K b p4 c y H hb hc hK
    refine call_of (ref14_Number_ok y _ ⟨some ⟨p4, 0, none⟩, 5, 5⟩ g.five (by omega) (by show 5 ≤ 1000000; omega) _ (H.bytes c hc) (H.blkNums b (l := g.five) hb)) ?_
    rintro _ w'' ⟨z, rfl, hz, m⟩
    exact asSl_s (hK z w'' (H.got m hz))
  refine ⟨?_, ?_⟩
  · refine H.nw fun p3 w2 H2 _ => ⟨k0 H H2 rfl rfl, k0 H H2 rfl rfl, k0 H H2 rfl rfl, k0 H H2 rfl rfl, k0 H H2 rfl rfl, ?_, ?_⟩
    · refine cC 1 p3 H2 rfl fun y w3 H3 => ⟨k0 H2 H3 rfl rfl, k0 H2 H3 rfl rfl, k0 H2 H3 rfl rfl, k0 H2 H3 rfl rfl, k0 H2 H3 rfl rfl, H3.nw fun p4 w4 H4 _ => cN 3 p4 2 y H4 rfl rfl fun z w5 H5 => ?_⟩
      exact rest z w5 _ 4 H5 rfl rfl (by omega)
    · refine H2.nw fun p4 w3 H3 _ => cC 1 p3 H3 rfl fun y w4 H4 => ⟨k0 H3 H4 rfl rfl, k0 H3 H4 rfl rfl, k0 H3 H4 rfl rfl, k0 H3 H4 rfl rfl, k0 H3 H4 rfl rfl, cN 2 p4 3 y H4 rfl rfl fun z w5 H5 => ?_⟩
      exact rest z w5 _ 4 H5 rfl rfl (by omega)
  · refine H.nw fun p4 w2 H2 _ => H2.nw fun p3 w3 H3 _ => ⟨k0 H2 H3 rfl rfl, k0 H2 H3 rfl rfl, k0 H2 H3 rfl rfl, k0 H2 H3 rfl rfl, k0 H2 H3 rfl rfl, cC 2 p3 H3 rfl fun y w4 H4 => ⟨k0 H3 H4 rfl rfl, k0 H3 H4 rfl rfl, k0 H3 H4 rfl rfl, k0 H3 H4 rfl rfl, k0 H3 H4 rfl rfl, cN 1 p4 3 y H4 rfl rfl fun z w5 H5 => ?_⟩⟩
    exact rest z w5 _ 4 H5 rfl rfl (by omega)
end Go.Proofs.YtoeedbljiocpdaaDoor
