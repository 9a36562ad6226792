/- AN ERROR'S NUMBER: what l.Num computes. -/
import Derived.Test.YtoeedbljiocpdaaDoorErrCode
import Derived.Test.YtoeedbljiocpdaaDoorHelp
namespace Go.Proofs.YtoeedbljiocpdaaDoor
open Go Go.Ev
/-- what the package variable errors.errorType holds -/
def Laid (w : World) : Prop := w.cell? ⟨0, 0, none⟩ = some (.iface t_reflectlite_rtype (.agg #[.pointer (some ⟨1, t_error, none⟩)]))
theorem Laid.mod {w w' : World} (h : Laid w) {S : List Nat} (m : Mod S w w') (h0 : 0 ∉ S) : Laid w' := m.cell h h0
theorem Laid.pos {w : World} (h : Laid w) : 0 < w.heap.size := World.block_lt_of_cell? _ _ h
theorem Laid.mod0 {w w' : World} (h : Laid w) (m : Mod [] w w') : Laid w' := m.cell0 h
theorem Laid.mine {w0 w : World} {S : List Nat} {L : List Res} (h : Laid w0) (H : Mine w0 S w L) (h0 : 0 ∉ S) : Laid w := h.mod H.mod h0
theorem mod_four (w : World) (o1 o2 o3 o4 : Obj) (p : Nat) (v : Value) : Mod [p] w (((((w.alloc o1).alloc o2).alloc o3).alloc o4).setCell ⟨p, 0, none⟩ v) :=
  ((((Mod.alloc _ w o1).trans (Mod.alloc _ _ o2)).trans (Mod.alloc _ _ o3)).trans (Mod.alloc _ _ o4)).trans (Mod.setCell _ ⟨p, 0, none⟩ v)
theorem blk_four {w : World} {p : Nat} {u : Value} {t : TypeId} (h : Blk w p [u] t) (o1 o2 o3 o4 : Obj) (v : Value) : Blk (((((w.alloc o1).alloc o2).alloc o3).alloc o4).setCell ⟨p, 0, none⟩ v) p [v] t :=
  ((((h.mod0 (Mod.alloc _ _ o1)).mod0 (Mod.alloc _ _ o2)).mod0 (Mod.alloc _ _ o3)).mod0 (Mod.alloc _ _ o4)).set 0 v
theorem errors_As_fault (e : Addr) (p : Nat) (u : Value) (w : World) (hg : Laid w) (hp : Blk w p [u] t_p_api_Fault) :
    Ok Pr f_errors_As [.iface t_p_api_Fault (.pointer (some e)), .iface t_p_p_api_Fault (.pointer (some ⟨p, 0, none⟩))] w fun v w' => v = .bool true ∧ Mod [p] w w' ∧ Blk w' p [.pointer (some e)] t_p_api_Fault := by
  refine Calls.mono (as_hit e ⟨p, 0, none⟩ u w hg ((hp.cell 0).trans rfl) (hp.frozen 0)) ?_
  rintro _ _ ⟨rfl, rfl⟩
  exact ⟨_, rfl, rfl, mod_four _ _ _ _ _ _ _, blk_four hp _ _ _ _ _⟩
theorem errors_As_code (b : Nat) (c : Int) (p : Nat) (u : Value) (w : World) (hg : Laid w) (hc : w.cell? ⟨b, 0, none⟩ = some (.int .i64 c)) (hp : Blk w p [u] t_api_Errno) :
    Ok Pr f_errors_As [.iface t_p_api_Fault (.pointer (some ⟨b, 0, none⟩)), .iface t_p_api_Errno (.pointer (some ⟨p, 0, none⟩))] w fun v w' => v = .bool true ∧ Mod [p] w w' ∧ Blk w' p [.int .i64 c] t_api_Errno := by
  refine Calls.mono (as_code b c ⟨p, 0, none⟩ u w hg hc ((hp.cell 0).trans rfl) (hp.frozen 0)) ?_
  rintro _ _ ⟨rfl, rfl⟩
  exact ⟨_, rfl, rfl, mod_four _ _ _ _ _ _ _, blk_four hp _ _ _ _ _⟩
theorem errors_Is_code (b : Nat) (c : Int) (w : World) (hc : w.cell? ⟨b, 0, none⟩ = some (.int .i64 c)) : Ok Pr f_errors_Is [.iface t_p_api_Fault (.pointer (some ⟨b, 0, none⟩)), .iface t_api_Errno (.int .i64 c)] w fun v w' => v = .bool true ∧ w' = w := by
  refine Calls.mono (is_code b c w hc) ?_
  rintro _ _ ⟨rfl, rfl⟩
  exact ⟨_, rfl, rfl, rfl⟩
theorem zcErrno : zc Pr t_api_Errno = [.int .i64 0] := by kernel_rfl
theorem zcPF : zc Pr t_p_api_Fault = [.pointer none] := by kernel_rfl
theorem api_Code_ok (b : Nat) (c : Int) (w : World) (hg : Laid w) (hc : w.cell? ⟨b, 0, none⟩ = some (.int .i64 c)) : Ok Pr f_api_Code [.iface t_p_api_Fault (.pointer (some ⟨b, 0, none⟩))] w fun v w' => v = .int .i64 c ∧ Mod [] w w' := by
  refine V_api_Code_of ?_
  unfold V_api_Code
  rw [zcErrno]
  refine (Mine.start w).nw fun p w1 H hp => ?_
  refine ifn_iface (ite_false rfl (call_of (errors_As_code b c p _ w1 (hg.mine H (by simp)) (H.mod.cell0 hc) (H.blk 0 rfl)) ?_))
  rintro _ w2 ⟨rfl, m2, h2⟩
  have H2 := H.upd (r' := .blk p [.int .i64 c] t_api_Errno) 0 rfl m2 (fun c hc => .inl hc) h2 (fun c hc => .inl hc)
  exact asB_b (ite_true rfl (H2.ldI 0 rfl rfl rfl ⟨rfl, H2.mod⟩))
theorem law0_Num_nil (w : World) : Ok Pr f_law0_Num [.nilIface] w fun v w' => v = .int .i64 0 ∧ w' = w := by
  refine V_law0_Num_of ?_
  unfold V_law0_Num
  exact ⟨rfl, rfl⟩
theorem law0_Num_ok (b : Nat) (c : Int) (s : ByteArray) (w : World) (hg : Laid w) (hb : Blk w b [.int .i64 c, .string s] t_api_Fault) (hc : c ≠ 0) : Ok Pr f_law0_Num [.iface t_p_api_Fault (.pointer (some ⟨b, 0, none⟩))] w fun v w' => v = .int .i64 c ∧ Mod [] w w' := by
  refine V_law0_Num_of ?_
  unfold V_law0_Num
  rw [zcPF]
  have hb0 : w.cell? ⟨b, 0, none⟩ = some (.int .i64 c) := (hb.cell 0).trans rfl
  refine ifn_iface (ite_false rfl ((Mine.start w).nw fun p w1 H hp => join0_of fun go hgo => ?_))
  have H := H.drew
  refine call_of (errors_As_fault ⟨b, 0, none⟩ p _ _ (hg.mine H (by simp)) (H.blk 0 rfl)) ?_
  rintro _ w3 ⟨rfl, m3, h3⟩
  have H := H.upd (r' := .blk p [.pointer (some ⟨b, 0, none⟩)] t_p_api_Fault) 0 rfl m3 (fun c hc => .inl hc) h3 (fun c hc => .inl hc)
  have hb3 : w3.cell? (Addr.add ⟨b, 0, none⟩ 0) = some (.int .i64 c) := by rw [ad00]; exact H.mod.cell0 hb0
  refine asB_b (H.ldP 0 rfl rfl rfl (H.ldP 0 rfl rfl rfl (ite_false rfl (nc ⟨c, hb3, H.ldP 0 rfl rfl rfl (ite_false (decide_eq_false hc) (nc ⟨c, hb3, ?_⟩))⟩))))
  refine call_of (errors_Is_code b c _ (by rw [← ad00]; exact hb3)) ?_
  rintro _ _ ⟨rfl, rfl⟩
  refine asB_b (H.ldP 0 rfl rfl rfl (ite_false rfl (nc ⟨c, hb3, ?_⟩)))
  refine call_of (api_Code_ok b c _ (hg.mine H (by simp)) (by rw [← ad00]; exact hb3)) ?_
  rintro _ w5 ⟨rfl, m5⟩
  refine asI_i ⟨kept_nil m5 hb3, H.kept m5 0 rfl rfl 1, ite_false (by simp) (hgo w5 ?_)⟩
  have H := H.frame m5
  refine H.ldP 0 rfl rfl rfl (nc ⟨c, ?_, rfl, H.mod⟩)
  rw [ad00]; exact H.mod.cell0 hb0
end Go.Proofs.YtoeedbljiocpdaaDoor
