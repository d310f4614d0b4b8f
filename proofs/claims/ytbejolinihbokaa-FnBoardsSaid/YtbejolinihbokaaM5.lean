/- Texts of one proof, put together: C19, C20. -/
import Derived.Test.YtbejolinihbokaaM4
namespace Go.VL
open Go.RowKit
set_option maxRecDepth 20000
set_option maxHeartbeats 8000000
/-- The reference's board, as a called function sees it; the wire in its place, or anew. -/
abbrev doH (p : Int) (b : Bd) : List Ob := [⟨[.v (.int .i64 p), .any], 33, true⟩, ⟨[.pt 0 0, .mu 2 0 b.nw.length 2, .mu 3 0 b.ps.length 2, .mu 4 0 b.sv.length 2, .mu 5 0 b.kn.length 1, .mu 6 0 b.wr.length 4], 90, true⟩, ⟨flat pe b.nw, 46, true⟩, ⟨flat pe b.ps, 46, true⟩, ⟨flat pe b.sv, 46, true⟩, ⟨flat int b.kn, 2, true⟩, ⟨flat nce b.wr, 101, true⟩]
abbrev doH2 (p : Int) (b : Bd) : List Ob := [⟨[.v (.int .i64 p), .any], 33, true⟩, ⟨[.pt 0 0, .mu 2 0 b.nw.length 2, .mu 3 0 b.ps.length 2, .mu 4 0 b.sv.length 2, .mu 5 0 b.kn.length 1, .mu 7 0 b.wr.length 4], 90, true⟩, ⟨flat pe b.nw, 46, true⟩, ⟨flat pe b.ps, 46, true⟩, ⟨flat pe b.sv, 46, true⟩, ⟨flat int b.kn, 2, true⟩, ⟨[], 101, false⟩, ⟨flat nce b.wr, 101, true⟩]
def doP (p : Int) (b : Bd) (d : De) (r : V) (H1 : List Ob) : Prop := (∃ x : Bd × Int, doB p b d = x ∧ r = cI x.2 ∧ H1 = doH p x.1) ∨ ∃ x : Bd × Int, doB p b d = x ∧ r = cI x.2 ∧ H1 = doH2 p x.1
theorem c84g (p : Int) (n i : Nat) (b : Bd) (d : De) (hok : okB n i b) (hd : dOk d) (hi : i ≤ 200) (hf : n ≤ 6) : CallC X 84 [.c (.pt 1 0), .agg (dce d)] (doH p b) (doP p b d) := by
  refine GraphC.of_body (drawD_ok X) (fun _ _ => Go.Proofs.Try.call84 _ _) Go.Proofs.Try.func84 rfl (n := 136) rfl rfl ?_
  have hd1 := hd.1
  obtain ⟨a, ha⟩ : ∃ a : Nat, d.2.1 = a := Int.eq_ofNat_of_zero_le hd.2.1.1
  have ha9 : a ≤ 999 := by have hd2 := hd.2.1.2; omega
  have n1 := hok.nw
  have n2 := hok.ps
  have n3 := hok.sv
  have n4 := hok.kn
  have n5 := hok.wr
  refine w_seq ?_
  refine w_reg rfl ?_
  refine v_box (m := 7) (H' := [_, _, _, _, _, _, _, _]) lay25 rfl rfl rfl ?_
  refine v_assign (c := .v (.int .i64 0)) rfl ?_
  refine v_nil ?_
  refine q_n ?_
  refine w_seq ?_
  refine w_seq ?_
  refine w_reg rfl ?_
  refine v_fa_pt (off' := 0) lay25 rfl rfl rfl ?_
  refine v_load_pt (.c _) lay2 rfl rfl rfl rfl ?_
  refine v_callb (c64 _ _ _) rfl rfl (.cons vw_v (.cons vw_v (.cons vw_v .nil))) (fun h1 => ?_) (fun h1 => ?_)
  rotate_left
  · refine v_nil ?_
    refine q_n ?_
    refine w_f rfl ?_
    refine w_skip ?_
    refine q_n ?_
    refine w_seq ?_
    refine w_seq ?_
    refine w_draw [0, 1, 0, 4, 12, 28, 60, 124, 255, 511, 1023, 2047, 4095, 8191, 16383, 32767, 16383, 81919, 212991, 475135, 999423, 2047999, 4145151, 8388607, 16777215, 33554431] [⟨0, 0, []⟩, ⟨1, 0, []⟩, ⟨2, 0, []⟩, ⟨3, 0, []⟩, ⟨4, 0, []⟩, ⟨5, 0, []⟩, ⟨6, 0, []⟩, ⟨7, 0, []⟩, ⟨8, 0, []⟩, ⟨9, 0, []⟩, ⟨10, 0, []⟩, ⟨11, 0, []⟩, ⟨12, 0, []⟩, ⟨13, 0, []⟩, ⟨14, 0, []⟩, ⟨15, 0, []⟩, ⟨16, 0, []⟩, ⟨17, 0, []⟩, ⟨18, 0, []⟩, ⟨19, 0, []⟩, ⟨20, 0, []⟩, ⟨21, 0, []⟩, ⟨22, 0, []⟩, ⟨23, 0, []⟩, ⟨24, 0, []⟩, ⟨25, 0, []⟩] rfl rfl ?_
    refine d_q rfl rfl rfl rfl rfl ?_
    refine v_fa_pt (off' := 1) lay25 rfl rfl rfl ?_
    refine v_nil ?_
    refine d_q rfl rfl rfl rfl rfl ?_
    refine v_load_pt (.c _) lay2 rfl rfl rfl rfl ?_
    refine v_nil ?_
    refine d_q rfl rfl rfl rfl rfl ?_
    refine v_move rfl ?_
    refine v_nil ?_
    refine d_q rfl rfl rfl rfl rfl ?_
    refine v_nil_pt rfl ?_
    refine v_nil ?_
    refine d_q rfl rfl rfl rfl rfl ?_
    refine v_fa_pt (off' := 1) lay90 rfl rfl rfl ?_
    refine v_nil ?_
    refine d_q rfl rfl rfl rfl rfl ?_
    refine v_fa_pt (off' := 2) lay64 rfl rfl rfl ?_
    refine v_nil ?_
    refine d_q rfl rfl rfl rfl rfl ?_
    refine v_load_pt (.c _) lay61 rfl rfl rfl rfl ?_
    refine v_nil ?_
    refine d_q rfl rfl rfl rfl rfl ?_
    refine v_len_mu lay61 rfl ?_
    refine v_nil ?_
    refine d_q rfl rfl rfl rfl rfl ?_
    refine v_geq lay2 rfl rfl (fun h39 => ?_) (fun h39 => ?_)
    · refine v_nil ?_
      refine d_q rfl rfl rfl rfl rfl ?_
      refine v_move rfl ?_
      refine v_nil ?_
      refine d_off rfl rfl ?_
      refine d_off rfl rfl ?_
      refine d_off rfl rfl ?_
      refine d_off rfl rfl ?_
      refine d_off rfl rfl ?_
      refine d_off rfl rfl ?_
      refine d_off rfl rfl ?_
      refine d_off rfl rfl ?_
      refine d_off rfl rfl ?_
      refine d_off rfl rfl ?_
      refine d_off rfl rfl ?_
      refine d_off rfl rfl ?_
      refine d_off rfl rfl ?_
      refine d_off rfl rfl ?_
      refine d_off rfl rfl ?_
      refine d_q rfl rfl rfl rfl rfl ?_
      refine v_pick_t (v := .v (.bool true)) rfl rfl ?_
      refine v_nil ?_
      refine d_nil ?_
      refine q_n ?_
      refine w_t rfl ?_
      refine w_seq ?_
      refine w_reg rfl ?_
      refine v_assign (c := .v (.int .i64 2)) rfl ?_
      refine v_nil ?_
      refine q_n ?_
      refine w_ret (q_r ?_)
      refine r_r rfl ?_
      have hdo : doB p b d = (b, 2) := do_pbad h1 ha (by omega)
      exact g_ans (H1 := doH p (b)) [some 0, some 1, some 2, some 3, some 4, some 5, some 6] rfl rfl rfl ⟨fun _ => ⟨_, rfl, .cons tr_v (.cons (.c (.dn .any)) .nil)⟩, fun _ => ⟨_, rfl, .cons (tr_pt rfl) (.cons (tr_mun rfl (by first | rfl | (simp; done) | (simp; omega) | (rw [bg_l (by omega)]))) (.cons (tr_mun rfl (by first | rfl | (simp; done) | (simp; omega) | (rw [bg_l (by omega)]))) (.cons (tr_mun rfl (by first | rfl | (simp; done) | (simp; omega) | (rw [bg_l (by omega)]))) (.cons (tr_mun rfl (by first | rfl | (simp; done) | (simp; omega) | (rw [bg_l (by omega)]))) (.cons (tr_mun rfl (by first | rfl | (simp; done) | (simp; omega) | (rw [bg_l (by omega)]))) .nil)))))⟩, fun _ => ⟨_, rfl, trc_flat pe_sc rfl⟩, fun _ => ⟨_, rfl, trc_flat pe_sc rfl⟩, fun _ => ⟨_, rfl, trc_flat pe_sc rfl⟩, fun _ => ⟨_, rfl, trc_flat int_sc rfl⟩, fun _ => ⟨_, rfl, trc_flat nce_sc rfl⟩, trivial⟩ tr_v (.inl ⟨_, hdo, rfl, rfl⟩)
    have k1 : a < b.nw.length := by omega
    have k2 : a < b.ps.length := by omega
    have k3 : a < b.sv.length := by omega
    have hve := hok.ve _ (List.getElem_mem k1)
    refine v_nil ?_
    refine d_q rfl rfl rfl rfl rfl ?_
    refine v_move rfl ?_
    refine v_nil ?_
    refine d_q rfl rfl rfl rfl rfl ?_
    refine v_fa_pt (off' := 0) lay25 rfl rfl rfl ?_
    refine v_nil ?_
    refine d_q rfl rfl rfl rfl rfl ?_
    refine v_load_pt (.c _) lay2 rfl rfl rfl rfl ?_
    refine v_nil ?_
    refine d_q rfl rfl rfl rfl rfl ?_
    refine v_eql lay2 rfl rfl (fun h40 => ?_) (fun h40 => ?_)
    · refine v_nil ?_
      refine d_q rfl rfl rfl rfl rfl ?_
      refine v_move rfl ?_
      refine v_nil ?_
      refine d_q rfl rfl rfl rfl rfl ?_
      refine v_fa_pt (off' := 2) lay25 rfl rfl rfl ?_
      refine v_nil ?_
      refine d_q rfl rfl rfl rfl rfl ?_
      refine v_load_pt (.c _) lay2 rfl rfl rfl rfl ?_
      refine v_nil ?_
      refine d_q rfl rfl rfl rfl rfl ?_
      refine v_move rfl ?_
      refine v_nil ?_
      refine d_q rfl rfl rfl rfl rfl ?_
      refine v_nil_pt rfl ?_
      refine v_nil ?_
      refine d_q rfl rfl rfl rfl rfl ?_
      refine v_fa_pt (off' := 0) lay90 rfl rfl rfl ?_
      refine v_nil ?_
      refine d_q rfl rfl rfl rfl rfl ?_
      refine v_load_pt (.c _) lay76 rfl rfl rfl rfl ?_
      refine v_nil ?_
      refine d_q rfl rfl rfl rfl rfl ?_
      refine v_nil_pt rfl ?_
      refine v_nil ?_
      refine d_q rfl rfl rfl rfl rfl ?_
      refine v_fa_pt (off' := 0) lay33 rfl rfl rfl ?_
      refine v_nil ?_
      refine d_q rfl rfl rfl rfl rfl ?_
      refine v_load_pt (.c _) lay2 rfl rfl rfl rfl ?_
      refine v_nil ?_
      refine d_q rfl rfl rfl rfl rfl ?_
      refine v_geq lay2 rfl rfl (fun h41 => ?_) (fun h41 => ?_)
      · refine v_nil ?_
        refine d_q rfl rfl rfl rfl rfl ?_
        refine v_pick_t rfl rfl ?_
        refine v_nil ?_
        refine d_q rfl rfl rfl rfl rfl ?_
        refine v_pick_f rfl rfl ?_
        refine v_nil ?_
        refine d_nil ?_
        refine q_n ?_
        refine w_t rfl ?_
        refine w_seq ?_
        refine w_reg rfl ?_
        refine v_assign (c := .v (.int .i64 2)) rfl ?_
        refine v_nil ?_
        refine q_n ?_
        refine w_ret (q_r ?_)
        refine r_r rfl ?_
        have hdo : doB p b d = (b, 2) := do_obad (by omega) (by omega)
        exact g_ans (H1 := doH p (b)) [some 0, some 1, some 2, some 3, some 4, some 5, some 6] rfl rfl rfl ⟨fun _ => ⟨_, rfl, .cons tr_v (.cons (.c (.dn .any)) .nil)⟩, fun _ => ⟨_, rfl, .cons (tr_pt rfl) (.cons (tr_mun rfl (by first | rfl | (simp; done) | (simp; omega) | (rw [bg_l (by omega)]))) (.cons (tr_mun rfl (by first | rfl | (simp; done) | (simp; omega) | (rw [bg_l (by omega)]))) (.cons (tr_mun rfl (by first | rfl | (simp; done) | (simp; omega) | (rw [bg_l (by omega)]))) (.cons (tr_mun rfl (by first | rfl | (simp; done) | (simp; omega) | (rw [bg_l (by omega)]))) (.cons (tr_mun rfl (by first | rfl | (simp; done) | (simp; omega) | (rw [bg_l (by omega)]))) .nil)))))⟩, fun _ => ⟨_, rfl, trc_flat pe_sc rfl⟩, fun _ => ⟨_, rfl, trc_flat pe_sc rfl⟩, fun _ => ⟨_, rfl, trc_flat pe_sc rfl⟩, fun _ => ⟨_, rfl, trc_flat int_sc rfl⟩, fun _ => ⟨_, rfl, trc_flat nce_sc rfl⟩, trivial⟩ tr_v (.inl ⟨_, hdo, rfl, rfl⟩)
      refine v_nil ?_
      refine d_q rfl rfl rfl rfl rfl ?_
      refine v_pick_t rfl rfl ?_
      refine v_nil ?_
      refine d_q rfl rfl rfl rfl rfl ?_
      refine v_pick_f rfl rfl ?_
      refine v_nil ?_
      refine d_nil ?_
      refine q_n ?_
      refine w_f rfl ?_
      refine w_skip ?_
      refine q_n ?_
      refine w_seq ?_
      refine w_seq ?_
      refine w_reg rfl ?_
      refine v_fa_pt (off' := 0) lay25 rfl rfl rfl ?_
      refine v_load_pt (.c _) lay2 rfl rfl rfl rfl ?_
      refine v_nil ?_
      refine q_n ?_
      refine w_block ?_
      refine w_seq ?_
      refine w_reg rfl ?_
      refine v_eql lay2 rfl rfl (fun h42 => ?_) (fun h42 => ?_)
      rotate_left
      · exfalso; omega
      refine v_assign rfl ?_
      refine v_nil ?_
      refine q_n ?_
      refine w_t rfl ?_
      refine w_draw [0, 1, 3, 7, 15, 0, 32, 0, 128, 0, 512, 1536, 3584, 7680, 0, 16384, 65024, 130560, 261632, 523776, 1048448, 2097151, 4194303] [⟨0, 0, []⟩, ⟨1, 0, []⟩, ⟨2, 0, []⟩, ⟨3, 0, []⟩, ⟨4, 0, []⟩, ⟨5, 0, []⟩, ⟨6, 0, []⟩, ⟨7, 0, []⟩, ⟨8, 0, []⟩, ⟨9, 0, []⟩, ⟨10, 0, []⟩, ⟨11, 0, []⟩, ⟨12, 0, []⟩, ⟨13, 0, []⟩, ⟨14, 0, []⟩, ⟨15, 0, []⟩, ⟨16, 0, []⟩, ⟨17, 0, []⟩, ⟨18, 0, []⟩, ⟨19, 0, []⟩, ⟨20, 0, []⟩, ⟨21, 0, []⟩, ⟨22, 1, []⟩] rfl rfl ?_
      refine d_q rfl rfl rfl rfl rfl ?_
      refine v_move rfl ?_
      refine v_nil ?_
      refine d_q rfl rfl rfl rfl rfl ?_
      refine v_nil_pt rfl ?_
      refine v_nil ?_
      refine d_q rfl rfl rfl rfl rfl ?_
      refine v_fa_pt (off' := 1) lay90 rfl rfl rfl ?_
      refine v_nil ?_
      refine d_q rfl rfl rfl rfl rfl ?_
      refine v_fa_pt (off' := 1) lay64 rfl rfl rfl ?_
      refine v_nil ?_
      refine d_q rfl rfl rfl rfl rfl ?_
      refine v_load_pt (.c _) lay61 rfl rfl rfl rfl ?_
      refine v_nil ?_
      refine d_q rfl rfl rfl rfl rfl ?_
      refine v_fa_pt (off' := 1) lay25 rfl rfl rfl ?_
      refine v_nil ?_
      refine d_q rfl rfl rfl rfl rfl ?_
      refine v_load_pt (.c _) lay2 rfl rfl rfl rfl ?_
      refine v_nil ?_
      refine d_q rfl rfl rfl rfl rfl ?_
      refine v_fa_pt (off' := 2) lay25 rfl rfl rfl ?_
      refine v_nil ?_
      refine d_q rfl rfl rfl rfl rfl ?_
      refine v_load_pt (.c _) lay2 rfl rfl rfl rfl ?_
      refine v_nil ?_
      refine d_q rfl rfl rfl rfl rfl ?_
      refine v_move rfl ?_
      refine v_nil ?_
      refine d_q rfl rfl rfl rfl rfl ?_
      refine v_nil_pt rfl ?_
      refine v_nil ?_
      refine d_q rfl rfl rfl rfl rfl ?_
      refine v_fa_pt (off' := 1) lay90 rfl rfl rfl ?_
      refine v_nil ?_
      refine d_q rfl rfl rfl rfl rfl ?_
      refine v_fa_pt (off' := 1) lay64 rfl rfl rfl ?_
      refine v_nil ?_
      refine d_q rfl rfl rfl rfl rfl ?_
      refine v_load_pt (.c _) lay61 rfl rfl rfl rfl ?_
      refine v_nil ?_
      refine d_q rfl rfl rfl rfl rfl ?_
      refine v_fa_pt (off' := 1) lay25 rfl rfl rfl ?_
      refine v_nil ?_
      refine d_q rfl rfl rfl rfl rfl ?_
      refine v_load_pt (.c _) lay2 rfl rfl rfl rfl ?_
      refine v_nil ?_
      refine d_q rfl rfl rfl rfl rfl ?_
      refine v_idx_mu_e (k := 2) (off := 0) (a) lay61 lay46 rfl rfl rfl (ha) (by omega) ?_
      refine v_nil ?_
      refine d_q rfl rfl rfl rfl rfl ?_
      refine v_fa_pt (off' := _) lay46 rfl rfl rfl ?_
      refine v_nil ?_
      refine d_q rfl rfl rfl rfl rfl ?_
      refine v_load_flat a 1 (.c (.v _)) pe_len lay2 rfl rfl (by omega) (by first | omega | (simp; omega)) rfl rfl ?_
      refine v_nil ?_
      refine d_q rfl rfl rfl rfl rfl ?_
      refine v_add lay2 rfl rfl (i64r (by omega)) ?_
      refine v_nil ?_
      refine d_q rfl rfl rfl rfl rfl ?_
      refine v_build [(0, 1), (1, 1)] [.v _, .v _] lay46 rfl rfl ?_
      refine v_nil ?_
      refine d_q rfl rfl rfl rfl rfl ?_
      refine v_idx_mu_e (k := 2) (off := 0) (a) lay61 lay46 rfl rfl rfl (ha) (by omega) ?_
      refine v_nil ?_
      refine d_e rfl rfl rfl ?_
      refine v_store_flat (H' := [_, _, _, _, _, _, _, _]) a 0 ((d.2.2, b.nw[a].2 + 1)) pe_len lay46 rfl rfl rfl (by omega) (by first | omega | (simp; omega)) rfl rfl (rfl) rfl ?_
      refine v_nil ⟨again_nil, ?_⟩
      refine d_nil ?_
      refine q_bn ?_
      refine q_n ?_
      refine w_seq ?_
      refine w_reg rfl ?_
      refine v_assign (c := .v (.int .i64 0)) rfl ?_
      refine v_nil ?_
      refine q_n ?_
      refine w_ret ?_
      refine r_r rfl ?_
      have hdo : doB p b d = ({ b with nw := b.nw.set a (d.2.2, b.nw[a].2 + 1) }, 0) := do_order (by omega) ha k2 k1 (by omega)
      exact g_ans (H1 := doH p ({ b with nw := b.nw.set a (d.2.2, b.nw[a].2 + 1) })) [some 0, some 1, some 2, some 3, some 4, some 5, some 6] rfl rfl rfl ⟨fun _ => ⟨_, rfl, .cons tr_v (.cons (.c (.dn .any)) .nil)⟩, fun _ => ⟨_, rfl, .cons (tr_pt rfl) (.cons (tr_mun rfl (by first | rfl | (simp; done) | (simp; omega) | (rw [bg_l (by omega)]))) (.cons (tr_mun rfl (by first | rfl | (simp; done) | (simp; omega) | (rw [bg_l (by omega)]))) (.cons (tr_mun rfl (by first | rfl | (simp; done) | (simp; omega) | (rw [bg_l (by omega)]))) (.cons (tr_mun rfl (by first | rfl | (simp; done) | (simp; omega) | (rw [bg_l (by omega)]))) (.cons (tr_mun rfl (by first | rfl | (simp; done) | (simp; omega) | (rw [bg_l (by omega)]))) .nil)))))⟩, fun _ => ⟨_, rfl, trc_flat pe_sc rfl⟩, fun _ => ⟨_, rfl, trc_flat pe_sc rfl⟩, fun _ => ⟨_, rfl, trc_flat pe_sc rfl⟩, fun _ => ⟨_, rfl, trc_flat int_sc rfl⟩, fun _ => ⟨_, rfl, trc_flat nce_sc rfl⟩, trivial⟩ tr_v (.inl ⟨_, hdo, rfl, rfl⟩)
    refine v_nil ?_
    refine d_q rfl rfl rfl rfl rfl ?_
    refine v_move rfl ?_
    refine v_nil ?_
    refine d_off rfl rfl ?_
    refine d_off rfl rfl ?_
    refine d_off rfl rfl ?_
    refine d_off rfl rfl ?_
    refine d_off rfl rfl ?_
    refine d_off rfl rfl ?_
    refine d_off rfl rfl ?_
    refine d_off rfl rfl ?_
    refine d_off rfl rfl ?_
    refine d_off rfl rfl ?_
    refine d_q rfl rfl rfl rfl rfl ?_
    refine v_pick_f (v := .v (.bool false)) rfl rfl ?_
    refine v_nil ?_
    refine d_q rfl rfl rfl rfl rfl ?_
    refine v_pick_f rfl rfl ?_
    refine v_nil ?_
    refine d_nil ?_
    refine q_n ?_
    refine w_f rfl ?_
    refine w_skip ?_
    refine q_n ?_
    refine w_seq ?_
    refine w_seq ?_
    refine w_reg rfl ?_
    refine v_fa_pt (off' := 0) lay25 rfl rfl rfl ?_
    refine v_load_pt (.c _) lay2 rfl rfl rfl rfl ?_
    refine v_nil ?_
    refine q_n ?_
    refine w_block ?_
    refine w_seq ?_
    refine w_reg rfl ?_
    refine v_eql lay2 rfl rfl (fun h45 => ?_) (fun h45 => ?_)
    · exfalso; omega
    refine v_assign rfl ?_
    refine v_nil ?_
    refine q_n ?_
    refine w_f rfl ?_
    refine w_seq ?_
    refine w_reg rfl ?_
    refine v_eql lay2 rfl rfl (fun h46 => ?_) (fun h46 => ?_)
    · refine v_assign rfl ?_
      refine v_nil ?_
      refine q_n ?_
      refine w_t rfl ?_
      refine w_seq ?_
      refine w_seq ?_
      refine w_reg rfl ?_
      refine v_move rfl ?_
      refine v_nil_pt rfl ?_
      refine v_fa_pt (off' := 1) lay90 rfl rfl rfl ?_
      refine v_fa_pt (off' := 5) lay64 rfl rfl rfl ?_
      refine v_load_pt (.c _) lay62 rfl rfl rfl rfl ?_
      refine v_len_mu lay62 rfl ?_
      refine v_geq lay3 rfl rfl (fun h47 => ?_) (fun h47 => ?_)
      · refine v_nil ?_
        refine q_n ?_
        refine w_t rfl ?_
        refine w_seq ?_
        refine w_reg rfl ?_
        refine v_assign (c := .v (.int .i64 3)) rfl ?_
        refine v_nil ?_
        refine q_n ?_
        refine w_ret (q_r (q_br (q_r ?_)))
        refine r_r rfl ?_
        have hdo : doB p b d = (b, 3) := do_sfull (by omega) ha k2 (by omega)
        exact g_ans (H1 := doH p (b)) [some 0, some 1, some 2, some 3, some 4, some 5, some 6] rfl rfl rfl ⟨fun _ => ⟨_, rfl, .cons tr_v (.cons (.c (.dn .any)) .nil)⟩, fun _ => ⟨_, rfl, .cons (tr_pt rfl) (.cons (tr_mun rfl (by first | rfl | (simp; done) | (simp; omega) | (rw [bg_l (by omega)]))) (.cons (tr_mun rfl (by first | rfl | (simp; done) | (simp; omega) | (rw [bg_l (by omega)]))) (.cons (tr_mun rfl (by first | rfl | (simp; done) | (simp; omega) | (rw [bg_l (by omega)]))) (.cons (tr_mun rfl (by first | rfl | (simp; done) | (simp; omega) | (rw [bg_l (by omega)]))) (.cons (tr_mun rfl (by first | rfl | (simp; done) | (simp; omega) | (rw [bg_l (by omega)]))) .nil)))))⟩, fun _ => ⟨_, rfl, trc_flat pe_sc rfl⟩, fun _ => ⟨_, rfl, trc_flat pe_sc rfl⟩, fun _ => ⟨_, rfl, trc_flat pe_sc rfl⟩, fun _ => ⟨_, rfl, trc_flat int_sc rfl⟩, fun _ => ⟨_, rfl, trc_flat nce_sc rfl⟩, trivial⟩ tr_v (.inl ⟨_, hdo, rfl, rfl⟩)
      refine v_nil ?_
      refine q_n ?_
      refine w_f rfl ?_
      refine w_skip ?_
      refine q_n ?_
      refine w_seq ?_
      refine w_draw [0, 1, 3, 7, 15, 0, 32, 127, 255, 0, 1023] [⟨0, 0, []⟩, ⟨1, 0, []⟩, ⟨2, 0, []⟩, ⟨3, 0, []⟩, ⟨4, 0, []⟩, ⟨5, 0, []⟩, ⟨6, 0, []⟩, ⟨7, 0, []⟩, ⟨8, 0, []⟩, ⟨9, 1, [4, 6, 8]⟩, ⟨10, 1, []⟩] rfl rfl ?_
      refine d_q rfl rfl rfl rfl rfl ?_
      refine v_move rfl ?_
      refine v_nil ?_
      refine d_q rfl rfl rfl rfl rfl ?_
      refine v_nil_pt rfl ?_
      refine v_nil ?_
      refine d_q rfl rfl rfl rfl rfl ?_
      refine v_fa_pt (off' := 1) lay90 rfl rfl rfl ?_
      refine v_nil ?_
      refine d_q rfl rfl rfl rfl rfl ?_
      refine v_fa_pt (off' := 1) lay64 rfl rfl rfl ?_
      refine v_nil ?_
      refine d_q rfl rfl rfl rfl rfl ?_
      refine v_load_pt (.c _) lay61 rfl rfl rfl rfl ?_
      refine v_nil ?_
      refine d_q rfl rfl rfl rfl rfl ?_
      refine v_fa_pt (off' := 1) lay25 rfl rfl rfl ?_
      refine v_nil ?_
      refine d_q rfl rfl rfl rfl rfl ?_
      refine v_load_pt (.c _) lay2 rfl rfl rfl rfl ?_
      refine v_nil ?_
      refine d_q rfl rfl rfl rfl rfl ?_
      refine v_idx_mu_e (k := 2) (off := 0) (a) lay61 lay46 rfl rfl rfl (ha) (by omega) ?_
      refine v_nil ?_
      refine d_q rfl rfl rfl rfl rfl ?_
      refine v_load_flat a 0 (.agg [.v _, .v _]) pe_len lay46 rfl rfl (by omega) (by first | omega | (simp; omega)) rfl rfl ?_
      refine v_nil ?_
      refine d_e rfl rfl rfl ?_
      refine v_alloc (m := 8) (H' := [_, _, _, _, _, _, _, _, ⟨[.v _, .v _], 46, true⟩]) lay46 rfl rfl ?_
      refine v_nil ⟨⟨ag_load_flat a 0 (.agg [.v _, .v _]) pe_len lay46 rfl rfl (by omega) (by first | omega | (simp; omega)) rfl rfl, ⟨ag_load_pt (.c _) lay2 rfl rfl rfl rfl, ⟨ag_load_pt (.c _) lay61 rfl rfl rfl rfl, trivial⟩⟩⟩, ?_⟩
      refine d_e rfl rfl rfl ?_
      refine v_store (H' := [_, _, _, _, _, _, _, _, ⟨[_, _], 46, true⟩]) lay46 rfl rfl rfl rfl rfl rfl ?_
      refine v_nil ⟨again_nil, ?_⟩
      refine d_nil ?_
      refine q_n ?_
      refine w_draw [0, 0, 2, 6, 14, 30, 0, 64, 0, 256, 0, 1024, 4032, 8128, 16382, 32767, 65535, 131071, 262143] [⟨0, 0, []⟩, ⟨1, 0, []⟩, ⟨2, 0, []⟩, ⟨3, 0, []⟩, ⟨4, 0, []⟩, ⟨5, 0, []⟩, ⟨6, 0, []⟩, ⟨7, 0, []⟩, ⟨8, 0, []⟩, ⟨9, 0, []⟩, ⟨10, 0, []⟩, ⟨11, 0, []⟩, ⟨12, 0, []⟩, ⟨13, 2, []⟩, ⟨14, 1, []⟩, ⟨15, 0, []⟩, ⟨16, 0, []⟩, ⟨17, 0, []⟩, ⟨18, 1, []⟩] rfl rfl ?_
      refine d_q rfl rfl rfl rfl rfl ?_
      refine v_move rfl ?_
      refine v_nil ?_
      refine d_q rfl rfl rfl rfl rfl ?_
      refine v_move rfl ?_
      refine v_nil ?_
      refine d_q rfl rfl rfl rfl rfl ?_
      refine v_nil_pt rfl ?_
      refine v_nil ?_
      refine d_q rfl rfl rfl rfl rfl ?_
      refine v_fa_pt (off' := 1) lay90 rfl rfl rfl ?_
      refine v_nil ?_
      refine d_q rfl rfl rfl rfl rfl ?_
      refine v_fa_pt (off' := 5) lay64 rfl rfl rfl ?_
      refine v_nil ?_
      refine d_q rfl rfl rfl rfl rfl ?_
      refine v_load_pt (.c _) lay62 rfl rfl rfl rfl ?_
      refine v_nil ?_
      refine d_q rfl rfl rfl rfl rfl ?_
      refine v_fa_pt (off' := 1) lay25 rfl rfl rfl ?_
      refine v_nil ?_
      refine d_q rfl rfl rfl rfl rfl ?_
      refine v_load_pt (.c _) lay2 rfl rfl rfl rfl ?_
      refine v_nil ?_
      refine d_q rfl rfl rfl rfl rfl ?_
      refine v_fa_pt (off' := 0) lay46 rfl rfl rfl ?_
      refine v_nil ?_
      refine d_q rfl rfl rfl rfl rfl ?_
      refine v_load_pt (.c _) lay2 rfl rfl rfl rfl ?_
      refine v_nil ?_
      refine d_q rfl rfl rfl rfl rfl ?_
      refine v_fa_pt (off' := 1) lay46 rfl rfl rfl ?_
      refine v_nil ?_
      refine d_q rfl rfl rfl rfl rfl ?_
      refine v_load_pt (.c _) lay2 rfl rfl rfl rfl ?_
      refine v_nil ?_
      refine d_q rfl rfl rfl rfl rfl ?_
      refine v_build [(0, 1), (1, 1), (2, 1), (3, 1)] [.v _, .v _, .v _, .v _] lay101 rfl rfl ?_
      refine v_nil ?_
      refine d_z (.c (.sl true 1 4 (flat nce [(false, d.2.1, b.nw[a].1, b.nw[a].2)]))) rfl rfl rfl ?_
      refine d_e rfl rfl rfl ?_
      refine v_app_flat_sl (H' := [_, _, _, _, _, _, _, _, _, _]) nce_sc nce_len lay62 lay101 rfl rfl (by first | rfl | (simp; done) | (simp; omega) | omega | (rw [bg_l (by omega)])) rfl rfl rfl (by unfold maxLen; simp only []; omega) rfl rfl ?_
      refine v_nil ⟨again_nil, ?_⟩
      refine d_q rfl rfl rfl rfl rfl ?_
      refine v_nil_pt rfl ?_
      refine v_nil ?_
      refine d_q rfl rfl rfl rfl rfl ?_
      refine v_fa_pt (off' := 1) lay90 rfl rfl rfl ?_
      refine v_nil ?_
      refine d_q rfl rfl rfl rfl rfl ?_
      refine v_fa_pt (off' := 5) lay64 rfl rfl rfl ?_
      refine v_nil ?_
      refine d_e rfl rfl rfl ?_
      refine v_store (H' := [_, ⟨[_, _, _, _, _, _], 90, true⟩, _, _, _, _, _, _, _, _]) lay62 rfl rfl rfl rfl rfl rfl ?_
      refine v_nil ⟨again_nil, ?_⟩
      refine d_nil ?_
      refine q_bn ?_
      refine q_n ?_
      refine w_seq ?_
      refine w_reg rfl ?_
      refine v_assign (c := .v (.int .i64 0)) rfl ?_
      refine v_nil ?_
      refine q_n ?_
      refine w_ret ?_
      refine r_r rfl ?_
      have hdo : doB p b d = ({ b with wr := b.wr ++ [(false, d.2.1, b.nw[a].1, b.nw[a].2)] }, 0) := do_send (by omega) ha k2 k1 (by omega)
      exact g_ans (H1 := doH2 p ({ b with wr := b.wr ++ [(false, d.2.1, b.nw[a].1, b.nw[a].2)] })) [some 0, some 1, some 2, some 3, some 4, some 5, some 6, some 9] rfl rfl rfl ⟨fun _ => ⟨_, rfl, .cons tr_v (.cons (.c (.dn .any)) .nil)⟩, fun _ => ⟨_, rfl, .cons (tr_pt rfl) (.cons (tr_mun rfl (by first | rfl | (simp; done) | (simp; omega) | (rw [bg_l (by omega)]))) (.cons (tr_mun rfl (by first | rfl | (simp; done) | (simp; omega) | (rw [bg_l (by omega)]))) (.cons (tr_mun rfl (by first | rfl | (simp; done) | (simp; omega) | (rw [bg_l (by omega)]))) (.cons (tr_mun rfl (by first | rfl | (simp; done) | (simp; omega) | (rw [bg_l (by omega)]))) (.cons (tr_mun rfl (by first | rfl | (simp; done) | (simp; omega) | (rw [bg_l (by omega)]))) .nil)))))⟩, fun _ => ⟨_, rfl, trc_flat pe_sc rfl⟩, fun _ => ⟨_, rfl, trc_flat pe_sc rfl⟩, fun _ => ⟨_, rfl, trc_flat pe_sc rfl⟩, fun _ => ⟨_, rfl, trc_flat int_sc rfl⟩, (fun h => nomatch h), fun _ => ⟨_, rfl, trc_flat nce_sc rfl⟩, trivial⟩ tr_v (.inr ⟨_, hdo, rfl, rfl⟩)
    refine v_assign rfl ?_
    refine v_nil ?_
    refine q_n ?_
    refine w_f rfl ?_
    refine w_seq ?_
    refine w_reg rfl ?_
    refine v_eql lay2 rfl rfl (fun h49 => ?_) (fun h49 => ?_)
    · refine v_assign rfl ?_
      refine v_nil ?_
      refine q_n ?_
      refine w_t rfl ?_
      refine w_draw [0, 1, 3, 7, 15, 0, 32, 0, 128, 384, 896, 1920, 0, 4096, 16256, 32640, 65535, 131071] [⟨0, 0, []⟩, ⟨1, 0, []⟩, ⟨2, 0, []⟩, ⟨3, 0, []⟩, ⟨4, 0, []⟩, ⟨5, 0, []⟩, ⟨6, 0, []⟩, ⟨7, 0, []⟩, ⟨8, 0, []⟩, ⟨9, 0, []⟩, ⟨10, 0, []⟩, ⟨11, 0, []⟩, ⟨12, 0, []⟩, ⟨13, 0, []⟩, ⟨14, 0, []⟩, ⟨15, 0, []⟩, ⟨16, 0, []⟩, ⟨17, 1, []⟩] rfl rfl ?_
      refine d_q rfl rfl rfl rfl rfl ?_
      refine v_move rfl ?_
      refine v_nil ?_
      refine d_q rfl rfl rfl rfl rfl ?_
      refine v_nil_pt rfl ?_
      refine v_nil ?_
      refine d_q rfl rfl rfl rfl rfl ?_
      refine v_fa_pt (off' := 1) lay90 rfl rfl rfl ?_
      refine v_nil ?_
      refine d_q rfl rfl rfl rfl rfl ?_
      refine v_fa_pt (off' := 3) lay64 rfl rfl rfl ?_
      refine v_nil ?_
      refine d_q rfl rfl rfl rfl rfl ?_
      refine v_load_pt (.c _) lay61 rfl rfl rfl rfl ?_
      refine v_nil ?_
      refine d_q rfl rfl rfl rfl rfl ?_
      refine v_fa_pt (off' := 1) lay25 rfl rfl rfl ?_
      refine v_nil ?_
      refine d_q rfl rfl rfl rfl rfl ?_
      refine v_load_pt (.c _) lay2 rfl rfl rfl rfl ?_
      refine v_nil ?_
      refine d_q rfl rfl rfl rfl rfl ?_
      refine v_move rfl ?_
      refine v_nil ?_
      refine d_q rfl rfl rfl rfl rfl ?_
      refine v_nil_pt rfl ?_
      refine v_nil ?_
      refine d_q rfl rfl rfl rfl rfl ?_
      refine v_fa_pt (off' := 1) lay90 rfl rfl rfl ?_
      refine v_nil ?_
      refine d_q rfl rfl rfl rfl rfl ?_
      refine v_fa_pt (off' := 2) lay64 rfl rfl rfl ?_
      refine v_nil ?_
      refine d_q rfl rfl rfl rfl rfl ?_
      refine v_load_pt (.c _) lay61 rfl rfl rfl rfl ?_
      refine v_nil ?_
      refine d_q rfl rfl rfl rfl rfl ?_
      refine v_fa_pt (off' := 1) lay25 rfl rfl rfl ?_
      refine v_nil ?_
      refine d_q rfl rfl rfl rfl rfl ?_
      refine v_load_pt (.c _) lay2 rfl rfl rfl rfl ?_
      refine v_nil ?_
      refine d_q rfl rfl rfl rfl rfl ?_
      refine v_idx_mu_e (k := 2) (off := 0) (a) lay61 lay46 rfl rfl rfl (ha) (by omega) ?_
      refine v_nil ?_
      refine d_q rfl rfl rfl rfl rfl ?_
      refine v_load_flat a 0 (.agg [.v _, .v _]) pe_len lay46 rfl rfl (by omega) (by first | omega | (simp; omega)) rfl rfl ?_
      refine v_nil ?_
      refine d_q rfl rfl rfl rfl rfl ?_
      refine v_idx_mu_e (k := 2) (off := 0) (a) lay61 lay46 rfl rfl rfl (ha) (by omega) ?_
      refine v_nil ?_
      refine d_e rfl rfl rfl ?_
      refine v_store_flat (H' := [_, _, _, _, _, _, _, _]) a 0 (b.ps[a]) pe_len lay46 rfl rfl rfl (by omega) (by first | omega | (simp; omega)) rfl rfl (rfl) rfl ?_
      refine v_nil ⟨again_nil, ?_⟩
      refine d_nil ?_
      refine q_bn ?_
      refine q_n ?_
      refine w_seq ?_
      refine w_reg rfl ?_
      refine v_assign (c := .v (.int .i64 0)) rfl ?_
      refine v_nil ?_
      refine q_n ?_
      refine w_ret ?_
      refine r_r rfl ?_
      have hdo : doB p b d = ({ b with sv := b.sv.set a b.ps[a] }, 0) := do_save (by omega) ha k2
      exact g_ans (H1 := doH p ({ b with sv := b.sv.set a b.ps[a] })) [some 0, some 1, some 2, some 3, some 4, some 5, some 6] rfl rfl rfl ⟨fun _ => ⟨_, rfl, .cons tr_v (.cons (.c (.dn .any)) .nil)⟩, fun _ => ⟨_, rfl, .cons (tr_pt rfl) (.cons (tr_mun rfl (by first | rfl | (simp; done) | (simp; omega) | (rw [bg_l (by omega)]))) (.cons (tr_mun rfl (by first | rfl | (simp; done) | (simp; omega) | (rw [bg_l (by omega)]))) (.cons (tr_mun rfl (by first | rfl | (simp; done) | (simp; omega) | (rw [bg_l (by omega)]))) (.cons (tr_mun rfl (by first | rfl | (simp; done) | (simp; omega) | (rw [bg_l (by omega)]))) (.cons (tr_mun rfl (by first | rfl | (simp; done) | (simp; omega) | (rw [bg_l (by omega)]))) .nil)))))⟩, fun _ => ⟨_, rfl, trc_flat pe_sc rfl⟩, fun _ => ⟨_, rfl, trc_flat pe_sc rfl⟩, fun _ => ⟨_, rfl, trc_flat pe_sc rfl⟩, fun _ => ⟨_, rfl, trc_flat int_sc rfl⟩, fun _ => ⟨_, rfl, trc_flat nce_sc rfl⟩, trivial⟩ tr_v (.inl ⟨_, hdo, rfl, rfl⟩)
    refine v_assign rfl ?_
    refine v_nil ?_
    refine q_n ?_
    refine w_f rfl ?_
    refine w_draw [0, 1, 3, 7, 15, 0, 32, 0, 128, 384, 896, 1920, 0, 4096, 16256, 32640, 65535, 131071] [⟨0, 0, []⟩, ⟨1, 0, []⟩, ⟨2, 0, []⟩, ⟨3, 0, []⟩, ⟨4, 0, []⟩, ⟨5, 0, []⟩, ⟨6, 0, []⟩, ⟨7, 0, []⟩, ⟨8, 0, []⟩, ⟨9, 0, []⟩, ⟨10, 0, []⟩, ⟨11, 0, []⟩, ⟨12, 0, []⟩, ⟨13, 0, []⟩, ⟨14, 0, []⟩, ⟨15, 0, []⟩, ⟨16, 0, []⟩, ⟨17, 1, []⟩] rfl rfl ?_
    refine d_q rfl rfl rfl rfl rfl ?_
    refine v_move rfl ?_
    refine v_nil ?_
    refine d_q rfl rfl rfl rfl rfl ?_
    refine v_nil_pt rfl ?_
    refine v_nil ?_
    refine d_q rfl rfl rfl rfl rfl ?_
    refine v_fa_pt (off' := 1) lay90 rfl rfl rfl ?_
    refine v_nil ?_
    refine d_q rfl rfl rfl rfl rfl ?_
    refine v_fa_pt (off' := 2) lay64 rfl rfl rfl ?_
    refine v_nil ?_
    refine d_q rfl rfl rfl rfl rfl ?_
    refine v_load_pt (.c _) lay61 rfl rfl rfl rfl ?_
    refine v_nil ?_
    refine d_q rfl rfl rfl rfl rfl ?_
    refine v_fa_pt (off' := 1) lay25 rfl rfl rfl ?_
    refine v_nil ?_
    refine d_q rfl rfl rfl rfl rfl ?_
    refine v_load_pt (.c _) lay2 rfl rfl rfl rfl ?_
    refine v_nil ?_
    refine d_q rfl rfl rfl rfl rfl ?_
    refine v_move rfl ?_
    refine v_nil ?_
    refine d_q rfl rfl rfl rfl rfl ?_
    refine v_nil_pt rfl ?_
    refine v_nil ?_
    refine d_q rfl rfl rfl rfl rfl ?_
    refine v_fa_pt (off' := 1) lay90 rfl rfl rfl ?_
    refine v_nil ?_
    refine d_q rfl rfl rfl rfl rfl ?_
    refine v_fa_pt (off' := 3) lay64 rfl rfl rfl ?_
    refine v_nil ?_
    refine d_q rfl rfl rfl rfl rfl ?_
    refine v_load_pt (.c _) lay61 rfl rfl rfl rfl ?_
    refine v_nil ?_
    refine d_q rfl rfl rfl rfl rfl ?_
    refine v_fa_pt (off' := 1) lay25 rfl rfl rfl ?_
    refine v_nil ?_
    refine d_q rfl rfl rfl rfl rfl ?_
    refine v_load_pt (.c _) lay2 rfl rfl rfl rfl ?_
    refine v_nil ?_
    refine d_q rfl rfl rfl rfl rfl ?_
    refine v_idx_mu_e (k := 2) (off := 0) (a) lay61 lay46 rfl rfl rfl (ha) (by omega) ?_
    refine v_nil ?_
    refine d_q rfl rfl rfl rfl rfl ?_
    refine v_load_flat a 0 (.agg [.v _, .v _]) pe_len lay46 rfl rfl (by omega) (by first | omega | (simp; omega)) rfl rfl ?_
    refine v_nil ?_
    refine d_q rfl rfl rfl rfl rfl ?_
    refine v_idx_mu_e (k := 2) (off := 0) (a) lay61 lay46 rfl rfl rfl (ha) (by omega) ?_
    refine v_nil ?_
    refine d_e rfl rfl rfl ?_
    refine v_store_flat (H' := [_, _, _, _, _, _, _, _]) a 0 (b.sv[a]) pe_len lay46 rfl rfl rfl (by omega) (by first | omega | (simp; omega)) rfl rfl (rfl) rfl ?_
    refine v_nil ⟨again_nil, ?_⟩
    refine d_nil ?_
    refine q_bn ?_
    refine q_n ?_
    refine w_seq ?_
    refine w_reg rfl ?_
    refine v_assign (c := .v (.int .i64 0)) rfl ?_
    refine v_nil ?_
    refine q_n ?_
    refine w_ret ?_
    refine r_r rfl ?_
    have hdo : doB p b d = ({ b with ps := b.ps.set a b.sv[a] }, 0) := do_crash (by omega) ha k2 k3
    exact g_ans (H1 := doH p ({ b with ps := b.ps.set a b.sv[a] })) [some 0, some 1, some 2, some 3, some 4, some 5, some 6] rfl rfl rfl ⟨fun _ => ⟨_, rfl, .cons tr_v (.cons (.c (.dn .any)) .nil)⟩, fun _ => ⟨_, rfl, .cons (tr_pt rfl) (.cons (tr_mun rfl (by first | rfl | (simp; done) | (simp; omega) | (rw [bg_l (by omega)]))) (.cons (tr_mun rfl (by first | rfl | (simp; done) | (simp; omega) | (rw [bg_l (by omega)]))) (.cons (tr_mun rfl (by first | rfl | (simp; done) | (simp; omega) | (rw [bg_l (by omega)]))) (.cons (tr_mun rfl (by first | rfl | (simp; done) | (simp; omega) | (rw [bg_l (by omega)]))) (.cons (tr_mun rfl (by first | rfl | (simp; done) | (simp; omega) | (rw [bg_l (by omega)]))) .nil)))))⟩, fun _ => ⟨_, rfl, trc_flat pe_sc rfl⟩, fun _ => ⟨_, rfl, trc_flat pe_sc rfl⟩, fun _ => ⟨_, rfl, trc_flat pe_sc rfl⟩, fun _ => ⟨_, rfl, trc_flat int_sc rfl⟩, fun _ => ⟨_, rfl, trc_flat nce_sc rfl⟩, trivial⟩ tr_v (.inl ⟨_, hdo, rfl, rfl⟩)
  refine v_nil ?_
  refine q_n ?_
  refine w_t rfl ?_
  refine w_seq ?_
  refine w_reg rfl ?_
  refine v_move rfl ?_
  refine v_load_pt (.agg [_, _, _]) lay25 rfl rfl rfl rfl ?_
  refine v_inl (n := 78) (drawD_ok X) (fun _ _ => Go.Proofs.Try.call99 _ _) Go.Proofs.Try.func99 rfl rfl rfl rfl ?_
  refine w_seq ?_
  refine w_reg rfl ?_
  refine v_box (m := 8) (H' := [_, _, _, _, _, _, _, _, _]) lay25 rfl rfl rfl ?_
  refine v_assign (c := .v (.int .i64 0)) rfl ?_
  refine v_nil ?_
  refine q_n ?_
  refine w_seq ?_
  refine w_seq ?_
  refine w_draw [0, 1, 0, 4, 12, 28, 60, 124, 255] [⟨0, 0, []⟩, ⟨1, 0, []⟩, ⟨2, 0, []⟩, ⟨3, 0, []⟩, ⟨4, 0, []⟩, ⟨5, 0, []⟩, ⟨6, 0, []⟩, ⟨7, 0, []⟩, ⟨8, 0, []⟩] rfl rfl ?_
  refine d_q rfl rfl rfl rfl rfl ?_
  refine v_fa_pt (off' := 1) lay25 rfl rfl rfl ?_
  refine v_nil ?_
  refine d_q rfl rfl rfl rfl rfl ?_
  refine v_load_pt (.c _) lay2 rfl rfl rfl rfl ?_
  refine v_nil ?_
  refine d_q rfl rfl rfl rfl rfl ?_
  refine v_move rfl ?_
  refine v_nil ?_
  refine d_q rfl rfl rfl rfl rfl ?_
  refine v_nil_pt rfl ?_
  refine v_nil ?_
  refine d_q rfl rfl rfl rfl rfl ?_
  refine v_fa_pt (off' := 1) lay90 rfl rfl rfl ?_
  refine v_nil ?_
  refine d_q rfl rfl rfl rfl rfl ?_
  refine v_fa_pt (off' := 5) lay64 rfl rfl rfl ?_
  refine v_nil ?_
  refine d_q rfl rfl rfl rfl rfl ?_
  refine v_load_pt (.c _) lay62 rfl rfl rfl rfl ?_
  refine v_nil ?_
  refine d_q rfl rfl rfl rfl rfl ?_
  refine v_len_mu lay62 rfl ?_
  refine v_nil ?_
  refine d_q rfl rfl rfl rfl rfl ?_
  refine v_geq lay2 rfl rfl (fun h2 => ?_) (fun h2 => ?_)
  · refine v_nil ?_
    refine d_nil ?_
    refine q_n ?_
    refine w_t rfl ?_
    refine w_seq ?_
    refine w_reg rfl ?_
    refine v_assign (c := .v (.int .i64 2)) rfl ?_
    refine v_nil ?_
    refine q_n ?_
    refine w_ret (q_r ?_)
    refine r_r rfl ?_
    refine v_assign rfl ?_
    refine v_nil ?_
    refine q_n ?_
    refine w_ret (q_r ?_)
    refine r_r rfl ?_
    have hdo : doB p b d = (b, 2) := do_wbad h1 ha (by omega)
    exact g_ans (H1 := doH p (b)) [some 0, some 1, some 2, some 3, some 4, some 5, some 6] rfl rfl rfl ⟨fun _ => ⟨_, rfl, .cons tr_v (.cons (.c (.dn .any)) .nil)⟩, fun _ => ⟨_, rfl, .cons (tr_pt rfl) (.cons (tr_mun rfl (by first | rfl | (simp; done) | (simp; omega) | (rw [bg_l (by omega)]))) (.cons (tr_mun rfl (by first | rfl | (simp; done) | (simp; omega) | (rw [bg_l (by omega)]))) (.cons (tr_mun rfl (by first | rfl | (simp; done) | (simp; omega) | (rw [bg_l (by omega)]))) (.cons (tr_mun rfl (by first | rfl | (simp; done) | (simp; omega) | (rw [bg_l (by omega)]))) (.cons (tr_mun rfl (by first | rfl | (simp; done) | (simp; omega) | (rw [bg_l (by omega)]))) .nil)))))⟩, fun _ => ⟨_, rfl, trc_flat pe_sc rfl⟩, fun _ => ⟨_, rfl, trc_flat pe_sc rfl⟩, fun _ => ⟨_, rfl, trc_flat pe_sc rfl⟩, fun _ => ⟨_, rfl, trc_flat int_sc rfl⟩, fun _ => ⟨_, rfl, trc_flat nce_sc rfl⟩, trivial⟩ tr_v (.inl ⟨_, hdo, rfl, rfl⟩)
  have k4 : a < b.wr.length := by omega
  obtain ⟨pn, hpn⟩ : ∃ pn : Nat, b.wr[a].2.1 = pn := Int.eq_ofNat_of_zero_le (hok.po _ (List.getElem_mem k4)).1
  have hp2 := (hok.po _ (List.getElem_mem k4)).2
  have k5 : pn < b.kn.length := by omega
  have k6 : pn < b.ps.length := by omega
  refine v_nil ?_
  refine d_nil ?_
  refine q_n ?_
  refine w_f rfl ?_
  refine w_skip ?_
  refine q_n ?_
  refine w_seq ?_
  refine w_draw [0, 1, 3, 7, 15, 0, 32, 127, 255, 0, 1023] [⟨0, 0, []⟩, ⟨1, 0, []⟩, ⟨2, 0, []⟩, ⟨3, 0, []⟩, ⟨4, 0, []⟩, ⟨5, 0, []⟩, ⟨6, 0, []⟩, ⟨7, 0, []⟩, ⟨8, 0, []⟩, ⟨9, 1, [4, 6, 8]⟩, ⟨10, 1, []⟩] rfl rfl ?_
  refine d_q rfl rfl rfl rfl rfl ?_
  refine v_move rfl ?_
  refine v_nil ?_
  refine d_q rfl rfl rfl rfl rfl ?_
  refine v_nil_pt rfl ?_
  refine v_nil ?_
  refine d_q rfl rfl rfl rfl rfl ?_
  refine v_fa_pt (off' := 1) lay90 rfl rfl rfl ?_
  refine v_nil ?_
  refine d_q rfl rfl rfl rfl rfl ?_
  refine v_fa_pt (off' := 5) lay64 rfl rfl rfl ?_
  refine v_nil ?_
  refine d_q rfl rfl rfl rfl rfl ?_
  refine v_load_pt (.c _) lay62 rfl rfl rfl rfl ?_
  refine v_nil ?_
  refine d_q rfl rfl rfl rfl rfl ?_
  refine v_fa_pt (off' := 1) lay25 rfl rfl rfl ?_
  refine v_nil ?_
  refine d_q rfl rfl rfl rfl rfl ?_
  refine v_load_pt (.c _) lay2 rfl rfl rfl rfl ?_
  refine v_nil ?_
  refine d_q rfl rfl rfl rfl rfl ?_
  refine v_idx_mu_e (k := 4) (off := 0) (a) lay62 lay101 rfl rfl rfl (ha) (by omega) ?_
  refine v_nil ?_
  refine d_q rfl rfl rfl rfl rfl ?_
  refine v_load_flat a 0 (.agg [.v _, .v _, .v _, .v _]) nce_len lay101 rfl rfl (by omega) (by first | omega | (simp; omega)) rfl rfl ?_
  refine v_nil ?_
  refine d_e rfl rfl rfl ?_
  refine v_alloc (m := 9) (H' := [_, _, _, _, _, _, _, _, _, ⟨[.v _, .v _, .v _, .v _], 101, true⟩]) lay101 rfl rfl ?_
  refine v_nil ⟨⟨ag_load_flat a 0 (.agg [.v _, .v _, .v _, .v _]) nce_len lay101 rfl rfl (by omega) (by first | omega | (simp; omega)) rfl rfl, ⟨ag_load_pt (.c _) lay2 rfl rfl rfl rfl, ⟨ag_load_pt (.c _) lay62 rfl rfl rfl rfl, trivial⟩⟩⟩, ?_⟩
  refine d_e rfl rfl rfl ?_
  refine v_store (H' := [_, _, _, _, _, _, _, _, _, ⟨[_, _, _, _], 101, true⟩]) lay101 rfl rfl rfl rfl rfl rfl ?_
  refine v_nil ⟨again_nil, ?_⟩
  refine d_nil ?_
  refine q_n ?_
  refine w_seq ?_
  refine w_seq ?_
  refine w_reg rfl ?_
  refine v_fa_pt (off' := 0) lay25 rfl rfl rfl ?_
  refine v_load_pt (.c _) lay2 rfl rfl rfl rfl ?_
  refine v_eql lay2 rfl rfl (fun h4 => ?_) (fun h4 => ?_)
  · refine v_move rfl ?_
    refine v_guard_on rfl rfl ?_
    refine v_fa_pt (off' := 0) lay101 rfl rfl rfl ?_
    refine v_guard_on rfl rfl ?_
    refine v_load_ptb lay4 rfl rfl rfl rfl (fun h5 => ?_) (fun h5 => ?_)
    · refine v_guard_on rfl rfl ?_
      refine v_not false rfl rfl ?_
      refine v_pick_t rfl rfl ?_
      refine v_move rfl ?_
      refine v_guard_off rfl rfl rfl ?_
      refine v_guard_off rfl rfl rfl ?_
      refine v_guard_off rfl rfl rfl ?_
      refine v_guard_off rfl rfl rfl ?_
      refine v_guard_off rfl rfl rfl ?_
      refine v_guard_off rfl rfl rfl ?_
      refine v_guard_off rfl rfl rfl ?_
      refine v_pick_f (v := .v (.bool false)) rfl rfl ?_
      refine v_nil ?_
      refine q_n ?_
      refine w_f rfl ?_
      refine w_skip ?_
      refine q_n ?_
      refine w_seq ?_
      refine w_seq ?_
      refine w_reg rfl ?_
      refine v_fa_pt (off' := 0) lay25 rfl rfl rfl ?_
      refine v_load_pt (.c _) lay2 rfl rfl rfl rfl ?_
      refine v_neq lay2 rfl rfl (fun h6 => ?_) (fun h6 => ?_)
      · exfalso; omega
      refine v_nil ?_
      refine q_n ?_
      refine w_f rfl ?_
      refine w_skip ?_
      refine q_n ?_
      refine w_seq ?_
      refine w_seq ?_
      refine w_reg rfl ?_
      refine v_fa_pt (off' := 0) lay25 rfl rfl rfl ?_
      refine v_load_pt (.c _) lay2 rfl rfl rfl rfl ?_
      refine v_neq lay2 rfl rfl (fun h7 => ?_) (fun h7 => ?_)
      rotate_left
      · exfalso; omega
      refine v_nil ?_
      refine q_n ?_
      refine w_t rfl ?_
      refine w_reg rfl ?_
      refine v_move rfl ?_
      refine v_load_pt (.agg [_, _, _, _]) lay101 rfl rfl rfl rfl ?_
      refine v_inl (n := 80) (drawD_ok X) (fun _ _ => Go.Proofs.Try.call105 _ _) Go.Proofs.Try.func105 rfl rfl rfl rfl ?_
      refine w_seq ?_
      refine w_reg rfl ?_
      refine v_box (m := 10) (H' := [_, _, _, _, _, _, _, _, _, _, _]) lay101 rfl rfl rfl ?_
      refine v_nil ?_
      refine q_n ?_
      refine w_seq ?_
      refine w_seq ?_
      refine w_reg rfl ?_
      refine v_fa_pt (off' := 0) lay101 rfl rfl rfl ?_
      refine v_load_ptb lay4 rfl rfl rfl rfl (fun h8 => ?_) (fun h8 => ?_)
      rotate_left
      · exact absurd (h5.symm.trans h8) (by decide)
      refine v_nil ?_
      refine q_n ?_
      refine w_t rfl ?_
      refine w_seq ?_
      refine w_draw [0, 1, 3, 7, 15, 0, 32, 0, 128, 384, 896, 1920, 0, 4096, 16256, 32640, 0, 65536, 262016, 524287, 1048575] [⟨0, 0, []⟩, ⟨1, 0, []⟩, ⟨2, 0, []⟩, ⟨3, 0, []⟩, ⟨4, 0, []⟩, ⟨5, 0, []⟩, ⟨6, 0, []⟩, ⟨7, 0, []⟩, ⟨8, 0, []⟩, ⟨9, 0, []⟩, ⟨10, 0, []⟩, ⟨11, 0, []⟩, ⟨12, 0, []⟩, ⟨13, 0, []⟩, ⟨14, 0, []⟩, ⟨15, 0, []⟩, ⟨16, 0, []⟩, ⟨17, 0, []⟩, ⟨18, 0, []⟩, ⟨19, 0, []⟩, ⟨20, 1, []⟩] rfl rfl ?_
      refine d_q rfl rfl rfl rfl rfl ?_
      refine v_move rfl ?_
      refine v_nil ?_
      refine d_q rfl rfl rfl rfl rfl ?_
      refine v_nil_pt rfl ?_
      refine v_nil ?_
      refine d_q rfl rfl rfl rfl rfl ?_
      refine v_fa_pt (off' := 1) lay90 rfl rfl rfl ?_
      refine v_nil ?_
      refine d_q rfl rfl rfl rfl rfl ?_
      refine v_fa_pt (off' := 4) lay64 rfl rfl rfl ?_
      refine v_nil ?_
      refine d_q rfl rfl rfl rfl rfl ?_
      refine v_load_pt (.c _) lay28 rfl rfl rfl rfl ?_
      refine v_nil ?_
      refine d_q rfl rfl rfl rfl rfl ?_
      refine v_fa_pt (off' := 1) lay101 rfl rfl rfl ?_
      refine v_nil ?_
      refine d_q rfl rfl rfl rfl rfl ?_
      refine v_load_pt (.c _) lay2 rfl rfl rfl rfl ?_
      refine v_nil ?_
      refine d_q rfl rfl rfl rfl rfl ?_
      refine v_move rfl ?_
      refine v_nil ?_
      refine d_q rfl rfl rfl rfl rfl ?_
      refine v_nil_pt rfl ?_
      refine v_nil ?_
      refine d_q rfl rfl rfl rfl rfl ?_
      refine v_fa_pt (off' := 1) lay90 rfl rfl rfl ?_
      refine v_nil ?_
      refine d_q rfl rfl rfl rfl rfl ?_
      refine v_fa_pt (off' := 4) lay64 rfl rfl rfl ?_
      refine v_nil ?_
      refine d_q rfl rfl rfl rfl rfl ?_
      refine v_load_pt (.c _) lay28 rfl rfl rfl rfl ?_
      refine v_nil ?_
      refine d_q rfl rfl rfl rfl rfl ?_
      refine v_fa_pt (off' := 1) lay101 rfl rfl rfl ?_
      refine v_nil ?_
      refine d_q rfl rfl rfl rfl rfl ?_
      refine v_load_pt (.c _) lay2 rfl rfl rfl rfl ?_
      refine v_nil ?_
      refine d_q rfl rfl rfl rfl rfl ?_
      refine v_idx_mu_e (k := 1) (off := 0) (pn) lay28 lay2 rfl rfl rfl (hpn) (by omega) ?_
      refine v_nil ?_
      refine d_q rfl rfl rfl rfl rfl ?_
      refine v_load_flat pn 0 (.c (.v _)) int_len lay2 rfl rfl (by omega) (by first | omega | (simp; omega)) rfl rfl ?_
      refine v_nil ?_
      refine d_q rfl rfl rfl rfl rfl ?_
      refine v_fa_pt (off' := 3) lay101 rfl rfl rfl ?_
      refine v_nil ?_
      refine d_q rfl rfl rfl rfl rfl ?_
      refine v_load_pt (.c _) lay2 rfl rfl rfl rfl ?_
      refine v_nil ?_
      refine d_call (c98 _ _) rfl rfl rfl rfl rfl (.cons vw_v (.cons vw_v .nil)) ?_
      refine d_q rfl rfl rfl rfl rfl ?_
      refine v_idx_mu_e (k := 1) (off := 0) (pn) lay28 lay2 rfl rfl rfl (hpn) (by omega) ?_
      refine v_nil ?_
      refine d_e rfl rfl rfl ?_
      refine v_store_flat (H' := [_, _, _, _, _, _, _, _, _, _, _]) pn 0 (mx b.kn[pn] b.wr[a].2.2.2) int_len lay2 rfl rfl rfl (by omega) (by first | omega | (simp; omega)) rfl rfl (rfl) rfl ?_
      refine v_nil ⟨again_nil, ?_⟩
      refine d_nil ?_
      refine q_n ?_
      refine w_ret (q_r ?_)
      refine r_r rfl ?_
      refine v_nil ?_
      refine q_n ?_
      refine w_seq ?_
      refine w_reg rfl ?_
      refine v_assign (c := .v (.int .i64 0)) rfl ?_
      refine v_nil ?_
      refine q_n ?_
      refine w_ret ?_
      refine r_r rfl ?_
      refine v_assign rfl ?_
      refine v_nil ?_
      refine q_n ?_
      refine w_ret (q_r ?_)
      refine r_r rfl ?_
      have hdo : doB p b d = ({ b with kn := b.kn.set pn (mx b.kn[pn] b.wr[a].2.2.2) }, 0) := do_copy (by omega) ha k4 (.inl h5) (come_back h5 hpn k5)
      exact g_ans (H1 := doH p ({ b with kn := b.kn.set pn (mx b.kn[pn] b.wr[a].2.2.2) })) [some 0, some 1, some 2, some 3, some 4, some 5, some 6] rfl rfl rfl ⟨fun _ => ⟨_, rfl, .cons tr_v (.cons (.c (.dn .any)) .nil)⟩, fun _ => ⟨_, rfl, .cons (tr_pt rfl) (.cons (tr_mun rfl (by first | rfl | (simp; done) | (simp; omega) | (rw [bg_l (by omega)]))) (.cons (tr_mun rfl (by first | rfl | (simp; done) | (simp; omega) | (rw [bg_l (by omega)]))) (.cons (tr_mun rfl (by first | rfl | (simp; done) | (simp; omega) | (rw [bg_l (by omega)]))) (.cons (tr_mun rfl (by first | rfl | (simp; done) | (simp; omega) | (rw [bg_l (by omega)]))) (.cons (tr_mun rfl (by first | rfl | (simp; done) | (simp; omega) | (rw [bg_l (by omega)]))) .nil)))))⟩, fun _ => ⟨_, rfl, trc_flat pe_sc rfl⟩, fun _ => ⟨_, rfl, trc_flat pe_sc rfl⟩, fun _ => ⟨_, rfl, trc_flat pe_sc rfl⟩, fun _ => ⟨_, rfl, trc_flat int_sc rfl⟩, fun _ => ⟨_, rfl, trc_flat nce_sc rfl⟩, trivial⟩ tr_v (.inl ⟨_, hdo, rfl, rfl⟩)
    refine v_guard_on rfl rfl ?_
    refine v_not true rfl rfl ?_
    refine v_pick_t rfl rfl ?_
    refine v_move rfl ?_
    refine v_guard_on rfl rfl ?_
    refine v_move rfl ?_
    refine v_guard_on rfl rfl ?_
    refine v_nil_pt rfl ?_
    refine v_guard_on rfl rfl ?_
    refine v_fa_pt (off' := 1) lay90 rfl rfl rfl ?_
    refine v_guard_on rfl rfl ?_
    refine v_fa_pt (off' := 5) lay64 rfl rfl rfl ?_
    refine v_guard_on rfl rfl ?_
    refine v_load_pt (.c _) lay62 rfl rfl rfl rfl ?_
    refine v_guard_on rfl rfl ?_
    refine v_len_mu lay62 rfl ?_
    refine v_guard_on rfl rfl ?_
    refine v_geq lay3 rfl rfl (fun h11 => ?_) (fun h11 => ?_)
    · refine v_pick_t rfl rfl ?_
      refine v_nil ?_
      refine q_n ?_
      refine w_t rfl ?_
      refine w_seq ?_
      refine w_reg rfl ?_
      refine v_assign (c := .v (.int .i64 3)) rfl ?_
      refine v_nil ?_
      refine q_n ?_
      refine w_ret (q_r ?_)
      refine r_r rfl ?_
      refine v_assign rfl ?_
      refine v_nil ?_
      refine q_n ?_
      refine w_ret (q_r ?_)
      refine r_r rfl ?_
      have hdo : doB p b d = (b, 3) := do_cfull (by omega) ha k4 h5 (by omega)
      exact g_ans (H1 := doH p (b)) [some 0, some 1, some 2, some 3, some 4, some 5, some 6] rfl rfl rfl ⟨fun _ => ⟨_, rfl, .cons tr_v (.cons (.c (.dn .any)) .nil)⟩, fun _ => ⟨_, rfl, .cons (tr_pt rfl) (.cons (tr_mun rfl (by first | rfl | (simp; done) | (simp; omega) | (rw [bg_l (by omega)]))) (.cons (tr_mun rfl (by first | rfl | (simp; done) | (simp; omega) | (rw [bg_l (by omega)]))) (.cons (tr_mun rfl (by first | rfl | (simp; done) | (simp; omega) | (rw [bg_l (by omega)]))) (.cons (tr_mun rfl (by first | rfl | (simp; done) | (simp; omega) | (rw [bg_l (by omega)]))) (.cons (tr_mun rfl (by first | rfl | (simp; done) | (simp; omega) | (rw [bg_l (by omega)]))) .nil)))))⟩, fun _ => ⟨_, rfl, trc_flat pe_sc rfl⟩, fun _ => ⟨_, rfl, trc_flat pe_sc rfl⟩, fun _ => ⟨_, rfl, trc_flat pe_sc rfl⟩, fun _ => ⟨_, rfl, trc_flat int_sc rfl⟩, fun _ => ⟨_, rfl, trc_flat nce_sc rfl⟩, trivial⟩ tr_v (.inl ⟨_, hdo, rfl, rfl⟩)
    refine v_pick_t rfl rfl ?_
    refine v_nil ?_
    refine q_n ?_
    refine w_f rfl ?_
    refine w_skip ?_
    refine q_n ?_
    refine w_seq ?_
    refine w_seq ?_
    refine w_reg rfl ?_
    refine v_fa_pt (off' := 0) lay25 rfl rfl rfl ?_
    refine v_load_pt (.c _) lay2 rfl rfl rfl rfl ?_
    refine v_neq lay2 rfl rfl (fun h12 => ?_) (fun h12 => ?_)
    · exfalso; omega
    refine v_nil ?_
    refine q_n ?_
    refine w_f rfl ?_
    refine w_skip ?_
    refine q_n ?_
    refine w_seq ?_
    refine w_seq ?_
    refine w_reg rfl ?_
    refine v_fa_pt (off' := 0) lay25 rfl rfl rfl ?_
    refine v_load_pt (.c _) lay2 rfl rfl rfl rfl ?_
    refine v_neq lay2 rfl rfl (fun h13 => ?_) (fun h13 => ?_)
    rotate_left
    · exfalso; omega
    refine v_nil ?_
    refine q_n ?_
    refine w_t rfl ?_
    refine w_reg rfl ?_
    refine v_move rfl ?_
    refine v_load_pt (.agg [_, _, _, _]) lay101 rfl rfl rfl rfl ?_
    refine v_inl (n := 80) (drawD_ok X) (fun _ _ => Go.Proofs.Try.call105 _ _) Go.Proofs.Try.func105 rfl rfl rfl rfl ?_
    refine w_seq ?_
    refine w_reg rfl ?_
    refine v_box (m := 10) (H' := [_, _, _, _, _, _, _, _, _, _, _]) lay101 rfl rfl rfl ?_
    refine v_nil ?_
    refine q_n ?_
    refine w_seq ?_
    refine w_seq ?_
    refine w_reg rfl ?_
    refine v_fa_pt (off' := 0) lay101 rfl rfl rfl ?_
    refine v_load_ptb lay4 rfl rfl rfl rfl (fun h14 => ?_) (fun h14 => ?_)
    · exact absurd (h5.symm.trans h14) (by decide)
    refine v_nil ?_
    refine q_n ?_
    refine w_f rfl ?_
    refine w_skip ?_
    refine q_n ?_
    refine w_seq ?_
    refine w_seq ?_
    refine w_draw [0, 1, 0, 4, 12, 28, 60, 0, 128, 508, 1020, 2044, 4095] [⟨0, 0, []⟩, ⟨1, 0, []⟩, ⟨2, 0, []⟩, ⟨3, 0, []⟩, ⟨4, 0, []⟩, ⟨5, 0, []⟩, ⟨6, 0, []⟩, ⟨7, 0, []⟩, ⟨8, 0, []⟩, ⟨9, 0, []⟩, ⟨10, 0, []⟩, ⟨11, 0, []⟩, ⟨12, 0, []⟩] rfl rfl ?_
    refine d_q rfl rfl rfl rfl rfl ?_
    refine v_fa_pt (off' := 3) lay101 rfl rfl rfl ?_
    refine v_nil ?_
    refine d_q rfl rfl rfl rfl rfl ?_
    refine v_load_pt (.c _) lay2 rfl rfl rfl rfl ?_
    refine v_nil ?_
    refine d_q rfl rfl rfl rfl rfl ?_
    refine v_move rfl ?_
    refine v_nil ?_
    refine d_q rfl rfl rfl rfl rfl ?_
    refine v_nil_pt rfl ?_
    refine v_nil ?_
    refine d_q rfl rfl rfl rfl rfl ?_
    refine v_fa_pt (off' := 1) lay90 rfl rfl rfl ?_
    refine v_nil ?_
    refine d_q rfl rfl rfl rfl rfl ?_
    refine v_fa_pt (off' := 2) lay64 rfl rfl rfl ?_
    refine v_nil ?_
    refine d_q rfl rfl rfl rfl rfl ?_
    refine v_load_pt (.c _) lay61 rfl rfl rfl rfl ?_
    refine v_nil ?_
    refine d_q rfl rfl rfl rfl rfl ?_
    refine v_fa_pt (off' := 1) lay101 rfl rfl rfl ?_
    refine v_nil ?_
    refine d_q rfl rfl rfl rfl rfl ?_
    refine v_load_pt (.c _) lay2 rfl rfl rfl rfl ?_
    refine v_nil ?_
    refine d_q rfl rfl rfl rfl rfl ?_
    refine v_idx_mu_e (k := 2) (off := 0) (pn) lay61 lay46 rfl rfl rfl (hpn) (by omega) ?_
    refine v_nil ?_
    refine d_q rfl rfl rfl rfl rfl ?_
    refine v_fa_pt (off' := _) lay46 rfl rfl rfl ?_
    refine v_nil ?_
    refine d_q rfl rfl rfl rfl rfl ?_
    refine v_load_flat pn 1 (.c (.v _)) pe_len lay2 rfl rfl (by omega) (by first | omega | (simp; omega)) rfl rfl ?_
    refine v_nil ?_
    refine d_q rfl rfl rfl rfl rfl ?_
    refine v_gtr lay2 rfl rfl (fun h16 => ?_) (fun h16 => ?_)
    rotate_left
    · refine v_nil ?_
      refine d_nil ?_
      refine q_n ?_
      refine w_f rfl ?_
      refine w_skip ?_
      refine q_n ?_
      refine w_seq ?_
      refine w_draw [0, 1, 3, 7, 15, 0, 32, 127, 255, 0, 1023] [⟨0, 0, []⟩, ⟨1, 0, []⟩, ⟨2, 0, []⟩, ⟨3, 0, []⟩, ⟨4, 0, []⟩, ⟨5, 0, []⟩, ⟨6, 0, []⟩, ⟨7, 0, []⟩, ⟨8, 0, []⟩, ⟨9, 1, [4, 6, 8]⟩, ⟨10, 1, []⟩] rfl rfl ?_
      refine d_q rfl rfl rfl rfl rfl ?_
      refine v_move rfl ?_
      refine v_nil ?_
      refine d_q rfl rfl rfl rfl rfl ?_
      refine v_nil_pt rfl ?_
      refine v_nil ?_
      refine d_q rfl rfl rfl rfl rfl ?_
      refine v_fa_pt (off' := 1) lay90 rfl rfl rfl ?_
      refine v_nil ?_
      refine d_q rfl rfl rfl rfl rfl ?_
      refine v_fa_pt (off' := 2) lay64 rfl rfl rfl ?_
      refine v_nil ?_
      refine d_q rfl rfl rfl rfl rfl ?_
      refine v_load_pt (.c _) lay61 rfl rfl rfl rfl ?_
      refine v_nil ?_
      refine d_q rfl rfl rfl rfl rfl ?_
      refine v_fa_pt (off' := 1) lay101 rfl rfl rfl ?_
      refine v_nil ?_
      refine d_q rfl rfl rfl rfl rfl ?_
      refine v_load_pt (.c _) lay2 rfl rfl rfl rfl ?_
      refine v_nil ?_
      refine d_q rfl rfl rfl rfl rfl ?_
      refine v_idx_mu_e (k := 2) (off := 0) (pn) lay61 lay46 rfl rfl rfl (hpn) (by omega) ?_
      refine v_nil ?_
      refine d_q rfl rfl rfl rfl rfl ?_
      refine v_load_flat pn 0 (.agg [.v _, .v _]) pe_len lay46 rfl rfl (by omega) (by first | omega | (simp; omega)) rfl rfl ?_
      refine v_nil ?_
      refine d_e rfl rfl rfl ?_
      refine v_alloc (m := 11) (H' := [_, _, _, _, _, _, _, _, _, _, _, ⟨[.v _, .v _], 46, true⟩]) lay46 rfl rfl ?_
      refine v_nil ⟨⟨ag_load_flat pn 0 (.agg [.v _, .v _]) pe_len lay46 rfl rfl (by omega) (by first | omega | (simp; omega)) rfl rfl, ⟨ag_load_pt (.c _) lay2 rfl rfl rfl rfl, ⟨ag_load_pt (.c _) lay61 rfl rfl rfl rfl, trivial⟩⟩⟩, ?_⟩
      refine d_e rfl rfl rfl ?_
      refine v_store (H' := [_, _, _, _, _, _, _, _, _, _, _, ⟨[_, _], 46, true⟩]) lay46 rfl rfl rfl rfl rfl rfl ?_
      refine v_nil ⟨again_nil, ?_⟩
      refine d_nil ?_
      refine q_n ?_
      refine w_draw [0, 0, 2, 6, 14, 30, 0, 64, 0, 256, 0, 1024, 4032, 8128, 16382, 32767, 65535, 131071, 262143] [⟨0, 0, []⟩, ⟨1, 0, []⟩, ⟨2, 0, []⟩, ⟨3, 0, []⟩, ⟨4, 0, []⟩, ⟨5, 0, []⟩, ⟨6, 0, []⟩, ⟨7, 0, []⟩, ⟨8, 0, []⟩, ⟨9, 0, []⟩, ⟨10, 0, []⟩, ⟨11, 0, []⟩, ⟨12, 0, []⟩, ⟨13, 2, []⟩, ⟨14, 1, []⟩, ⟨15, 0, []⟩, ⟨16, 0, []⟩, ⟨17, 0, []⟩, ⟨18, 1, []⟩] rfl rfl ?_
      refine d_q rfl rfl rfl rfl rfl ?_
      refine v_move rfl ?_
      refine v_nil ?_
      refine d_q rfl rfl rfl rfl rfl ?_
      refine v_move rfl ?_
      refine v_nil ?_
      refine d_q rfl rfl rfl rfl rfl ?_
      refine v_nil_pt rfl ?_
      refine v_nil ?_
      refine d_q rfl rfl rfl rfl rfl ?_
      refine v_fa_pt (off' := 1) lay90 rfl rfl rfl ?_
      refine v_nil ?_
      refine d_q rfl rfl rfl rfl rfl ?_
      refine v_fa_pt (off' := 5) lay64 rfl rfl rfl ?_
      refine v_nil ?_
      refine d_q rfl rfl rfl rfl rfl ?_
      refine v_load_pt (.c _) lay62 rfl rfl rfl rfl ?_
      refine v_nil ?_
      refine d_q rfl rfl rfl rfl rfl ?_
      refine v_fa_pt (off' := 1) lay101 rfl rfl rfl ?_
      refine v_nil ?_
      refine d_q rfl rfl rfl rfl rfl ?_
      refine v_load_pt (.c _) lay2 rfl rfl rfl rfl ?_
      refine v_nil ?_
      refine d_q rfl rfl rfl rfl rfl ?_
      refine v_fa_pt (off' := 0) lay46 rfl rfl rfl ?_
      refine v_nil ?_
      refine d_q rfl rfl rfl rfl rfl ?_
      refine v_load_pt (.c _) lay2 rfl rfl rfl rfl ?_
      refine v_nil ?_
      refine d_q rfl rfl rfl rfl rfl ?_
      refine v_fa_pt (off' := 1) lay46 rfl rfl rfl ?_
      refine v_nil ?_
      refine d_q rfl rfl rfl rfl rfl ?_
      refine v_load_pt (.c _) lay2 rfl rfl rfl rfl ?_
      refine v_nil ?_
      refine d_q rfl rfl rfl rfl rfl ?_
      refine v_build [(0, 1), (1, 1), (2, 1), (3, 1)] [.v _, .v _, .v _, .v _] lay101 rfl rfl ?_
      refine v_nil ?_
      refine d_z (.c (.sl true 1 4 (flat nce [(true, b.wr[a].2.1, b.ps[pn].1, b.ps[pn].2)]))) rfl rfl rfl ?_
      refine d_e rfl rfl rfl ?_
      refine v_app_flat_sl (H' := [_, _, _, _, _, _, _, _, _, _, _, _, _]) nce_sc nce_len lay62 lay101 rfl rfl (by first | rfl | (simp; done) | (simp; omega) | omega | (rw [bg_l (by omega)])) rfl rfl rfl (by unfold maxLen; simp only []; omega) rfl rfl ?_
      refine v_nil ⟨again_nil, ?_⟩
      refine d_q rfl rfl rfl rfl rfl ?_
      refine v_nil_pt rfl ?_
      refine v_nil ?_
      refine d_q rfl rfl rfl rfl rfl ?_
      refine v_fa_pt (off' := 1) lay90 rfl rfl rfl ?_
      refine v_nil ?_
      refine d_q rfl rfl rfl rfl rfl ?_
      refine v_fa_pt (off' := 5) lay64 rfl rfl rfl ?_
      refine v_nil ?_
      refine d_e rfl rfl rfl ?_
      refine v_store (H' := [_, ⟨[_, _, _, _, _, _], 90, true⟩, _, _, _, _, _, _, _, _, _, _, _]) lay62 rfl rfl rfl rfl rfl rfl ?_
      refine v_nil ⟨again_nil, ?_⟩
      refine d_nil ?_
      refine r_n rfl ?_
      refine v_nil ?_
      refine q_n ?_
      refine w_seq ?_
      refine w_reg rfl ?_
      refine v_assign (c := .v (.int .i64 0)) rfl ?_
      refine v_nil ?_
      refine q_n ?_
      refine w_ret ?_
      refine r_r rfl ?_
      refine v_assign rfl ?_
      refine v_nil ?_
      refine q_n ?_
      refine w_ret (q_r ?_)
      refine r_r rfl ?_
      have hdo : doB p b d = ({ b with wr := b.wr ++ [(true, b.wr[a].2.1, b.ps[pn].1, b.ps[pn].2)] }, 0) := do_copy (by omega) ha k4 (.inr (by omega)) (come_old h5 hpn k6 h16)
      exact g_ans (H1 := doH2 p ({ b with wr := b.wr ++ [(true, b.wr[a].2.1, b.ps[pn].1, b.ps[pn].2)] })) [some 0, some 1, some 2, some 3, some 4, some 5, some 6, some 12] rfl rfl rfl ⟨fun _ => ⟨_, rfl, .cons tr_v (.cons (.c (.dn .any)) .nil)⟩, fun _ => ⟨_, rfl, .cons (tr_pt rfl) (.cons (tr_mun rfl (by first | rfl | (simp; done) | (simp; omega) | (rw [bg_l (by omega)]))) (.cons (tr_mun rfl (by first | rfl | (simp; done) | (simp; omega) | (rw [bg_l (by omega)]))) (.cons (tr_mun rfl (by first | rfl | (simp; done) | (simp; omega) | (rw [bg_l (by omega)]))) (.cons (tr_mun rfl (by first | rfl | (simp; done) | (simp; omega) | (rw [bg_l (by omega)]))) (.cons (tr_mun rfl (by first | rfl | (simp; done) | (simp; omega) | (rw [bg_l (by omega)]))) .nil)))))⟩, fun _ => ⟨_, rfl, trc_flat pe_sc rfl⟩, fun _ => ⟨_, rfl, trc_flat pe_sc rfl⟩, fun _ => ⟨_, rfl, trc_flat pe_sc rfl⟩, fun _ => ⟨_, rfl, trc_flat int_sc rfl⟩, (fun h => nomatch h), fun _ => ⟨_, rfl, trc_flat nce_sc rfl⟩, trivial⟩ tr_v (.inr ⟨_, hdo, rfl, rfl⟩)
    refine v_nil ?_
    refine d_nil ?_
    refine q_n ?_
    refine w_t rfl ?_
    refine w_draw [0, 1, 3, 7, 15, 0, 32, 0, 128, 0, 512, 1920, 4095, 8191] [⟨0, 0, []⟩, ⟨1, 0, []⟩, ⟨2, 0, []⟩, ⟨3, 0, []⟩, ⟨4, 0, []⟩, ⟨5, 0, []⟩, ⟨6, 0, []⟩, ⟨7, 0, []⟩, ⟨8, 0, []⟩, ⟨9, 0, []⟩, ⟨10, 0, []⟩, ⟨11, 0, []⟩, ⟨12, 0, []⟩, ⟨13, 1, []⟩] rfl rfl ?_
    refine d_q rfl rfl rfl rfl rfl ?_
    refine v_move rfl ?_
    refine v_nil ?_
    refine d_q rfl rfl rfl rfl rfl ?_
    refine v_nil_pt rfl ?_
    refine v_nil ?_
    refine d_q rfl rfl rfl rfl rfl ?_
    refine v_fa_pt (off' := 1) lay90 rfl rfl rfl ?_
    refine v_nil ?_
    refine d_q rfl rfl rfl rfl rfl ?_
    refine v_fa_pt (off' := 2) lay64 rfl rfl rfl ?_
    refine v_nil ?_
    refine d_q rfl rfl rfl rfl rfl ?_
    refine v_load_pt (.c _) lay61 rfl rfl rfl rfl ?_
    refine v_nil ?_
    refine d_q rfl rfl rfl rfl rfl ?_
    refine v_fa_pt (off' := 1) lay101 rfl rfl rfl ?_
    refine v_nil ?_
    refine d_q rfl rfl rfl rfl rfl ?_
    refine v_load_pt (.c _) lay2 rfl rfl rfl rfl ?_
    refine v_nil ?_
    refine d_q rfl rfl rfl rfl rfl ?_
    refine v_fa_pt (off' := 2) lay101 rfl rfl rfl ?_
    refine v_nil ?_
    refine d_q rfl rfl rfl rfl rfl ?_
    refine v_load_pt (.c _) lay2 rfl rfl rfl rfl ?_
    refine v_nil ?_
    refine d_q rfl rfl rfl rfl rfl ?_
    refine v_fa_pt (off' := 3) lay101 rfl rfl rfl ?_
    refine v_nil ?_
    refine d_q rfl rfl rfl rfl rfl ?_
    refine v_load_pt (.c _) lay2 rfl rfl rfl rfl ?_
    refine v_nil ?_
    refine d_q rfl rfl rfl rfl rfl ?_
    refine v_build [(0, 1), (1, 1)] [.v _, .v _] lay46 rfl rfl ?_
    refine v_nil ?_
    refine d_q rfl rfl rfl rfl rfl ?_
    refine v_idx_mu_e (k := 2) (off := 0) (pn) lay61 lay46 rfl rfl rfl (hpn) (by omega) ?_
    refine v_nil ?_
    refine d_e rfl rfl rfl ?_
    refine v_store_flat (H' := [_, _, _, _, _, _, _, _, _, _, _]) pn 0 ((b.wr[a].2.2.1, b.wr[a].2.2.2)) pe_len lay46 rfl rfl rfl (by omega) (by first | omega | (simp; omega)) rfl rfl (rfl) rfl ?_
    refine v_nil ⟨again_nil, ?_⟩
    refine d_nil ?_
    refine q_n ?_
    refine w_seq ?_
    refine w_draw [0, 1, 3, 7, 15, 0, 32, 127, 255, 0, 1023] [⟨0, 0, []⟩, ⟨1, 0, []⟩, ⟨2, 0, []⟩, ⟨3, 0, []⟩, ⟨4, 0, []⟩, ⟨5, 0, []⟩, ⟨6, 0, []⟩, ⟨7, 0, []⟩, ⟨8, 0, []⟩, ⟨9, 1, [4, 6, 8]⟩, ⟨10, 1, []⟩] rfl rfl ?_
    refine d_q rfl rfl rfl rfl rfl ?_
    refine v_move rfl ?_
    refine v_nil ?_
    refine d_q rfl rfl rfl rfl rfl ?_
    refine v_nil_pt rfl ?_
    refine v_nil ?_
    refine d_q rfl rfl rfl rfl rfl ?_
    refine v_fa_pt (off' := 1) lay90 rfl rfl rfl ?_
    refine v_nil ?_
    refine d_q rfl rfl rfl rfl rfl ?_
    refine v_fa_pt (off' := 2) lay64 rfl rfl rfl ?_
    refine v_nil ?_
    refine d_q rfl rfl rfl rfl rfl ?_
    refine v_load_pt (.c _) lay61 rfl rfl rfl rfl ?_
    refine v_nil ?_
    refine d_q rfl rfl rfl rfl rfl ?_
    refine v_fa_pt (off' := 1) lay101 rfl rfl rfl ?_
    refine v_nil ?_
    refine d_q rfl rfl rfl rfl rfl ?_
    refine v_load_pt (.c _) lay2 rfl rfl rfl rfl ?_
    refine v_nil ?_
    refine d_q rfl rfl rfl rfl rfl ?_
    refine v_idx_mu_e (k := 2) (off := 0) (pn) lay61 lay46 rfl rfl rfl (hpn) (by omega) ?_
    refine v_nil ?_
    refine d_q rfl rfl rfl rfl rfl ?_
    refine v_load_flat pn 0 (.agg [.v _, .v _]) pe_len lay46 rfl rfl (by omega) (by first | omega | (simp; omega)) rfl rfl ?_
    refine v_nil ?_
    refine d_e rfl rfl rfl ?_
    refine v_alloc (m := 11) (H' := [_, _, _, _, _, _, _, _, _, _, _, ⟨[.v _, .v _], 46, true⟩]) lay46 rfl rfl ?_
    refine v_nil ⟨⟨ag_load_flat pn 0 (.agg [.v _, .v _]) pe_len lay46 rfl rfl (by omega) (by first | omega | (simp; omega)) rfl rfl, ⟨ag_load_pt (.c _) lay2 rfl rfl rfl rfl, ⟨ag_load_pt (.c _) lay61 rfl rfl rfl rfl, trivial⟩⟩⟩, ?_⟩
    refine d_e rfl rfl rfl ?_
    refine v_store (H' := [_, _, _, _, _, _, _, _, _, _, _, ⟨[_, _], 46, true⟩]) lay46 rfl rfl rfl rfl rfl rfl ?_
    refine v_nil ⟨again_nil, ?_⟩
    refine d_nil ?_
    refine q_n ?_
    refine w_draw [0, 0, 2, 6, 14, 30, 0, 64, 0, 256, 0, 1024, 4032, 8128, 16382, 32767, 65535, 131071, 262143] [⟨0, 0, []⟩, ⟨1, 0, []⟩, ⟨2, 0, []⟩, ⟨3, 0, []⟩, ⟨4, 0, []⟩, ⟨5, 0, []⟩, ⟨6, 0, []⟩, ⟨7, 0, []⟩, ⟨8, 0, []⟩, ⟨9, 0, []⟩, ⟨10, 0, []⟩, ⟨11, 0, []⟩, ⟨12, 0, []⟩, ⟨13, 2, []⟩, ⟨14, 1, []⟩, ⟨15, 0, []⟩, ⟨16, 0, []⟩, ⟨17, 0, []⟩, ⟨18, 1, []⟩] rfl rfl ?_
    refine d_q rfl rfl rfl rfl rfl ?_
    refine v_move rfl ?_
    refine v_nil ?_
    refine d_q rfl rfl rfl rfl rfl ?_
    refine v_move rfl ?_
    refine v_nil ?_
    refine d_q rfl rfl rfl rfl rfl ?_
    refine v_nil_pt rfl ?_
    refine v_nil ?_
    refine d_q rfl rfl rfl rfl rfl ?_
    refine v_fa_pt (off' := 1) lay90 rfl rfl rfl ?_
    refine v_nil ?_
    refine d_q rfl rfl rfl rfl rfl ?_
    refine v_fa_pt (off' := 5) lay64 rfl rfl rfl ?_
    refine v_nil ?_
    refine d_q rfl rfl rfl rfl rfl ?_
    refine v_load_pt (.c _) lay62 rfl rfl rfl rfl ?_
    refine v_nil ?_
    refine d_q rfl rfl rfl rfl rfl ?_
    refine v_fa_pt (off' := 1) lay101 rfl rfl rfl ?_
    refine v_nil ?_
    refine d_q rfl rfl rfl rfl rfl ?_
    refine v_load_pt (.c _) lay2 rfl rfl rfl rfl ?_
    refine v_nil ?_
    refine d_q rfl rfl rfl rfl rfl ?_
    refine v_fa_pt (off' := 0) lay46 rfl rfl rfl ?_
    refine v_nil ?_
    refine d_q rfl rfl rfl rfl rfl ?_
    refine v_load_pt (.c _) lay2 rfl rfl rfl rfl ?_
    refine v_nil ?_
    refine d_q rfl rfl rfl rfl rfl ?_
    refine v_fa_pt (off' := 1) lay46 rfl rfl rfl ?_
    refine v_nil ?_
    refine d_q rfl rfl rfl rfl rfl ?_
    refine v_load_pt (.c _) lay2 rfl rfl rfl rfl ?_
    refine v_nil ?_
    refine d_q rfl rfl rfl rfl rfl ?_
    refine v_build [(0, 1), (1, 1), (2, 1), (3, 1)] [.v _, .v _, .v _, .v _] lay101 rfl rfl ?_
    refine v_nil ?_
    refine d_z (.c (.sl true 1 4 (flat nce [(true, b.wr[a].2.1, ((b.ps.set pn (b.wr[a].2.2.1, b.wr[a].2.2.2))[pn]'(by simpa using k6)).1, ((b.ps.set pn (b.wr[a].2.2.1, b.wr[a].2.2.2))[pn]'(by simpa using k6)).2)]))) rfl rfl rfl ?_
    refine d_e rfl rfl rfl ?_
    refine v_app_flat_sl (H' := [_, _, _, _, _, _, _, _, _, _, _, _, _]) nce_sc nce_len lay62 lay101 rfl rfl (by first | rfl | (simp; done) | (simp; omega) | omega | (rw [bg_l (by omega)])) rfl rfl rfl (by unfold maxLen; simp only []; omega) rfl rfl ?_
    refine v_nil ⟨again_nil, ?_⟩
    refine d_q rfl rfl rfl rfl rfl ?_
    refine v_nil_pt rfl ?_
    refine v_nil ?_
    refine d_q rfl rfl rfl rfl rfl ?_
    refine v_fa_pt (off' := 1) lay90 rfl rfl rfl ?_
    refine v_nil ?_
    refine d_q rfl rfl rfl rfl rfl ?_
    refine v_fa_pt (off' := 5) lay64 rfl rfl rfl ?_
    refine v_nil ?_
    refine d_e rfl rfl rfl ?_
    refine v_store (H' := [_, ⟨[_, _, _, _, _, _], 90, true⟩, _, _, _, _, _, _, _, _, _, _, _]) lay62 rfl rfl rfl rfl rfl rfl ?_
    refine v_nil ⟨again_nil, ?_⟩
    refine d_nil ?_
    refine r_n rfl ?_
    refine v_nil ?_
    refine q_n ?_
    refine w_seq ?_
    refine w_reg rfl ?_
    refine v_assign (c := .v (.int .i64 0)) rfl ?_
    refine v_nil ?_
    refine q_n ?_
    refine w_ret ?_
    refine r_r rfl ?_
    refine v_assign rfl ?_
    refine v_nil ?_
    refine q_n ?_
    refine w_ret (q_r ?_)
    refine r_r rfl ?_
    have hdo : doB p b d = ({ b with ps := b.ps.set pn (b.wr[a].2.2.1, b.wr[a].2.2.2), wr := b.wr ++ [(true, b.wr[a].2.1, b.wr[a].2.2.1, b.wr[a].2.2.2)] }, 0) := do_copy (by omega) ha k4 (.inr (by omega)) (come_new h5 hpn k6 h16)
    exact g_ans (H1 := doH2 p ({ b with ps := b.ps.set pn (b.wr[a].2.2.1, b.wr[a].2.2.2), wr := b.wr ++ [(true, b.wr[a].2.1, b.wr[a].2.2.1, b.wr[a].2.2.2)] })) [some 0, some 1, some 2, some 3, some 4, some 5, some 6, some 12] rfl rfl rfl ⟨fun _ => ⟨_, rfl, .cons tr_v (.cons (.c (.dn .any)) .nil)⟩, fun _ => ⟨_, rfl, .cons (tr_pt rfl) (.cons (tr_mun rfl (by first | rfl | (simp; done) | (simp; omega) | (rw [bg_l (by omega)]))) (.cons (tr_mun rfl (by first | rfl | (simp; done) | (simp; omega) | (rw [bg_l (by omega)]))) (.cons (tr_mun rfl (by first | rfl | (simp; done) | (simp; omega) | (rw [bg_l (by omega)]))) (.cons (tr_mun rfl (by first | rfl | (simp; done) | (simp; omega) | (rw [bg_l (by omega)]))) (.cons (tr_mun rfl (by first | rfl | (simp; done) | (simp; omega) | (rw [bg_l (by omega)]))) .nil)))))⟩, fun _ => ⟨_, rfl, trc_flat pe_sc rfl⟩, fun _ => ⟨_, rfl, trc_flat pe_sc rfl⟩, fun _ => ⟨_, rfl, trc_flat pe_sc rfl⟩, fun _ => ⟨_, rfl, trc_flat int_sc rfl⟩, (fun h => nomatch h), fun _ => ⟨_, rfl, trc_flat nce_sc (congrArg (flat nce) (by simp only [List.getElem_set_self]))⟩, trivial⟩ tr_v (.inr ⟨_, hdo, rfl, rfl⟩)
  refine v_move rfl ?_
  refine v_guard_off rfl rfl rfl ?_
  refine v_guard_off rfl rfl rfl ?_
  refine v_guard_off rfl rfl rfl ?_
  refine v_pick_f (v := .v (.bool false)) rfl rfl ?_
  refine v_move rfl ?_
  refine v_guard_off rfl rfl rfl ?_
  refine v_guard_off rfl rfl rfl ?_
  refine v_guard_off rfl rfl rfl ?_
  refine v_guard_off rfl rfl rfl ?_
  refine v_guard_off rfl rfl rfl ?_
  refine v_guard_off rfl rfl rfl ?_
  refine v_guard_off rfl rfl rfl ?_
  refine v_pick_f (v := .v (.bool false)) rfl rfl ?_
  refine v_nil ?_
  refine q_n ?_
  refine w_f rfl ?_
  refine w_skip ?_
  refine q_n ?_
  refine w_seq ?_
  refine w_seq ?_
  refine w_reg rfl ?_
  refine v_fa_pt (off' := 0) lay25 rfl rfl rfl ?_
  refine v_load_pt (.c _) lay2 rfl rfl rfl rfl ?_
  refine v_neq lay2 rfl rfl (fun h20 => ?_) (fun h20 => ?_)
  rotate_left
  · exfalso; omega
  refine v_nil ?_
  refine q_n ?_
  refine w_t rfl ?_
  refine w_seq ?_
  refine w_draw [0, 0, 2, 6, 14, 30, 0, 64, 192, 510, 1023, 2047] [⟨1, 0, []⟩, ⟨2, 0, []⟩, ⟨3, 0, []⟩, ⟨4, 0, []⟩, ⟨5, 0, []⟩, ⟨6, 0, []⟩, ⟨7, 0, []⟩, ⟨8, 0, []⟩, ⟨9, 0, []⟩, ⟨0, 1, [5, 7, 9]⟩, ⟨10, 1, []⟩, ⟨11, 0, []⟩] rfl rfl ?_
  refine d_q rfl rfl rfl rfl rfl ?_
  refine v_move rfl ?_
  refine v_nil ?_
  refine d_q rfl rfl rfl rfl rfl ?_
  refine v_nil_pt rfl ?_
  refine v_nil ?_
  refine d_q rfl rfl rfl rfl rfl ?_
  refine v_fa_pt (off' := 1) lay90 rfl rfl rfl ?_
  refine v_nil ?_
  refine d_q rfl rfl rfl rfl rfl ?_
  refine v_fa_pt (off' := 5) lay64 rfl rfl rfl ?_
  refine v_nil ?_
  refine d_q rfl rfl rfl rfl rfl ?_
  refine v_load_pt (.c _) lay62 rfl rfl rfl rfl ?_
  refine v_nil ?_
  refine d_q rfl rfl rfl rfl rfl ?_
  refine v_fa_pt (off' := 1) lay25 rfl rfl rfl ?_
  refine v_nil ?_
  refine d_q rfl rfl rfl rfl rfl ?_
  refine v_load_pt (.c _) lay2 rfl rfl rfl rfl ?_
  refine v_nil ?_
  refine d_q rfl rfl rfl rfl rfl ?_
  refine v_add lay2 rfl rfl (i64r (by omega)) ?_
  refine v_nil ?_
  refine d_q rfl rfl rfl rfl rfl ?_
  rcases Nat.lt_or_eq_of_le (show a + 1 ≤ b.wr.length by omega) with hce | hce
  rotate_left
  · refine v_slice_mu_end lay62 lay101 rfl rfl rfl rfl (by omega) (rfl) (by omega) ?_
    refine v_nil ?_
    refine d_e rfl rfl rfl ?_
    refine v_lit (flat nce []) (H' := [_, _, _, _, _, _, _, _, _, _, _]) lay62 lay101 rfl rfl ⟨by decide, by decide⟩ rfl rfl ?_
    refine v_nil ⟨⟨ag_slice_mu_end lay62 lay101 rfl rfl rfl rfl (by omega) (rfl) (by omega), ⟨ag_load_pt (.c _) lay2 rfl rfl rfl rfl, ⟨ag_load_pt (.c _) lay62 rfl rfl rfl rfl, trivial⟩⟩⟩, ?_⟩
    refine d_e rfl rfl rfl ?_
    refine v_app_flat_sl (zs := []) (H' := [_, _, _, _, _, _, _, _, _, _, _, _]) nce_sc nce_len lay62 lay101 rfl rfl (by first | rfl | (simp; done) | (simp; omega) | omega | (rw [bg_l (by omega)])) rfl rfl rfl (by unfold maxLen; simp only []; omega) rfl rfl ?_
    refine v_nil ⟨again_nil, ?_⟩
    refine d_q rfl rfl rfl rfl rfl ?_
    refine v_assign rfl ?_
    refine v_nil ?_
    refine d_nil ?_
    refine q_n ?_
    refine w_draw [0, 0, 0, 4, 12, 28, 60, 0, 128, 508, 1022, 0, 4094, 8191, 16383, 32767, 65535] [⟨0, 0, []⟩, ⟨2, 0, []⟩, ⟨3, 0, []⟩, ⟨4, 0, []⟩, ⟨5, 0, []⟩, ⟨6, 0, []⟩, ⟨7, 0, []⟩, ⟨8, 0, []⟩, ⟨9, 0, []⟩, ⟨11, 0, []⟩, ⟨1, 1, [6, 8, 9]⟩, ⟨10, 1, []⟩, ⟨12, 1, []⟩, ⟨13, 0, []⟩, ⟨14, 0, []⟩, ⟨15, 0, []⟩, ⟨16, 1, []⟩] rfl rfl ?_
    refine d_q rfl rfl rfl rfl rfl ?_
    refine v_move rfl ?_
    refine v_nil ?_
    refine d_q rfl rfl rfl rfl rfl ?_
    refine v_move rfl ?_
    refine v_nil ?_
    refine d_q rfl rfl rfl rfl rfl ?_
    refine v_nil_pt rfl ?_
    refine v_nil ?_
    refine d_q rfl rfl rfl rfl rfl ?_
    refine v_fa_pt (off' := 1) lay90 rfl rfl rfl ?_
    refine v_nil ?_
    refine d_q rfl rfl rfl rfl rfl ?_
    refine v_fa_pt (off' := 5) lay64 rfl rfl rfl ?_
    refine v_nil ?_
    refine d_q rfl rfl rfl rfl rfl ?_
    refine v_load_pt (.c _) lay62 rfl rfl rfl rfl ?_
    refine v_nil ?_
    refine d_q rfl rfl rfl rfl rfl ?_
    refine v_fa_pt (off' := 1) lay25 rfl rfl rfl ?_
    refine v_nil ?_
    refine d_q rfl rfl rfl rfl rfl ?_
    refine v_load_pt (.c _) lay2 rfl rfl rfl rfl ?_
    refine v_nil ?_
    refine d_q rfl rfl rfl rfl rfl ?_
    refine v_slice_mu (0) (a) lay62 lay101 rfl rfl rfl rfl (rfl) (ha) (by omega) (.inl rfl) ?_
    refine v_nil ?_
    refine d_q rfl rfl rfl rfl rfl ?_
    refine v_move rfl ?_
    refine v_nil ?_
    refine d_e rfl rfl rfl ?_
    refine v_lit (flat nce []) (H' := [_, _, _, _, _, _, _, _, _, _, _, _, _]) lay62 lay101 rfl rfl ⟨by decide, by decide⟩ rfl rfl ?_
    refine v_nil ⟨⟨ag_slice_mu (0) (a) lay62 lay101 rfl rfl rfl rfl (rfl) (ha) (by omega) (.inl rfl), ⟨ag_load_pt (.c _) lay2 rfl rfl rfl rfl, ⟨ag_load_pt (.c _) lay62 rfl rfl rfl rfl, trivial⟩⟩⟩, ?_⟩
    refine d_e rfl rfl rfl ?_
    refine v_app_flat_off (H' := [_, _, _, _, _, _, _, _, _, _, _, _, _, _]) (0) nce_sc nce_len lay62 lay101 rfl rfl (by first | rfl | (simp; done) | (simp; omega) | omega | (rw [bg_l (by omega)])) rfl rfl (by first | omega | (simp; omega)) rfl rfl (by unfold maxLen; simp only []; omega) rfl rfl ?_
    refine v_nil ⟨again_nil, ?_⟩
    refine d_e rfl rfl rfl ?_
    refine v_app_flat (H' := [_, _, _, _, _, _, _, _, _, _, _, _, _, _, _]) nce_sc nce_len lay62 lay101 rfl rfl (by first | rfl | (simp; done) | (simp; omega) | omega | (rw [bg_l (by omega)])) rfl rfl (by first | rfl | (simp; done)) rfl rfl (by unfold maxLen; simp only []; omega) rfl rfl ?_
    refine v_nil ⟨again_nil, ?_⟩
    refine d_q rfl rfl rfl rfl rfl ?_
    refine v_nil_pt rfl ?_
    refine v_nil ?_
    refine d_q rfl rfl rfl rfl rfl ?_
    refine v_fa_pt (off' := 1) lay90 rfl rfl rfl ?_
    refine v_nil ?_
    refine d_q rfl rfl rfl rfl rfl ?_
    refine v_fa_pt (off' := 5) lay64 rfl rfl rfl ?_
    refine v_nil ?_
    refine d_e rfl rfl rfl ?_
    refine v_store (H' := [_, ⟨[_, _, _, _, _, _], 90, true⟩, _, _, _, _, _, _, _, _, _, _, _, _, _]) lay62 rfl rfl rfl rfl rfl rfl ?_
    refine v_nil ⟨again_nil, ?_⟩
    refine d_nil ?_
    refine q_n ?_
    refine w_seq ?_
    refine w_seq ?_
    refine w_reg rfl ?_
    refine v_fa_pt (off' := 0) lay25 rfl rfl rfl ?_
    refine v_load_pt (.c _) lay2 rfl rfl rfl rfl ?_
    refine v_neq lay2 rfl rfl (fun h30 => ?_) (fun h30 => ?_)
    rotate_left
    · refine v_nil ?_
      refine q_n ?_
      refine w_f rfl ?_
      refine w_skip ?_
      refine q_n ?_
      refine w_seq ?_
      refine w_reg rfl ?_
      refine v_assign (c := .v (.int .i64 0)) rfl ?_
      refine v_nil ?_
      refine q_n ?_
      refine w_ret ?_
      refine r_r rfl ?_
      refine v_assign rfl ?_
      refine v_nil ?_
      refine q_n ?_
      refine w_ret (q_r ?_)
      refine r_r rfl ?_
      have hdo : doB p b d = ({ b with wr := b.wr.take a ++ b.wr.drop (a + 1) }, 0) := do_drop (by omega) ha k4
      exact g_ans (H1 := doH2 p ({ b with wr := b.wr.take a ++ b.wr.drop (a + 1) })) [some 0, some 1, some 2, some 3, some 4, some 5, some 6, some 14] rfl rfl rfl ⟨fun _ => ⟨_, rfl, .cons tr_v (.cons (.c (.dn .any)) .nil)⟩, fun _ => ⟨_, rfl, .cons (tr_pt rfl) (.cons (tr_mun rfl (by first | rfl | (simp; done) | (simp; omega) | (rw [bg_l (by omega)]))) (.cons (tr_mun rfl (by first | rfl | (simp; done) | (simp; omega) | (rw [bg_l (by omega)]))) (.cons (tr_mun rfl (by first | rfl | (simp; done) | (simp; omega) | (rw [bg_l (by omega)]))) (.cons (tr_mun rfl (by first | rfl | (simp; done) | (simp; omega) | (rw [bg_l (by omega)]))) (.cons (tr_mun rfl (by first | rfl | (simp; done) | (simp; omega) | (rw [bg_l (by omega)]))) .nil)))))⟩, fun _ => ⟨_, rfl, trc_flat pe_sc rfl⟩, fun _ => ⟨_, rfl, trc_flat pe_sc rfl⟩, fun _ => ⟨_, rfl, trc_flat pe_sc rfl⟩, fun _ => ⟨_, rfl, trc_flat int_sc rfl⟩, (fun h => nomatch h), fun _ => ⟨_, rfl, trc_flat nce_sc (congrArg (flat nce) (by exact wcut_end hce))⟩, trivial⟩ tr_v (.inr ⟨_, hdo, rfl, rfl⟩)
    refine v_nil ?_
    refine q_n ?_
    refine w_t rfl ?_
    refine w_reg rfl ?_
    refine v_move rfl ?_
    refine v_load_pt (.agg [_, _, _, _]) lay101 rfl rfl rfl rfl ?_
    refine v_inl (n := 80) (drawD_ok X) (fun _ _ => Go.Proofs.Try.call105 _ _) Go.Proofs.Try.func105 rfl rfl rfl rfl ?_
    refine w_seq ?_
    refine w_reg rfl ?_
    refine v_box (m := 15) (H' := [_, _, _, _, _, _, _, _, _, _, _, _, _, _, _, _]) lay101 rfl rfl rfl ?_
    refine v_nil ?_
    refine q_n ?_
    refine w_seq ?_
    refine w_seq ?_
    refine w_reg rfl ?_
    refine v_fa_pt (off' := 0) lay101 rfl rfl rfl ?_
    refine v_load_ptb lay4 rfl rfl rfl rfl (fun h31 => ?_) (fun h31 => ?_)
    · refine v_nil ?_
      refine q_n ?_
      refine w_t rfl ?_
      refine w_seq ?_
      refine w_draw [0, 1, 3, 7, 15, 0, 32, 0, 128, 384, 896, 1920, 0, 4096, 16256, 32640, 0, 65536, 262016, 524287, 1048575] [⟨0, 0, []⟩, ⟨1, 0, []⟩, ⟨2, 0, []⟩, ⟨3, 0, []⟩, ⟨4, 0, []⟩, ⟨5, 0, []⟩, ⟨6, 0, []⟩, ⟨7, 0, []⟩, ⟨8, 0, []⟩, ⟨9, 0, []⟩, ⟨10, 0, []⟩, ⟨11, 0, []⟩, ⟨12, 0, []⟩, ⟨13, 0, []⟩, ⟨14, 0, []⟩, ⟨15, 0, []⟩, ⟨16, 0, []⟩, ⟨17, 0, []⟩, ⟨18, 0, []⟩, ⟨19, 0, []⟩, ⟨20, 1, []⟩] rfl rfl ?_
      refine d_q rfl rfl rfl rfl rfl ?_
      refine v_move rfl ?_
      refine v_nil ?_
      refine d_q rfl rfl rfl rfl rfl ?_
      refine v_nil_pt rfl ?_
      refine v_nil ?_
      refine d_q rfl rfl rfl rfl rfl ?_
      refine v_fa_pt (off' := 1) lay90 rfl rfl rfl ?_
      refine v_nil ?_
      refine d_q rfl rfl rfl rfl rfl ?_
      refine v_fa_pt (off' := 4) lay64 rfl rfl rfl ?_
      refine v_nil ?_
      refine d_q rfl rfl rfl rfl rfl ?_
      refine v_load_pt (.c _) lay28 rfl rfl rfl rfl ?_
      refine v_nil ?_
      refine d_q rfl rfl rfl rfl rfl ?_
      refine v_fa_pt (off' := 1) lay101 rfl rfl rfl ?_
      refine v_nil ?_
      refine d_q rfl rfl rfl rfl rfl ?_
      refine v_load_pt (.c _) lay2 rfl rfl rfl rfl ?_
      refine v_nil ?_
      refine d_q rfl rfl rfl rfl rfl ?_
      refine v_move rfl ?_
      refine v_nil ?_
      refine d_q rfl rfl rfl rfl rfl ?_
      refine v_nil_pt rfl ?_
      refine v_nil ?_
      refine d_q rfl rfl rfl rfl rfl ?_
      refine v_fa_pt (off' := 1) lay90 rfl rfl rfl ?_
      refine v_nil ?_
      refine d_q rfl rfl rfl rfl rfl ?_
      refine v_fa_pt (off' := 4) lay64 rfl rfl rfl ?_
      refine v_nil ?_
      refine d_q rfl rfl rfl rfl rfl ?_
      refine v_load_pt (.c _) lay28 rfl rfl rfl rfl ?_
      refine v_nil ?_
      refine d_q rfl rfl rfl rfl rfl ?_
      refine v_fa_pt (off' := 1) lay101 rfl rfl rfl ?_
      refine v_nil ?_
      refine d_q rfl rfl rfl rfl rfl ?_
      refine v_load_pt (.c _) lay2 rfl rfl rfl rfl ?_
      refine v_nil ?_
      refine d_q rfl rfl rfl rfl rfl ?_
      refine v_idx_mu_e (k := 1) (off := 0) (pn) lay28 lay2 rfl rfl rfl (hpn) (by omega) ?_
      refine v_nil ?_
      refine d_q rfl rfl rfl rfl rfl ?_
      refine v_load_flat pn 0 (.c (.v _)) int_len lay2 rfl rfl (by omega) (by first | omega | (simp; omega)) rfl rfl ?_
      refine v_nil ?_
      refine d_q rfl rfl rfl rfl rfl ?_
      refine v_fa_pt (off' := 3) lay101 rfl rfl rfl ?_
      refine v_nil ?_
      refine d_q rfl rfl rfl rfl rfl ?_
      refine v_load_pt (.c _) lay2 rfl rfl rfl rfl ?_
      refine v_nil ?_
      refine d_call (c98 _ _) rfl rfl rfl rfl rfl (.cons vw_v (.cons vw_v .nil)) ?_
      refine d_q rfl rfl rfl rfl rfl ?_
      refine v_idx_mu_e (k := 1) (off := 0) (pn) lay28 lay2 rfl rfl rfl (hpn) (by omega) ?_
      refine v_nil ?_
      refine d_e rfl rfl rfl ?_
      refine v_store_flat (H' := [_, _, _, _, _, _, _, _, _, _, _, _, _, _, _, _]) pn 0 (mx b.kn[pn] b.wr[a].2.2.2) int_len lay2 rfl rfl rfl (by omega) (by first | omega | (simp; omega)) rfl rfl (rfl) rfl ?_
      refine v_nil ⟨again_nil, ?_⟩
      refine d_nil ?_
      refine q_n ?_
      refine w_ret (q_r ?_)
      refine r_r rfl ?_
      refine v_nil ?_
      refine q_n ?_
      refine w_seq ?_
      refine w_reg rfl ?_
      refine v_assign (c := .v (.int .i64 0)) rfl ?_
      refine v_nil ?_
      refine q_n ?_
      refine w_ret ?_
      refine r_r rfl ?_
      refine v_assign rfl ?_
      refine v_nil ?_
      refine q_n ?_
      refine w_ret (q_r ?_)
      refine r_r rfl ?_
      have hdo : doB p b d = ({ b with kn := b.kn.set pn (mx b.kn[pn] b.wr[a].2.2.2), wr := b.wr.take a ++ b.wr.drop (a + 1) }, 0) := do_deliver (by omega) ha k4 (come_back (b := cutW b a) h31 hpn k5)
      exact g_ans (H1 := doH2 p ({ b with kn := b.kn.set pn (mx b.kn[pn] b.wr[a].2.2.2), wr := b.wr.take a ++ b.wr.drop (a + 1) })) [some 0, some 1, some 2, some 3, some 4, some 5, some 6, some 14] rfl rfl rfl ⟨fun _ => ⟨_, rfl, .cons tr_v (.cons (.c (.dn .any)) .nil)⟩, fun _ => ⟨_, rfl, .cons (tr_pt rfl) (.cons (tr_mun rfl (by first | rfl | (simp; done) | (simp; omega) | (rw [bg_l (by omega)]))) (.cons (tr_mun rfl (by first | rfl | (simp; done) | (simp; omega) | (rw [bg_l (by omega)]))) (.cons (tr_mun rfl (by first | rfl | (simp; done) | (simp; omega) | (rw [bg_l (by omega)]))) (.cons (tr_mun rfl (by first | rfl | (simp; done) | (simp; omega) | (rw [bg_l (by omega)]))) (.cons (tr_mun rfl (by first | rfl | (simp; done) | (simp; omega) | (rw [bg_l (by omega)]))) .nil)))))⟩, fun _ => ⟨_, rfl, trc_flat pe_sc rfl⟩, fun _ => ⟨_, rfl, trc_flat pe_sc rfl⟩, fun _ => ⟨_, rfl, trc_flat pe_sc rfl⟩, fun _ => ⟨_, rfl, trc_flat int_sc rfl⟩, (fun h => nomatch h), fun _ => ⟨_, rfl, trc_flat nce_sc (congrArg (flat nce) (by exact wcut_end hce))⟩, trivial⟩ tr_v (.inr ⟨_, hdo, rfl, rfl⟩)
    refine v_nil ?_
    refine q_n ?_
    refine w_f rfl ?_
    refine w_skip ?_
    refine q_n ?_
    refine w_seq ?_
    refine w_seq ?_
    refine w_draw [0, 1, 0, 4, 12, 28, 60, 0, 128, 508, 1020, 2044, 4095] [⟨0, 0, []⟩, ⟨1, 0, []⟩, ⟨2, 0, []⟩, ⟨3, 0, []⟩, ⟨4, 0, []⟩, ⟨5, 0, []⟩, ⟨6, 0, []⟩, ⟨7, 0, []⟩, ⟨8, 0, []⟩, ⟨9, 0, []⟩, ⟨10, 0, []⟩, ⟨11, 0, []⟩, ⟨12, 0, []⟩] rfl rfl ?_
    refine d_q rfl rfl rfl rfl rfl ?_
    refine v_fa_pt (off' := 3) lay101 rfl rfl rfl ?_
    refine v_nil ?_
    refine d_q rfl rfl rfl rfl rfl ?_
    refine v_load_pt (.c _) lay2 rfl rfl rfl rfl ?_
    refine v_nil ?_
    refine d_q rfl rfl rfl rfl rfl ?_
    refine v_move rfl ?_
    refine v_nil ?_
    refine d_q rfl rfl rfl rfl rfl ?_
    refine v_nil_pt rfl ?_
    refine v_nil ?_
    refine d_q rfl rfl rfl rfl rfl ?_
    refine v_fa_pt (off' := 1) lay90 rfl rfl rfl ?_
    refine v_nil ?_
    refine d_q rfl rfl rfl rfl rfl ?_
    refine v_fa_pt (off' := 2) lay64 rfl rfl rfl ?_
    refine v_nil ?_
    refine d_q rfl rfl rfl rfl rfl ?_
    refine v_load_pt (.c _) lay61 rfl rfl rfl rfl ?_
    refine v_nil ?_
    refine d_q rfl rfl rfl rfl rfl ?_
    refine v_fa_pt (off' := 1) lay101 rfl rfl rfl ?_
    refine v_nil ?_
    refine d_q rfl rfl rfl rfl rfl ?_
    refine v_load_pt (.c _) lay2 rfl rfl rfl rfl ?_
    refine v_nil ?_
    refine d_q rfl rfl rfl rfl rfl ?_
    refine v_idx_mu_e (k := 2) (off := 0) (pn) lay61 lay46 rfl rfl rfl (hpn) (by omega) ?_
    refine v_nil ?_
    refine d_q rfl rfl rfl rfl rfl ?_
    refine v_fa_pt (off' := _) lay46 rfl rfl rfl ?_
    refine v_nil ?_
    refine d_q rfl rfl rfl rfl rfl ?_
    refine v_load_flat pn 1 (.c (.v _)) pe_len lay2 rfl rfl (by omega) (by first | omega | (simp; omega)) rfl rfl ?_
    refine v_nil ?_
    refine d_q rfl rfl rfl rfl rfl ?_
    refine v_gtr lay2 rfl rfl (fun h35 => ?_) (fun h35 => ?_)
    rotate_left
    · refine v_nil ?_
      refine d_nil ?_
      refine q_n ?_
      refine w_f rfl ?_
      refine w_skip ?_
      refine q_n ?_
      refine w_seq ?_
      refine w_draw [0, 1, 3, 7, 15, 0, 32, 127, 255, 0, 1023] [⟨0, 0, []⟩, ⟨1, 0, []⟩, ⟨2, 0, []⟩, ⟨3, 0, []⟩, ⟨4, 0, []⟩, ⟨5, 0, []⟩, ⟨6, 0, []⟩, ⟨7, 0, []⟩, ⟨8, 0, []⟩, ⟨9, 1, [4, 6, 8]⟩, ⟨10, 1, []⟩] rfl rfl ?_
      refine d_q rfl rfl rfl rfl rfl ?_
      refine v_move rfl ?_
      refine v_nil ?_
      refine d_q rfl rfl rfl rfl rfl ?_
      refine v_nil_pt rfl ?_
      refine v_nil ?_
      refine d_q rfl rfl rfl rfl rfl ?_
      refine v_fa_pt (off' := 1) lay90 rfl rfl rfl ?_
      refine v_nil ?_
      refine d_q rfl rfl rfl rfl rfl ?_
      refine v_fa_pt (off' := 2) lay64 rfl rfl rfl ?_
      refine v_nil ?_
      refine d_q rfl rfl rfl rfl rfl ?_
      refine v_load_pt (.c _) lay61 rfl rfl rfl rfl ?_
      refine v_nil ?_
      refine d_q rfl rfl rfl rfl rfl ?_
      refine v_fa_pt (off' := 1) lay101 rfl rfl rfl ?_
      refine v_nil ?_
      refine d_q rfl rfl rfl rfl rfl ?_
      refine v_load_pt (.c _) lay2 rfl rfl rfl rfl ?_
      refine v_nil ?_
      refine d_q rfl rfl rfl rfl rfl ?_
      refine v_idx_mu_e (k := 2) (off := 0) (pn) lay61 lay46 rfl rfl rfl (hpn) (by omega) ?_
      refine v_nil ?_
      refine d_q rfl rfl rfl rfl rfl ?_
      refine v_load_flat pn 0 (.agg [.v _, .v _]) pe_len lay46 rfl rfl (by omega) (by first | omega | (simp; omega)) rfl rfl ?_
      refine v_nil ?_
      refine d_e rfl rfl rfl ?_
      refine v_alloc (m := 16) (H' := [_, _, _, _, _, _, _, _, _, _, _, _, _, _, _, _, ⟨[.v _, .v _], 46, true⟩]) lay46 rfl rfl ?_
      refine v_nil ⟨⟨ag_load_flat pn 0 (.agg [.v _, .v _]) pe_len lay46 rfl rfl (by omega) (by first | omega | (simp; omega)) rfl rfl, ⟨ag_load_pt (.c _) lay2 rfl rfl rfl rfl, ⟨ag_load_pt (.c _) lay61 rfl rfl rfl rfl, trivial⟩⟩⟩, ?_⟩
      refine d_e rfl rfl rfl ?_
      refine v_store (H' := [_, _, _, _, _, _, _, _, _, _, _, _, _, _, _, _, ⟨[_, _], 46, true⟩]) lay46 rfl rfl rfl rfl rfl rfl ?_
      refine v_nil ⟨again_nil, ?_⟩
      refine d_nil ?_
      refine q_n ?_
      refine w_draw [0, 0, 2, 6, 14, 30, 0, 64, 0, 256, 0, 1024, 4032, 8128, 16382, 32767, 65535, 131071, 262143] [⟨0, 0, []⟩, ⟨1, 0, []⟩, ⟨2, 0, []⟩, ⟨3, 0, []⟩, ⟨4, 0, []⟩, ⟨5, 0, []⟩, ⟨6, 0, []⟩, ⟨7, 0, []⟩, ⟨8, 0, []⟩, ⟨9, 0, []⟩, ⟨10, 0, []⟩, ⟨11, 0, []⟩, ⟨12, 0, []⟩, ⟨13, 2, []⟩, ⟨14, 1, []⟩, ⟨15, 0, []⟩, ⟨16, 0, []⟩, ⟨17, 0, []⟩, ⟨18, 1, []⟩] rfl rfl ?_
      refine d_q rfl rfl rfl rfl rfl ?_
      refine v_move rfl ?_
      refine v_nil ?_
      refine d_q rfl rfl rfl rfl rfl ?_
      refine v_move rfl ?_
      refine v_nil ?_
      refine d_q rfl rfl rfl rfl rfl ?_
      refine v_nil_pt rfl ?_
      refine v_nil ?_
      refine d_q rfl rfl rfl rfl rfl ?_
      refine v_fa_pt (off' := 1) lay90 rfl rfl rfl ?_
      refine v_nil ?_
      refine d_q rfl rfl rfl rfl rfl ?_
      refine v_fa_pt (off' := 5) lay64 rfl rfl rfl ?_
      refine v_nil ?_
      refine d_q rfl rfl rfl rfl rfl ?_
      refine v_load_pt (.c _) lay62 rfl rfl rfl rfl ?_
      refine v_nil ?_
      refine d_q rfl rfl rfl rfl rfl ?_
      refine v_fa_pt (off' := 1) lay101 rfl rfl rfl ?_
      refine v_nil ?_
      refine d_q rfl rfl rfl rfl rfl ?_
      refine v_load_pt (.c _) lay2 rfl rfl rfl rfl ?_
      refine v_nil ?_
      refine d_q rfl rfl rfl rfl rfl ?_
      refine v_fa_pt (off' := 0) lay46 rfl rfl rfl ?_
      refine v_nil ?_
      refine d_q rfl rfl rfl rfl rfl ?_
      refine v_load_pt (.c _) lay2 rfl rfl rfl rfl ?_
      refine v_nil ?_
      refine d_q rfl rfl rfl rfl rfl ?_
      refine v_fa_pt (off' := 1) lay46 rfl rfl rfl ?_
      refine v_nil ?_
      refine d_q rfl rfl rfl rfl rfl ?_
      refine v_load_pt (.c _) lay2 rfl rfl rfl rfl ?_
      refine v_nil ?_
      refine d_q rfl rfl rfl rfl rfl ?_
      refine v_build [(0, 1), (1, 1), (2, 1), (3, 1)] [.v _, .v _, .v _, .v _] lay101 rfl rfl ?_
      refine v_nil ?_
      refine d_z (.c (.sl true 1 4 (flat nce [(true, b.wr[a].2.1, b.ps[pn].1, b.ps[pn].2)]))) rfl rfl rfl ?_
      refine d_e rfl rfl rfl ?_
      refine v_app_flat_sl (H' := [_, _, _, _, _, _, _, _, _, _, _, _, _, _, _, _, _, _]) nce_sc nce_len lay62 lay101 rfl rfl (by first | rfl | (simp; done) | (simp; omega) | omega | (rw [bg_l (by omega)])) rfl rfl rfl (by unfold maxLen; simp only []; omega) rfl rfl ?_
      refine v_nil ⟨again_nil, ?_⟩
      refine d_q rfl rfl rfl rfl rfl ?_
      refine v_nil_pt rfl ?_
      refine v_nil ?_
      refine d_q rfl rfl rfl rfl rfl ?_
      refine v_fa_pt (off' := 1) lay90 rfl rfl rfl ?_
      refine v_nil ?_
      refine d_q rfl rfl rfl rfl rfl ?_
      refine v_fa_pt (off' := 5) lay64 rfl rfl rfl ?_
      refine v_nil ?_
      refine d_e rfl rfl rfl ?_
      refine v_store (H' := [_, ⟨[_, _, _, _, _, _], 90, true⟩, _, _, _, _, _, _, _, _, _, _, _, _, _, _, _, _]) lay62 rfl rfl rfl rfl rfl rfl ?_
      refine v_nil ⟨again_nil, ?_⟩
      refine d_nil ?_
      refine r_n rfl ?_
      refine v_nil ?_
      refine q_n ?_
      refine w_seq ?_
      refine w_reg rfl ?_
      refine v_assign (c := .v (.int .i64 0)) rfl ?_
      refine v_nil ?_
      refine q_n ?_
      refine w_ret ?_
      refine r_r rfl ?_
      refine v_assign rfl ?_
      refine v_nil ?_
      refine q_n ?_
      refine w_ret (q_r ?_)
      refine r_r rfl ?_
      have hdo : doB p b d = ({ b with wr := (b.wr.take a ++ b.wr.drop (a + 1)) ++ [(true, b.wr[a].2.1, b.ps[pn].1, b.ps[pn].2)] }, 0) := do_deliver (by omega) ha k4 (come_old (b := cutW b a) h31 hpn k6 h35)
      exact g_ans (H1 := doH2 p ({ b with wr := (b.wr.take a ++ b.wr.drop (a + 1)) ++ [(true, b.wr[a].2.1, b.ps[pn].1, b.ps[pn].2)] })) [some 0, some 1, some 2, some 3, some 4, some 5, some 6, some 17] rfl rfl rfl ⟨fun _ => ⟨_, rfl, .cons tr_v (.cons (.c (.dn .any)) .nil)⟩, fun _ => ⟨_, rfl, .cons (tr_pt rfl) (.cons (tr_mun rfl (by first | rfl | (simp; done) | (simp; omega) | (rw [bg_l (by omega)]))) (.cons (tr_mun rfl (by first | rfl | (simp; done) | (simp; omega) | (rw [bg_l (by omega)]))) (.cons (tr_mun rfl (by first | rfl | (simp; done) | (simp; omega) | (rw [bg_l (by omega)]))) (.cons (tr_mun rfl (by first | rfl | (simp; done) | (simp; omega) | (rw [bg_l (by omega)]))) (.cons (tr_mun rfl (by first | rfl | (simp; done) | (simp; omega) | (rw [bg_l (by omega)]))) .nil)))))⟩, fun _ => ⟨_, rfl, trc_flat pe_sc rfl⟩, fun _ => ⟨_, rfl, trc_flat pe_sc rfl⟩, fun _ => ⟨_, rfl, trc_flat pe_sc rfl⟩, fun _ => ⟨_, rfl, trc_flat int_sc rfl⟩, (fun h => nomatch h), fun _ => ⟨_, rfl, trc_flat nce_sc (congrArg (flat nce) (by rw [wcut_end hce]))⟩, trivial⟩ tr_v (.inr ⟨_, hdo, rfl, rfl⟩)
    refine v_nil ?_
    refine d_nil ?_
    refine q_n ?_
    refine w_t rfl ?_
    refine w_draw [0, 1, 3, 7, 15, 0, 32, 0, 128, 0, 512, 1920, 4095, 8191] [⟨0, 0, []⟩, ⟨1, 0, []⟩, ⟨2, 0, []⟩, ⟨3, 0, []⟩, ⟨4, 0, []⟩, ⟨5, 0, []⟩, ⟨6, 0, []⟩, ⟨7, 0, []⟩, ⟨8, 0, []⟩, ⟨9, 0, []⟩, ⟨10, 0, []⟩, ⟨11, 0, []⟩, ⟨12, 0, []⟩, ⟨13, 1, []⟩] rfl rfl ?_
    refine d_q rfl rfl rfl rfl rfl ?_
    refine v_move rfl ?_
    refine v_nil ?_
    refine d_q rfl rfl rfl rfl rfl ?_
    refine v_nil_pt rfl ?_
    refine v_nil ?_
    refine d_q rfl rfl rfl rfl rfl ?_
    refine v_fa_pt (off' := 1) lay90 rfl rfl rfl ?_
    refine v_nil ?_
    refine d_q rfl rfl rfl rfl rfl ?_
    refine v_fa_pt (off' := 2) lay64 rfl rfl rfl ?_
    refine v_nil ?_
    refine d_q rfl rfl rfl rfl rfl ?_
    refine v_load_pt (.c _) lay61 rfl rfl rfl rfl ?_
    refine v_nil ?_
    refine d_q rfl rfl rfl rfl rfl ?_
    refine v_fa_pt (off' := 1) lay101 rfl rfl rfl ?_
    refine v_nil ?_
    refine d_q rfl rfl rfl rfl rfl ?_
    refine v_load_pt (.c _) lay2 rfl rfl rfl rfl ?_
    refine v_nil ?_
    refine d_q rfl rfl rfl rfl rfl ?_
    refine v_fa_pt (off' := 2) lay101 rfl rfl rfl ?_
    refine v_nil ?_
    refine d_q rfl rfl rfl rfl rfl ?_
    refine v_load_pt (.c _) lay2 rfl rfl rfl rfl ?_
    refine v_nil ?_
    refine d_q rfl rfl rfl rfl rfl ?_
    refine v_fa_pt (off' := 3) lay101 rfl rfl rfl ?_
    refine v_nil ?_
    refine d_q rfl rfl rfl rfl rfl ?_
    refine v_load_pt (.c _) lay2 rfl rfl rfl rfl ?_
    refine v_nil ?_
    refine d_q rfl rfl rfl rfl rfl ?_
    refine v_build [(0, 1), (1, 1)] [.v _, .v _] lay46 rfl rfl ?_
    refine v_nil ?_
    refine d_q rfl rfl rfl rfl rfl ?_
    refine v_idx_mu_e (k := 2) (off := 0) (pn) lay61 lay46 rfl rfl rfl (hpn) (by omega) ?_
    refine v_nil ?_
    refine d_e rfl rfl rfl ?_
    refine v_store_flat (H' := [_, _, _, _, _, _, _, _, _, _, _, _, _, _, _, _]) pn 0 ((b.wr[a].2.2.1, b.wr[a].2.2.2)) pe_len lay46 rfl rfl rfl (by omega) (by first | omega | (simp; omega)) rfl rfl (rfl) rfl ?_
    refine v_nil ⟨again_nil, ?_⟩
    refine d_nil ?_
    refine q_n ?_
    refine w_seq ?_
    refine w_draw [0, 1, 3, 7, 15, 0, 32, 127, 255, 0, 1023] [⟨0, 0, []⟩, ⟨1, 0, []⟩, ⟨2, 0, []⟩, ⟨3, 0, []⟩, ⟨4, 0, []⟩, ⟨5, 0, []⟩, ⟨6, 0, []⟩, ⟨7, 0, []⟩, ⟨8, 0, []⟩, ⟨9, 1, [4, 6, 8]⟩, ⟨10, 1, []⟩] rfl rfl ?_
    refine d_q rfl rfl rfl rfl rfl ?_
    refine v_move rfl ?_
    refine v_nil ?_
    refine d_q rfl rfl rfl rfl rfl ?_
    refine v_nil_pt rfl ?_
    refine v_nil ?_
    refine d_q rfl rfl rfl rfl rfl ?_
    refine v_fa_pt (off' := 1) lay90 rfl rfl rfl ?_
    refine v_nil ?_
    refine d_q rfl rfl rfl rfl rfl ?_
    refine v_fa_pt (off' := 2) lay64 rfl rfl rfl ?_
    refine v_nil ?_
    refine d_q rfl rfl rfl rfl rfl ?_
    refine v_load_pt (.c _) lay61 rfl rfl rfl rfl ?_
    refine v_nil ?_
    refine d_q rfl rfl rfl rfl rfl ?_
    refine v_fa_pt (off' := 1) lay101 rfl rfl rfl ?_
    refine v_nil ?_
    refine d_q rfl rfl rfl rfl rfl ?_
    refine v_load_pt (.c _) lay2 rfl rfl rfl rfl ?_
    refine v_nil ?_
    refine d_q rfl rfl rfl rfl rfl ?_
    refine v_idx_mu_e (k := 2) (off := 0) (pn) lay61 lay46 rfl rfl rfl (hpn) (by omega) ?_
    refine v_nil ?_
    refine d_q rfl rfl rfl rfl rfl ?_
    refine v_load_flat pn 0 (.agg [.v _, .v _]) pe_len lay46 rfl rfl (by omega) (by first | omega | (simp; omega)) rfl rfl ?_
    refine v_nil ?_
    refine d_e rfl rfl rfl ?_
    refine v_alloc (m := 16) (H' := [_, _, _, _, _, _, _, _, _, _, _, _, _, _, _, _, ⟨[.v _, .v _], 46, true⟩]) lay46 rfl rfl ?_
    refine v_nil ⟨⟨ag_load_flat pn 0 (.agg [.v _, .v _]) pe_len lay46 rfl rfl (by omega) (by first | omega | (simp; omega)) rfl rfl, ⟨ag_load_pt (.c _) lay2 rfl rfl rfl rfl, ⟨ag_load_pt (.c _) lay61 rfl rfl rfl rfl, trivial⟩⟩⟩, ?_⟩
    refine d_e rfl rfl rfl ?_
    refine v_store (H' := [_, _, _, _, _, _, _, _, _, _, _, _, _, _, _, _, ⟨[_, _], 46, true⟩]) lay46 rfl rfl rfl rfl rfl rfl ?_
    refine v_nil ⟨again_nil, ?_⟩
    refine d_nil ?_
    refine q_n ?_
    refine w_draw [0, 0, 2, 6, 14, 30, 0, 64, 0, 256, 0, 1024, 4032, 8128, 16382, 32767, 65535, 131071, 262143] [⟨0, 0, []⟩, ⟨1, 0, []⟩, ⟨2, 0, []⟩, ⟨3, 0, []⟩, ⟨4, 0, []⟩, ⟨5, 0, []⟩, ⟨6, 0, []⟩, ⟨7, 0, []⟩, ⟨8, 0, []⟩, ⟨9, 0, []⟩, ⟨10, 0, []⟩, ⟨11, 0, []⟩, ⟨12, 0, []⟩, ⟨13, 2, []⟩, ⟨14, 1, []⟩, ⟨15, 0, []⟩, ⟨16, 0, []⟩, ⟨17, 0, []⟩, ⟨18, 1, []⟩] rfl rfl ?_
    refine d_q rfl rfl rfl rfl rfl ?_
    refine v_move rfl ?_
    refine v_nil ?_
    refine d_q rfl rfl rfl rfl rfl ?_
    refine v_move rfl ?_
    refine v_nil ?_
    refine d_q rfl rfl rfl rfl rfl ?_
    refine v_nil_pt rfl ?_
    refine v_nil ?_
    refine d_q rfl rfl rfl rfl rfl ?_
    refine v_fa_pt (off' := 1) lay90 rfl rfl rfl ?_
    refine v_nil ?_
    refine d_q rfl rfl rfl rfl rfl ?_
    refine v_fa_pt (off' := 5) lay64 rfl rfl rfl ?_
    refine v_nil ?_
    refine d_q rfl rfl rfl rfl rfl ?_
    refine v_load_pt (.c _) lay62 rfl rfl rfl rfl ?_
    refine v_nil ?_
    refine d_q rfl rfl rfl rfl rfl ?_
    refine v_fa_pt (off' := 1) lay101 rfl rfl rfl ?_
    refine v_nil ?_
    refine d_q rfl rfl rfl rfl rfl ?_
    refine v_load_pt (.c _) lay2 rfl rfl rfl rfl ?_
    refine v_nil ?_
    refine d_q rfl rfl rfl rfl rfl ?_
    refine v_fa_pt (off' := 0) lay46 rfl rfl rfl ?_
    refine v_nil ?_
    refine d_q rfl rfl rfl rfl rfl ?_
    refine v_load_pt (.c _) lay2 rfl rfl rfl rfl ?_
    refine v_nil ?_
    refine d_q rfl rfl rfl rfl rfl ?_
    refine v_fa_pt (off' := 1) lay46 rfl rfl rfl ?_
    refine v_nil ?_
    refine d_q rfl rfl rfl rfl rfl ?_
    refine v_load_pt (.c _) lay2 rfl rfl rfl rfl ?_
    refine v_nil ?_
    refine d_q rfl rfl rfl rfl rfl ?_
    refine v_build [(0, 1), (1, 1), (2, 1), (3, 1)] [.v _, .v _, .v _, .v _] lay101 rfl rfl ?_
    refine v_nil ?_
    refine d_z (.c (.sl true 1 4 (flat nce [(true, b.wr[a].2.1, ((b.ps.set pn (b.wr[a].2.2.1, b.wr[a].2.2.2))[pn]'(by simpa using k6)).1, ((b.ps.set pn (b.wr[a].2.2.1, b.wr[a].2.2.2))[pn]'(by simpa using k6)).2)]))) rfl rfl rfl ?_
    refine d_e rfl rfl rfl ?_
    refine v_app_flat_sl (H' := [_, _, _, _, _, _, _, _, _, _, _, _, _, _, _, _, _, _]) nce_sc nce_len lay62 lay101 rfl rfl (by first | rfl | (simp; done) | (simp; omega) | omega | (rw [bg_l (by omega)])) rfl rfl rfl (by unfold maxLen; simp only []; omega) rfl rfl ?_
    refine v_nil ⟨again_nil, ?_⟩
    refine d_q rfl rfl rfl rfl rfl ?_
    refine v_nil_pt rfl ?_
    refine v_nil ?_
    refine d_q rfl rfl rfl rfl rfl ?_
    refine v_fa_pt (off' := 1) lay90 rfl rfl rfl ?_
    refine v_nil ?_
    refine d_q rfl rfl rfl rfl rfl ?_
    refine v_fa_pt (off' := 5) lay64 rfl rfl rfl ?_
    refine v_nil ?_
    refine d_e rfl rfl rfl ?_
    refine v_store (H' := [_, ⟨[_, _, _, _, _, _], 90, true⟩, _, _, _, _, _, _, _, _, _, _, _, _, _, _, _, _]) lay62 rfl rfl rfl rfl rfl rfl ?_
    refine v_nil ⟨again_nil, ?_⟩
    refine d_nil ?_
    refine r_n rfl ?_
    refine v_nil ?_
    refine q_n ?_
    refine w_seq ?_
    refine w_reg rfl ?_
    refine v_assign (c := .v (.int .i64 0)) rfl ?_
    refine v_nil ?_
    refine q_n ?_
    refine w_ret ?_
    refine r_r rfl ?_
    refine v_assign rfl ?_
    refine v_nil ?_
    refine q_n ?_
    refine w_ret (q_r ?_)
    refine r_r rfl ?_
    have hdo : doB p b d = ({ b with ps := b.ps.set pn (b.wr[a].2.2.1, b.wr[a].2.2.2), wr := (b.wr.take a ++ b.wr.drop (a + 1)) ++ [(true, b.wr[a].2.1, b.wr[a].2.2.1, b.wr[a].2.2.2)] }, 0) := do_deliver (by omega) ha k4 (come_new (b := cutW b a) h31 hpn k6 h35)
    exact g_ans (H1 := doH2 p ({ b with ps := b.ps.set pn (b.wr[a].2.2.1, b.wr[a].2.2.2), wr := (b.wr.take a ++ b.wr.drop (a + 1)) ++ [(true, b.wr[a].2.1, b.wr[a].2.2.1, b.wr[a].2.2.2)] })) [some 0, some 1, some 2, some 3, some 4, some 5, some 6, some 17] rfl rfl rfl ⟨fun _ => ⟨_, rfl, .cons tr_v (.cons (.c (.dn .any)) .nil)⟩, fun _ => ⟨_, rfl, .cons (tr_pt rfl) (.cons (tr_mun rfl (by first | rfl | (simp; done) | (simp; omega) | (rw [bg_l (by omega)]))) (.cons (tr_mun rfl (by first | rfl | (simp; done) | (simp; omega) | (rw [bg_l (by omega)]))) (.cons (tr_mun rfl (by first | rfl | (simp; done) | (simp; omega) | (rw [bg_l (by omega)]))) (.cons (tr_mun rfl (by first | rfl | (simp; done) | (simp; omega) | (rw [bg_l (by omega)]))) (.cons (tr_mun rfl (by first | rfl | (simp; done) | (simp; omega) | (rw [bg_l (by omega)]))) .nil)))))⟩, fun _ => ⟨_, rfl, trc_flat pe_sc rfl⟩, fun _ => ⟨_, rfl, trc_flat pe_sc rfl⟩, fun _ => ⟨_, rfl, trc_flat pe_sc rfl⟩, fun _ => ⟨_, rfl, trc_flat int_sc rfl⟩, (fun h => nomatch h), fun _ => ⟨_, rfl, trc_flat nce_sc (congrArg (flat nce) (by simp only [List.getElem_set_self]; rw [wcut_end hce]))⟩, trivial⟩ tr_v (.inr ⟨_, hdo, rfl, rfl⟩)
  refine v_slice_mu (a + 1) (b.wr.length) lay62 lay101 rfl rfl rfl rfl (by omega) (rfl) (by omega) (.inr hce) ?_
  refine v_nil ?_
  refine d_e rfl rfl rfl ?_
  refine v_lit (flat nce []) (H' := [_, _, _, _, _, _, _, _, _, _, _]) lay62 lay101 rfl rfl ⟨by decide, by decide⟩ rfl rfl ?_
  refine v_nil ⟨⟨ag_slice_mu (a + 1) (b.wr.length) lay62 lay101 rfl rfl rfl rfl (by omega) (rfl) (by omega) (.inr hce), ⟨ag_load_pt (.c _) lay2 rfl rfl rfl rfl, ⟨ag_load_pt (.c _) lay62 rfl rfl rfl rfl, trivial⟩⟩⟩, ?_⟩
  refine d_e rfl rfl rfl ?_
  refine v_app_flat_off (H' := [_, _, _, _, _, _, _, _, _, _, _, _]) (a + 1) nce_sc nce_len lay62 lay101 rfl rfl (by first | rfl | (simp; done) | (simp; omega) | omega | (rw [bg_l (by omega)])) rfl rfl (by first | omega | (simp; omega)) rfl rfl (by unfold maxLen; simp only []; omega) rfl rfl ?_
  refine v_nil ⟨again_nil, ?_⟩
  refine d_q rfl rfl rfl rfl rfl ?_
  refine v_assign rfl ?_
  refine v_nil ?_
  refine d_nil ?_
  refine q_n ?_
  refine w_draw [0, 0, 0, 4, 12, 28, 60, 0, 128, 508, 1022, 0, 4094, 8191, 16383, 32767, 65535] [⟨0, 0, []⟩, ⟨2, 0, []⟩, ⟨3, 0, []⟩, ⟨4, 0, []⟩, ⟨5, 0, []⟩, ⟨6, 0, []⟩, ⟨7, 0, []⟩, ⟨8, 0, []⟩, ⟨9, 0, []⟩, ⟨11, 0, []⟩, ⟨1, 1, [6, 8, 9]⟩, ⟨10, 1, []⟩, ⟨12, 1, []⟩, ⟨13, 0, []⟩, ⟨14, 0, []⟩, ⟨15, 0, []⟩, ⟨16, 1, []⟩] rfl rfl ?_
  refine d_q rfl rfl rfl rfl rfl ?_
  refine v_move rfl ?_
  refine v_nil ?_
  refine d_q rfl rfl rfl rfl rfl ?_
  refine v_move rfl ?_
  refine v_nil ?_
  refine d_q rfl rfl rfl rfl rfl ?_
  refine v_nil_pt rfl ?_
  refine v_nil ?_
  refine d_q rfl rfl rfl rfl rfl ?_
  refine v_fa_pt (off' := 1) lay90 rfl rfl rfl ?_
  refine v_nil ?_
  refine d_q rfl rfl rfl rfl rfl ?_
  refine v_fa_pt (off' := 5) lay64 rfl rfl rfl ?_
  refine v_nil ?_
  refine d_q rfl rfl rfl rfl rfl ?_
  refine v_load_pt (.c _) lay62 rfl rfl rfl rfl ?_
  refine v_nil ?_
  refine d_q rfl rfl rfl rfl rfl ?_
  refine v_fa_pt (off' := 1) lay25 rfl rfl rfl ?_
  refine v_nil ?_
  refine d_q rfl rfl rfl rfl rfl ?_
  refine v_load_pt (.c _) lay2 rfl rfl rfl rfl ?_
  refine v_nil ?_
  refine d_q rfl rfl rfl rfl rfl ?_
  refine v_slice_mu (0) (a) lay62 lay101 rfl rfl rfl rfl (rfl) (ha) (by omega) (.inl rfl) ?_
  refine v_nil ?_
  refine d_q rfl rfl rfl rfl rfl ?_
  refine v_move rfl ?_
  refine v_nil ?_
  refine d_e rfl rfl rfl ?_
  refine v_lit (flat nce []) (H' := [_, _, _, _, _, _, _, _, _, _, _, _, _]) lay62 lay101 rfl rfl ⟨by decide, by decide⟩ rfl rfl ?_
  refine v_nil ⟨⟨ag_slice_mu (0) (a) lay62 lay101 rfl rfl rfl rfl (rfl) (ha) (by omega) (.inl rfl), ⟨ag_load_pt (.c _) lay2 rfl rfl rfl rfl, ⟨ag_load_pt (.c _) lay62 rfl rfl rfl rfl, trivial⟩⟩⟩, ?_⟩
  refine d_e rfl rfl rfl ?_
  refine v_app_flat_off (H' := [_, _, _, _, _, _, _, _, _, _, _, _, _, _]) (0) nce_sc nce_len lay62 lay101 rfl rfl (by first | rfl | (simp; done) | (simp; omega) | omega | (rw [bg_l (by omega)])) rfl rfl (by first | omega | (simp; omega)) rfl rfl (by unfold maxLen; simp only []; omega) rfl rfl ?_
  refine v_nil ⟨again_nil, ?_⟩
  refine d_e rfl rfl rfl ?_
  refine v_app_flat (H' := [_, _, _, _, _, _, _, _, _, _, _, _, _, _, _]) nce_sc nce_len lay62 lay101 rfl rfl (by first | rfl | (simp; done) | (simp; omega) | omega | (rw [bg_l (by omega)])) rfl rfl (by first | rfl | (simp; done)) rfl rfl (by unfold maxLen; simp only []; omega) rfl rfl ?_
  refine v_nil ⟨again_nil, ?_⟩
  refine d_q rfl rfl rfl rfl rfl ?_
  refine v_nil_pt rfl ?_
  refine v_nil ?_
  refine d_q rfl rfl rfl rfl rfl ?_
  refine v_fa_pt (off' := 1) lay90 rfl rfl rfl ?_
  refine v_nil ?_
  refine d_q rfl rfl rfl rfl rfl ?_
  refine v_fa_pt (off' := 5) lay64 rfl rfl rfl ?_
  refine v_nil ?_
  refine d_e rfl rfl rfl ?_
  refine v_store (H' := [_, ⟨[_, _, _, _, _, _], 90, true⟩, _, _, _, _, _, _, _, _, _, _, _, _, _]) lay62 rfl rfl rfl rfl rfl rfl ?_
  refine v_nil ⟨again_nil, ?_⟩
  refine d_nil ?_
  refine q_n ?_
  refine w_seq ?_
  refine w_seq ?_
  refine w_reg rfl ?_
  refine v_fa_pt (off' := 0) lay25 rfl rfl rfl ?_
  refine v_load_pt (.c _) lay2 rfl rfl rfl rfl ?_
  refine v_neq lay2 rfl rfl (fun h21 => ?_) (fun h21 => ?_)
  rotate_left
  · refine v_nil ?_
    refine q_n ?_
    refine w_f rfl ?_
    refine w_skip ?_
    refine q_n ?_
    refine w_seq ?_
    refine w_reg rfl ?_
    refine v_assign (c := .v (.int .i64 0)) rfl ?_
    refine v_nil ?_
    refine q_n ?_
    refine w_ret ?_
    refine r_r rfl ?_
    refine v_assign rfl ?_
    refine v_nil ?_
    refine q_n ?_
    refine w_ret (q_r ?_)
    refine r_r rfl ?_
    have hdo : doB p b d = ({ b with wr := b.wr.take a ++ b.wr.drop (a + 1) }, 0) := do_drop (by omega) ha k4
    exact g_ans (H1 := doH2 p ({ b with wr := b.wr.take a ++ b.wr.drop (a + 1) })) [some 0, some 1, some 2, some 3, some 4, some 5, some 6, some 14] rfl rfl rfl ⟨fun _ => ⟨_, rfl, .cons tr_v (.cons (.c (.dn .any)) .nil)⟩, fun _ => ⟨_, rfl, .cons (tr_pt rfl) (.cons (tr_mun rfl (by first | rfl | (simp; done) | (simp; omega) | (rw [bg_l (by omega)]))) (.cons (tr_mun rfl (by first | rfl | (simp; done) | (simp; omega) | (rw [bg_l (by omega)]))) (.cons (tr_mun rfl (by first | rfl | (simp; done) | (simp; omega) | (rw [bg_l (by omega)]))) (.cons (tr_mun rfl (by first | rfl | (simp; done) | (simp; omega) | (rw [bg_l (by omega)]))) (.cons (tr_mun rfl (by first | rfl | (simp; done) | (simp; omega) | (rw [bg_l (by omega)]))) .nil)))))⟩, fun _ => ⟨_, rfl, trc_flat pe_sc rfl⟩, fun _ => ⟨_, rfl, trc_flat pe_sc rfl⟩, fun _ => ⟨_, rfl, trc_flat pe_sc rfl⟩, fun _ => ⟨_, rfl, trc_flat int_sc rfl⟩, (fun h => nomatch h), fun _ => ⟨_, rfl, trc_flat nce_sc (congrArg (flat nce) (by exact wcut b.wr a))⟩, trivial⟩ tr_v (.inr ⟨_, hdo, rfl, rfl⟩)
  refine v_nil ?_
  refine q_n ?_
  refine w_t rfl ?_
  refine w_reg rfl ?_
  refine v_move rfl ?_
  refine v_load_pt (.agg [_, _, _, _]) lay101 rfl rfl rfl rfl ?_
  refine v_inl (n := 80) (drawD_ok X) (fun _ _ => Go.Proofs.Try.call105 _ _) Go.Proofs.Try.func105 rfl rfl rfl rfl ?_
  refine w_seq ?_
  refine w_reg rfl ?_
  refine v_box (m := 15) (H' := [_, _, _, _, _, _, _, _, _, _, _, _, _, _, _, _]) lay101 rfl rfl rfl ?_
  refine v_nil ?_
  refine q_n ?_
  refine w_seq ?_
  refine w_seq ?_
  refine w_reg rfl ?_
  refine v_fa_pt (off' := 0) lay101 rfl rfl rfl ?_
  refine v_load_ptb lay4 rfl rfl rfl rfl (fun h22 => ?_) (fun h22 => ?_)
  · refine v_nil ?_
    refine q_n ?_
    refine w_t rfl ?_
    refine w_seq ?_
    refine w_draw [0, 1, 3, 7, 15, 0, 32, 0, 128, 384, 896, 1920, 0, 4096, 16256, 32640, 0, 65536, 262016, 524287, 1048575] [⟨0, 0, []⟩, ⟨1, 0, []⟩, ⟨2, 0, []⟩, ⟨3, 0, []⟩, ⟨4, 0, []⟩, ⟨5, 0, []⟩, ⟨6, 0, []⟩, ⟨7, 0, []⟩, ⟨8, 0, []⟩, ⟨9, 0, []⟩, ⟨10, 0, []⟩, ⟨11, 0, []⟩, ⟨12, 0, []⟩, ⟨13, 0, []⟩, ⟨14, 0, []⟩, ⟨15, 0, []⟩, ⟨16, 0, []⟩, ⟨17, 0, []⟩, ⟨18, 0, []⟩, ⟨19, 0, []⟩, ⟨20, 1, []⟩] rfl rfl ?_
    refine d_q rfl rfl rfl rfl rfl ?_
    refine v_move rfl ?_
    refine v_nil ?_
    refine d_q rfl rfl rfl rfl rfl ?_
    refine v_nil_pt rfl ?_
    refine v_nil ?_
    refine d_q rfl rfl rfl rfl rfl ?_
    refine v_fa_pt (off' := 1) lay90 rfl rfl rfl ?_
    refine v_nil ?_
    refine d_q rfl rfl rfl rfl rfl ?_
    refine v_fa_pt (off' := 4) lay64 rfl rfl rfl ?_
    refine v_nil ?_
    refine d_q rfl rfl rfl rfl rfl ?_
    refine v_load_pt (.c _) lay28 rfl rfl rfl rfl ?_
    refine v_nil ?_
    refine d_q rfl rfl rfl rfl rfl ?_
    refine v_fa_pt (off' := 1) lay101 rfl rfl rfl ?_
    refine v_nil ?_
    refine d_q rfl rfl rfl rfl rfl ?_
    refine v_load_pt (.c _) lay2 rfl rfl rfl rfl ?_
    refine v_nil ?_
    refine d_q rfl rfl rfl rfl rfl ?_
    refine v_move rfl ?_
    refine v_nil ?_
    refine d_q rfl rfl rfl rfl rfl ?_
    refine v_nil_pt rfl ?_
    refine v_nil ?_
    refine d_q rfl rfl rfl rfl rfl ?_
    refine v_fa_pt (off' := 1) lay90 rfl rfl rfl ?_
    refine v_nil ?_
    refine d_q rfl rfl rfl rfl rfl ?_
    refine v_fa_pt (off' := 4) lay64 rfl rfl rfl ?_
    refine v_nil ?_
    refine d_q rfl rfl rfl rfl rfl ?_
    refine v_load_pt (.c _) lay28 rfl rfl rfl rfl ?_
    refine v_nil ?_
    refine d_q rfl rfl rfl rfl rfl ?_
    refine v_fa_pt (off' := 1) lay101 rfl rfl rfl ?_
    refine v_nil ?_
    refine d_q rfl rfl rfl rfl rfl ?_
    refine v_load_pt (.c _) lay2 rfl rfl rfl rfl ?_
    refine v_nil ?_
    refine d_q rfl rfl rfl rfl rfl ?_
    refine v_idx_mu_e (k := 1) (off := 0) (pn) lay28 lay2 rfl rfl rfl (hpn) (by omega) ?_
    refine v_nil ?_
    refine d_q rfl rfl rfl rfl rfl ?_
    refine v_load_flat pn 0 (.c (.v _)) int_len lay2 rfl rfl (by omega) (by first | omega | (simp; omega)) rfl rfl ?_
    refine v_nil ?_
    refine d_q rfl rfl rfl rfl rfl ?_
    refine v_fa_pt (off' := 3) lay101 rfl rfl rfl ?_
    refine v_nil ?_
    refine d_q rfl rfl rfl rfl rfl ?_
    refine v_load_pt (.c _) lay2 rfl rfl rfl rfl ?_
    refine v_nil ?_
    refine d_call (c98 _ _) rfl rfl rfl rfl rfl (.cons vw_v (.cons vw_v .nil)) ?_
    refine d_q rfl rfl rfl rfl rfl ?_
    refine v_idx_mu_e (k := 1) (off := 0) (pn) lay28 lay2 rfl rfl rfl (hpn) (by omega) ?_
    refine v_nil ?_
    refine d_e rfl rfl rfl ?_
    refine v_store_flat (H' := [_, _, _, _, _, _, _, _, _, _, _, _, _, _, _, _]) pn 0 (mx b.kn[pn] b.wr[a].2.2.2) int_len lay2 rfl rfl rfl (by omega) (by first | omega | (simp; omega)) rfl rfl (rfl) rfl ?_
    refine v_nil ⟨again_nil, ?_⟩
    refine d_nil ?_
    refine q_n ?_
    refine w_ret (q_r ?_)
    refine r_r rfl ?_
    refine v_nil ?_
    refine q_n ?_
    refine w_seq ?_
    refine w_reg rfl ?_
    refine v_assign (c := .v (.int .i64 0)) rfl ?_
    refine v_nil ?_
    refine q_n ?_
    refine w_ret ?_
    refine r_r rfl ?_
    refine v_assign rfl ?_
    refine v_nil ?_
    refine q_n ?_
    refine w_ret (q_r ?_)
    refine r_r rfl ?_
    have hdo : doB p b d = ({ b with kn := b.kn.set pn (mx b.kn[pn] b.wr[a].2.2.2), wr := b.wr.take a ++ b.wr.drop (a + 1) }, 0) := do_deliver (by omega) ha k4 (come_back (b := cutW b a) h22 hpn k5)
    exact g_ans (H1 := doH2 p ({ b with kn := b.kn.set pn (mx b.kn[pn] b.wr[a].2.2.2), wr := b.wr.take a ++ b.wr.drop (a + 1) })) [some 0, some 1, some 2, some 3, some 4, some 5, some 6, some 14] rfl rfl rfl ⟨fun _ => ⟨_, rfl, .cons tr_v (.cons (.c (.dn .any)) .nil)⟩, fun _ => ⟨_, rfl, .cons (tr_pt rfl) (.cons (tr_mun rfl (by first | rfl | (simp; done) | (simp; omega) | (rw [bg_l (by omega)]))) (.cons (tr_mun rfl (by first | rfl | (simp; done) | (simp; omega) | (rw [bg_l (by omega)]))) (.cons (tr_mun rfl (by first | rfl | (simp; done) | (simp; omega) | (rw [bg_l (by omega)]))) (.cons (tr_mun rfl (by first | rfl | (simp; done) | (simp; omega) | (rw [bg_l (by omega)]))) (.cons (tr_mun rfl (by first | rfl | (simp; done) | (simp; omega) | (rw [bg_l (by omega)]))) .nil)))))⟩, fun _ => ⟨_, rfl, trc_flat pe_sc rfl⟩, fun _ => ⟨_, rfl, trc_flat pe_sc rfl⟩, fun _ => ⟨_, rfl, trc_flat pe_sc rfl⟩, fun _ => ⟨_, rfl, trc_flat int_sc rfl⟩, (fun h => nomatch h), fun _ => ⟨_, rfl, trc_flat nce_sc (congrArg (flat nce) (by exact wcut b.wr a))⟩, trivial⟩ tr_v (.inr ⟨_, hdo, rfl, rfl⟩)
  refine v_nil ?_
  refine q_n ?_
  refine w_f rfl ?_
  refine w_skip ?_
  refine q_n ?_
  refine w_seq ?_
  refine w_seq ?_
  refine w_draw [0, 1, 0, 4, 12, 28, 60, 0, 128, 508, 1020, 2044, 4095] [⟨0, 0, []⟩, ⟨1, 0, []⟩, ⟨2, 0, []⟩, ⟨3, 0, []⟩, ⟨4, 0, []⟩, ⟨5, 0, []⟩, ⟨6, 0, []⟩, ⟨7, 0, []⟩, ⟨8, 0, []⟩, ⟨9, 0, []⟩, ⟨10, 0, []⟩, ⟨11, 0, []⟩, ⟨12, 0, []⟩] rfl rfl ?_
  refine d_q rfl rfl rfl rfl rfl ?_
  refine v_fa_pt (off' := 3) lay101 rfl rfl rfl ?_
  refine v_nil ?_
  refine d_q rfl rfl rfl rfl rfl ?_
  refine v_load_pt (.c _) lay2 rfl rfl rfl rfl ?_
  refine v_nil ?_
  refine d_q rfl rfl rfl rfl rfl ?_
  refine v_move rfl ?_
  refine v_nil ?_
  refine d_q rfl rfl rfl rfl rfl ?_
  refine v_nil_pt rfl ?_
  refine v_nil ?_
  refine d_q rfl rfl rfl rfl rfl ?_
  refine v_fa_pt (off' := 1) lay90 rfl rfl rfl ?_
  refine v_nil ?_
  refine d_q rfl rfl rfl rfl rfl ?_
  refine v_fa_pt (off' := 2) lay64 rfl rfl rfl ?_
  refine v_nil ?_
  refine d_q rfl rfl rfl rfl rfl ?_
  refine v_load_pt (.c _) lay61 rfl rfl rfl rfl ?_
  refine v_nil ?_
  refine d_q rfl rfl rfl rfl rfl ?_
  refine v_fa_pt (off' := 1) lay101 rfl rfl rfl ?_
  refine v_nil ?_
  refine d_q rfl rfl rfl rfl rfl ?_
  refine v_load_pt (.c _) lay2 rfl rfl rfl rfl ?_
  refine v_nil ?_
  refine d_q rfl rfl rfl rfl rfl ?_
  refine v_idx_mu_e (k := 2) (off := 0) (pn) lay61 lay46 rfl rfl rfl (hpn) (by omega) ?_
  refine v_nil ?_
  refine d_q rfl rfl rfl rfl rfl ?_
  refine v_fa_pt (off' := _) lay46 rfl rfl rfl ?_
  refine v_nil ?_
  refine d_q rfl rfl rfl rfl rfl ?_
  refine v_load_flat pn 1 (.c (.v _)) pe_len lay2 rfl rfl (by omega) (by first | omega | (simp; omega)) rfl rfl ?_
  refine v_nil ?_
  refine d_q rfl rfl rfl rfl rfl ?_
  refine v_gtr lay2 rfl rfl (fun h26 => ?_) (fun h26 => ?_)
  rotate_left
  · refine v_nil ?_
    refine d_nil ?_
    refine q_n ?_
    refine w_f rfl ?_
    refine w_skip ?_
    refine q_n ?_
    refine w_seq ?_
    refine w_draw [0, 1, 3, 7, 15, 0, 32, 127, 255, 0, 1023] [⟨0, 0, []⟩, ⟨1, 0, []⟩, ⟨2, 0, []⟩, ⟨3, 0, []⟩, ⟨4, 0, []⟩, ⟨5, 0, []⟩, ⟨6, 0, []⟩, ⟨7, 0, []⟩, ⟨8, 0, []⟩, ⟨9, 1, [4, 6, 8]⟩, ⟨10, 1, []⟩] rfl rfl ?_
    refine d_q rfl rfl rfl rfl rfl ?_
    refine v_move rfl ?_
    refine v_nil ?_
    refine d_q rfl rfl rfl rfl rfl ?_
    refine v_nil_pt rfl ?_
    refine v_nil ?_
    refine d_q rfl rfl rfl rfl rfl ?_
    refine v_fa_pt (off' := 1) lay90 rfl rfl rfl ?_
    refine v_nil ?_
    refine d_q rfl rfl rfl rfl rfl ?_
    refine v_fa_pt (off' := 2) lay64 rfl rfl rfl ?_
    refine v_nil ?_
    refine d_q rfl rfl rfl rfl rfl ?_
    refine v_load_pt (.c _) lay61 rfl rfl rfl rfl ?_
    refine v_nil ?_
    refine d_q rfl rfl rfl rfl rfl ?_
    refine v_fa_pt (off' := 1) lay101 rfl rfl rfl ?_
    refine v_nil ?_
    refine d_q rfl rfl rfl rfl rfl ?_
    refine v_load_pt (.c _) lay2 rfl rfl rfl rfl ?_
    refine v_nil ?_
    refine d_q rfl rfl rfl rfl rfl ?_
    refine v_idx_mu_e (k := 2) (off := 0) (pn) lay61 lay46 rfl rfl rfl (hpn) (by omega) ?_
    refine v_nil ?_
    refine d_q rfl rfl rfl rfl rfl ?_
    refine v_load_flat pn 0 (.agg [.v _, .v _]) pe_len lay46 rfl rfl (by omega) (by first | omega | (simp; omega)) rfl rfl ?_
    refine v_nil ?_
    refine d_e rfl rfl rfl ?_
    refine v_alloc (m := 16) (H' := [_, _, _, _, _, _, _, _, _, _, _, _, _, _, _, _, ⟨[.v _, .v _], 46, true⟩]) lay46 rfl rfl ?_
    refine v_nil ⟨⟨ag_load_flat pn 0 (.agg [.v _, .v _]) pe_len lay46 rfl rfl (by omega) (by first | omega | (simp; omega)) rfl rfl, ⟨ag_load_pt (.c _) lay2 rfl rfl rfl rfl, ⟨ag_load_pt (.c _) lay61 rfl rfl rfl rfl, trivial⟩⟩⟩, ?_⟩
    refine d_e rfl rfl rfl ?_
    refine v_store (H' := [_, _, _, _, _, _, _, _, _, _, _, _, _, _, _, _, ⟨[_, _], 46, true⟩]) lay46 rfl rfl rfl rfl rfl rfl ?_
    refine v_nil ⟨again_nil, ?_⟩
    refine d_nil ?_
    refine q_n ?_
    refine w_draw [0, 0, 2, 6, 14, 30, 0, 64, 0, 256, 0, 1024, 4032, 8128, 16382, 32767, 65535, 131071, 262143] [⟨0, 0, []⟩, ⟨1, 0, []⟩, ⟨2, 0, []⟩, ⟨3, 0, []⟩, ⟨4, 0, []⟩, ⟨5, 0, []⟩, ⟨6, 0, []⟩, ⟨7, 0, []⟩, ⟨8, 0, []⟩, ⟨9, 0, []⟩, ⟨10, 0, []⟩, ⟨11, 0, []⟩, ⟨12, 0, []⟩, ⟨13, 2, []⟩, ⟨14, 1, []⟩, ⟨15, 0, []⟩, ⟨16, 0, []⟩, ⟨17, 0, []⟩, ⟨18, 1, []⟩] rfl rfl ?_
    refine d_q rfl rfl rfl rfl rfl ?_
    refine v_move rfl ?_
    refine v_nil ?_
    refine d_q rfl rfl rfl rfl rfl ?_
    refine v_move rfl ?_
    refine v_nil ?_
    refine d_q rfl rfl rfl rfl rfl ?_
    refine v_nil_pt rfl ?_
    refine v_nil ?_
    refine d_q rfl rfl rfl rfl rfl ?_
    refine v_fa_pt (off' := 1) lay90 rfl rfl rfl ?_
    refine v_nil ?_
    refine d_q rfl rfl rfl rfl rfl ?_
    refine v_fa_pt (off' := 5) lay64 rfl rfl rfl ?_
    refine v_nil ?_
    refine d_q rfl rfl rfl rfl rfl ?_
    refine v_load_pt (.c _) lay62 rfl rfl rfl rfl ?_
    refine v_nil ?_
    refine d_q rfl rfl rfl rfl rfl ?_
    refine v_fa_pt (off' := 1) lay101 rfl rfl rfl ?_
    refine v_nil ?_
    refine d_q rfl rfl rfl rfl rfl ?_
    refine v_load_pt (.c _) lay2 rfl rfl rfl rfl ?_
    refine v_nil ?_
    refine d_q rfl rfl rfl rfl rfl ?_
    refine v_fa_pt (off' := 0) lay46 rfl rfl rfl ?_
    refine v_nil ?_
    refine d_q rfl rfl rfl rfl rfl ?_
    refine v_load_pt (.c _) lay2 rfl rfl rfl rfl ?_
    refine v_nil ?_
    refine d_q rfl rfl rfl rfl rfl ?_
    refine v_fa_pt (off' := 1) lay46 rfl rfl rfl ?_
    refine v_nil ?_
    refine d_q rfl rfl rfl rfl rfl ?_
    refine v_load_pt (.c _) lay2 rfl rfl rfl rfl ?_
    refine v_nil ?_
    refine d_q rfl rfl rfl rfl rfl ?_
    refine v_build [(0, 1), (1, 1), (2, 1), (3, 1)] [.v _, .v _, .v _, .v _] lay101 rfl rfl ?_
    refine v_nil ?_
    refine d_z (.c (.sl true 1 4 (flat nce [(true, b.wr[a].2.1, b.ps[pn].1, b.ps[pn].2)]))) rfl rfl rfl ?_
    refine d_e rfl rfl rfl ?_
    refine v_app_flat_sl (H' := [_, _, _, _, _, _, _, _, _, _, _, _, _, _, _, _, _, _]) nce_sc nce_len lay62 lay101 rfl rfl (by first | rfl | (simp; done) | (simp; omega) | omega | (rw [bg_l (by omega)])) rfl rfl rfl (by unfold maxLen; simp only []; omega) rfl rfl ?_
    refine v_nil ⟨again_nil, ?_⟩
    refine d_q rfl rfl rfl rfl rfl ?_
    refine v_nil_pt rfl ?_
    refine v_nil ?_
    refine d_q rfl rfl rfl rfl rfl ?_
    refine v_fa_pt (off' := 1) lay90 rfl rfl rfl ?_
    refine v_nil ?_
    refine d_q rfl rfl rfl rfl rfl ?_
    refine v_fa_pt (off' := 5) lay64 rfl rfl rfl ?_
    refine v_nil ?_
    refine d_e rfl rfl rfl ?_
    refine v_store (H' := [_, ⟨[_, _, _, _, _, _], 90, true⟩, _, _, _, _, _, _, _, _, _, _, _, _, _, _, _, _]) lay62 rfl rfl rfl rfl rfl rfl ?_
    refine v_nil ⟨again_nil, ?_⟩
    refine d_nil ?_
    refine r_n rfl ?_
    refine v_nil ?_
    refine q_n ?_
    refine w_seq ?_
    refine w_reg rfl ?_
    refine v_assign (c := .v (.int .i64 0)) rfl ?_
    refine v_nil ?_
    refine q_n ?_
    refine w_ret ?_
    refine r_r rfl ?_
    refine v_assign rfl ?_
    refine v_nil ?_
    refine q_n ?_
    refine w_ret (q_r ?_)
    refine r_r rfl ?_
    have hdo : doB p b d = ({ b with wr := (b.wr.take a ++ b.wr.drop (a + 1)) ++ [(true, b.wr[a].2.1, b.ps[pn].1, b.ps[pn].2)] }, 0) := do_deliver (by omega) ha k4 (come_old (b := cutW b a) h22 hpn k6 h26)
    exact g_ans (H1 := doH2 p ({ b with wr := (b.wr.take a ++ b.wr.drop (a + 1)) ++ [(true, b.wr[a].2.1, b.ps[pn].1, b.ps[pn].2)] })) [some 0, some 1, some 2, some 3, some 4, some 5, some 6, some 17] rfl rfl rfl ⟨fun _ => ⟨_, rfl, .cons tr_v (.cons (.c (.dn .any)) .nil)⟩, fun _ => ⟨_, rfl, .cons (tr_pt rfl) (.cons (tr_mun rfl (by first | rfl | (simp; done) | (simp; omega) | (rw [bg_l (by omega)]))) (.cons (tr_mun rfl (by first | rfl | (simp; done) | (simp; omega) | (rw [bg_l (by omega)]))) (.cons (tr_mun rfl (by first | rfl | (simp; done) | (simp; omega) | (rw [bg_l (by omega)]))) (.cons (tr_mun rfl (by first | rfl | (simp; done) | (simp; omega) | (rw [bg_l (by omega)]))) (.cons (tr_mun rfl (by first | rfl | (simp; done) | (simp; omega) | (rw [bg_l (by omega)]))) .nil)))))⟩, fun _ => ⟨_, rfl, trc_flat pe_sc rfl⟩, fun _ => ⟨_, rfl, trc_flat pe_sc rfl⟩, fun _ => ⟨_, rfl, trc_flat pe_sc rfl⟩, fun _ => ⟨_, rfl, trc_flat int_sc rfl⟩, (fun h => nomatch h), fun _ => ⟨_, rfl, trc_flat nce_sc (congrArg (flat nce) (by rw [wcut b.wr a]))⟩, trivial⟩ tr_v (.inr ⟨_, hdo, rfl, rfl⟩)
  refine v_nil ?_
  refine d_nil ?_
  refine q_n ?_
  refine w_t rfl ?_
  refine w_draw [0, 1, 3, 7, 15, 0, 32, 0, 128, 0, 512, 1920, 4095, 8191] [⟨0, 0, []⟩, ⟨1, 0, []⟩, ⟨2, 0, []⟩, ⟨3, 0, []⟩, ⟨4, 0, []⟩, ⟨5, 0, []⟩, ⟨6, 0, []⟩, ⟨7, 0, []⟩, ⟨8, 0, []⟩, ⟨9, 0, []⟩, ⟨10, 0, []⟩, ⟨11, 0, []⟩, ⟨12, 0, []⟩, ⟨13, 1, []⟩] rfl rfl ?_
  refine d_q rfl rfl rfl rfl rfl ?_
  refine v_move rfl ?_
  refine v_nil ?_
  refine d_q rfl rfl rfl rfl rfl ?_
  refine v_nil_pt rfl ?_
  refine v_nil ?_
  refine d_q rfl rfl rfl rfl rfl ?_
  refine v_fa_pt (off' := 1) lay90 rfl rfl rfl ?_
  refine v_nil ?_
  refine d_q rfl rfl rfl rfl rfl ?_
  refine v_fa_pt (off' := 2) lay64 rfl rfl rfl ?_
  refine v_nil ?_
  refine d_q rfl rfl rfl rfl rfl ?_
  refine v_load_pt (.c _) lay61 rfl rfl rfl rfl ?_
  refine v_nil ?_
  refine d_q rfl rfl rfl rfl rfl ?_
  refine v_fa_pt (off' := 1) lay101 rfl rfl rfl ?_
  refine v_nil ?_
  refine d_q rfl rfl rfl rfl rfl ?_
  refine v_load_pt (.c _) lay2 rfl rfl rfl rfl ?_
  refine v_nil ?_
  refine d_q rfl rfl rfl rfl rfl ?_
  refine v_fa_pt (off' := 2) lay101 rfl rfl rfl ?_
  refine v_nil ?_
  refine d_q rfl rfl rfl rfl rfl ?_
  refine v_load_pt (.c _) lay2 rfl rfl rfl rfl ?_
  refine v_nil ?_
  refine d_q rfl rfl rfl rfl rfl ?_
  refine v_fa_pt (off' := 3) lay101 rfl rfl rfl ?_
  refine v_nil ?_
  refine d_q rfl rfl rfl rfl rfl ?_
  refine v_load_pt (.c _) lay2 rfl rfl rfl rfl ?_
  refine v_nil ?_
  refine d_q rfl rfl rfl rfl rfl ?_
  refine v_build [(0, 1), (1, 1)] [.v _, .v _] lay46 rfl rfl ?_
  refine v_nil ?_
  refine d_q rfl rfl rfl rfl rfl ?_
  refine v_idx_mu_e (k := 2) (off := 0) (pn) lay61 lay46 rfl rfl rfl (hpn) (by omega) ?_
  refine v_nil ?_
  refine d_e rfl rfl rfl ?_
  refine v_store_flat (H' := [_, _, _, _, _, _, _, _, _, _, _, _, _, _, _, _]) pn 0 ((b.wr[a].2.2.1, b.wr[a].2.2.2)) pe_len lay46 rfl rfl rfl (by omega) (by first | omega | (simp; omega)) rfl rfl (rfl) rfl ?_
  refine v_nil ⟨again_nil, ?_⟩
  refine d_nil ?_
  refine q_n ?_
  refine w_seq ?_
  refine w_draw [0, 1, 3, 7, 15, 0, 32, 127, 255, 0, 1023] [⟨0, 0, []⟩, ⟨1, 0, []⟩, ⟨2, 0, []⟩, ⟨3, 0, []⟩, ⟨4, 0, []⟩, ⟨5, 0, []⟩, ⟨6, 0, []⟩, ⟨7, 0, []⟩, ⟨8, 0, []⟩, ⟨9, 1, [4, 6, 8]⟩, ⟨10, 1, []⟩] rfl rfl ?_
  refine d_q rfl rfl rfl rfl rfl ?_
  refine v_move rfl ?_
  refine v_nil ?_
  refine d_q rfl rfl rfl rfl rfl ?_
  refine v_nil_pt rfl ?_
  refine v_nil ?_
  refine d_q rfl rfl rfl rfl rfl ?_
  refine v_fa_pt (off' := 1) lay90 rfl rfl rfl ?_
  refine v_nil ?_
  refine d_q rfl rfl rfl rfl rfl ?_
  refine v_fa_pt (off' := 2) lay64 rfl rfl rfl ?_
  refine v_nil ?_
  refine d_q rfl rfl rfl rfl rfl ?_
  refine v_load_pt (.c _) lay61 rfl rfl rfl rfl ?_
  refine v_nil ?_
  refine d_q rfl rfl rfl rfl rfl ?_
  refine v_fa_pt (off' := 1) lay101 rfl rfl rfl ?_
  refine v_nil ?_
  refine d_q rfl rfl rfl rfl rfl ?_
  refine v_load_pt (.c _) lay2 rfl rfl rfl rfl ?_
  refine v_nil ?_
  refine d_q rfl rfl rfl rfl rfl ?_
  refine v_idx_mu_e (k := 2) (off := 0) (pn) lay61 lay46 rfl rfl rfl (hpn) (by omega) ?_
  refine v_nil ?_
  refine d_q rfl rfl rfl rfl rfl ?_
  refine v_load_flat pn 0 (.agg [.v _, .v _]) pe_len lay46 rfl rfl (by omega) (by first | omega | (simp; omega)) rfl rfl ?_
  refine v_nil ?_
  refine d_e rfl rfl rfl ?_
  refine v_alloc (m := 16) (H' := [_, _, _, _, _, _, _, _, _, _, _, _, _, _, _, _, ⟨[.v _, .v _], 46, true⟩]) lay46 rfl rfl ?_
  refine v_nil ⟨⟨ag_load_flat pn 0 (.agg [.v _, .v _]) pe_len lay46 rfl rfl (by omega) (by first | omega | (simp; omega)) rfl rfl, ⟨ag_load_pt (.c _) lay2 rfl rfl rfl rfl, ⟨ag_load_pt (.c _) lay61 rfl rfl rfl rfl, trivial⟩⟩⟩, ?_⟩
  refine d_e rfl rfl rfl ?_
  refine v_store (H' := [_, _, _, _, _, _, _, _, _, _, _, _, _, _, _, _, ⟨[_, _], 46, true⟩]) lay46 rfl rfl rfl rfl rfl rfl ?_
  refine v_nil ⟨again_nil, ?_⟩
  refine d_nil ?_
  refine q_n ?_
  refine w_draw [0, 0, 2, 6, 14, 30, 0, 64, 0, 256, 0, 1024, 4032, 8128, 16382, 32767, 65535, 131071, 262143] [⟨0, 0, []⟩, ⟨1, 0, []⟩, ⟨2, 0, []⟩, ⟨3, 0, []⟩, ⟨4, 0, []⟩, ⟨5, 0, []⟩, ⟨6, 0, []⟩, ⟨7, 0, []⟩, ⟨8, 0, []⟩, ⟨9, 0, []⟩, ⟨10, 0, []⟩, ⟨11, 0, []⟩, ⟨12, 0, []⟩, ⟨13, 2, []⟩, ⟨14, 1, []⟩, ⟨15, 0, []⟩, ⟨16, 0, []⟩, ⟨17, 0, []⟩, ⟨18, 1, []⟩] rfl rfl ?_
  refine d_q rfl rfl rfl rfl rfl ?_
  refine v_move rfl ?_
  refine v_nil ?_
  refine d_q rfl rfl rfl rfl rfl ?_
  refine v_move rfl ?_
  refine v_nil ?_
  refine d_q rfl rfl rfl rfl rfl ?_
  refine v_nil_pt rfl ?_
  refine v_nil ?_
  refine d_q rfl rfl rfl rfl rfl ?_
  refine v_fa_pt (off' := 1) lay90 rfl rfl rfl ?_
  refine v_nil ?_
  refine d_q rfl rfl rfl rfl rfl ?_
  refine v_fa_pt (off' := 5) lay64 rfl rfl rfl ?_
  refine v_nil ?_
  refine d_q rfl rfl rfl rfl rfl ?_
  refine v_load_pt (.c _) lay62 rfl rfl rfl rfl ?_
  refine v_nil ?_
  refine d_q rfl rfl rfl rfl rfl ?_
  refine v_fa_pt (off' := 1) lay101 rfl rfl rfl ?_
  refine v_nil ?_
  refine d_q rfl rfl rfl rfl rfl ?_
  refine v_load_pt (.c _) lay2 rfl rfl rfl rfl ?_
  refine v_nil ?_
  refine d_q rfl rfl rfl rfl rfl ?_
  refine v_fa_pt (off' := 0) lay46 rfl rfl rfl ?_
  refine v_nil ?_
  refine d_q rfl rfl rfl rfl rfl ?_
  refine v_load_pt (.c _) lay2 rfl rfl rfl rfl ?_
  refine v_nil ?_
  refine d_q rfl rfl rfl rfl rfl ?_
  refine v_fa_pt (off' := 1) lay46 rfl rfl rfl ?_
  refine v_nil ?_
  refine d_q rfl rfl rfl rfl rfl ?_
  refine v_load_pt (.c _) lay2 rfl rfl rfl rfl ?_
  refine v_nil ?_
  refine d_q rfl rfl rfl rfl rfl ?_
  refine v_build [(0, 1), (1, 1), (2, 1), (3, 1)] [.v _, .v _, .v _, .v _] lay101 rfl rfl ?_
  refine v_nil ?_
  refine d_z (.c (.sl true 1 4 (flat nce [(true, b.wr[a].2.1, ((b.ps.set pn (b.wr[a].2.2.1, b.wr[a].2.2.2))[pn]'(by simpa using k6)).1, ((b.ps.set pn (b.wr[a].2.2.1, b.wr[a].2.2.2))[pn]'(by simpa using k6)).2)]))) rfl rfl rfl ?_
  refine d_e rfl rfl rfl ?_
  refine v_app_flat_sl (H' := [_, _, _, _, _, _, _, _, _, _, _, _, _, _, _, _, _, _]) nce_sc nce_len lay62 lay101 rfl rfl (by first | rfl | (simp; done) | (simp; omega) | omega | (rw [bg_l (by omega)])) rfl rfl rfl (by unfold maxLen; simp only []; omega) rfl rfl ?_
  refine v_nil ⟨again_nil, ?_⟩
  refine d_q rfl rfl rfl rfl rfl ?_
  refine v_nil_pt rfl ?_
  refine v_nil ?_
  refine d_q rfl rfl rfl rfl rfl ?_
  refine v_fa_pt (off' := 1) lay90 rfl rfl rfl ?_
  refine v_nil ?_
  refine d_q rfl rfl rfl rfl rfl ?_
  refine v_fa_pt (off' := 5) lay64 rfl rfl rfl ?_
  refine v_nil ?_
  refine d_e rfl rfl rfl ?_
  refine v_store (H' := [_, ⟨[_, _, _, _, _, _], 90, true⟩, _, _, _, _, _, _, _, _, _, _, _, _, _, _, _, _]) lay62 rfl rfl rfl rfl rfl rfl ?_
  refine v_nil ⟨again_nil, ?_⟩
  refine d_nil ?_
  refine r_n rfl ?_
  refine v_nil ?_
  refine q_n ?_
  refine w_seq ?_
  refine w_reg rfl ?_
  refine v_assign (c := .v (.int .i64 0)) rfl ?_
  refine v_nil ?_
  refine q_n ?_
  refine w_ret ?_
  refine r_r rfl ?_
  refine v_assign rfl ?_
  refine v_nil ?_
  refine q_n ?_
  refine w_ret (q_r ?_)
  refine r_r rfl ?_
  have hdo : doB p b d = ({ b with ps := b.ps.set pn (b.wr[a].2.2.1, b.wr[a].2.2.2), wr := (b.wr.take a ++ b.wr.drop (a + 1)) ++ [(true, b.wr[a].2.1, b.wr[a].2.2.1, b.wr[a].2.2.2)] }, 0) := do_deliver (by omega) ha k4 (come_new (b := cutW b a) h22 hpn k6 h26)
  exact g_ans (H1 := doH2 p ({ b with ps := b.ps.set pn (b.wr[a].2.2.1, b.wr[a].2.2.2), wr := (b.wr.take a ++ b.wr.drop (a + 1)) ++ [(true, b.wr[a].2.1, b.wr[a].2.2.1, b.wr[a].2.2.2)] })) [some 0, some 1, some 2, some 3, some 4, some 5, some 6, some 17] rfl rfl rfl ⟨fun _ => ⟨_, rfl, .cons tr_v (.cons (.c (.dn .any)) .nil)⟩, fun _ => ⟨_, rfl, .cons (tr_pt rfl) (.cons (tr_mun rfl (by first | rfl | (simp; done) | (simp; omega) | (rw [bg_l (by omega)]))) (.cons (tr_mun rfl (by first | rfl | (simp; done) | (simp; omega) | (rw [bg_l (by omega)]))) (.cons (tr_mun rfl (by first | rfl | (simp; done) | (simp; omega) | (rw [bg_l (by omega)]))) (.cons (tr_mun rfl (by first | rfl | (simp; done) | (simp; omega) | (rw [bg_l (by omega)]))) (.cons (tr_mun rfl (by first | rfl | (simp; done) | (simp; omega) | (rw [bg_l (by omega)]))) .nil)))))⟩, fun _ => ⟨_, rfl, trc_flat pe_sc rfl⟩, fun _ => ⟨_, rfl, trc_flat pe_sc rfl⟩, fun _ => ⟨_, rfl, trc_flat pe_sc rfl⟩, fun _ => ⟨_, rfl, trc_flat int_sc rfl⟩, (fun h => nomatch h), fun _ => ⟨_, rfl, trc_flat nce_sc (congrArg (flat nce) (by simp only [List.getElem_set_self]; rw [wcut b.wr a]))⟩, trivial⟩ tr_v (.inr ⟨_, hdo, rfl, rfl⟩)
end Go.VL
namespace Go.VL
open Go.RowKit
set_option maxRecDepth 20000
set_option maxHeartbeats 8000000
theorem l14_rng : ∀ x ∈ ([1, 1, 1, 2, 2, 2, 3, 3, 3, 3, 4, 5, 6, 7] : List Int), 1 ≤ x ∧ x ≤ 7 := by decide
theorem dsc_of {d e : De} (_h : d = e) : ∀ c ∈ dce d, sc c = true := fun c hc => List.all_eq_true.1 (dce_sc d) c hc
theorem gall {o : Ob} (h : ∀ c ∈ o.cs, sc c = true) : ∀ c ∈ o.cs, gC c = true := fun c hc => gC_sc (h c hc)
theorem gdo1 (p : Int) (x : Bd × Int) : gV (cI x.2) = true ∧ (∀ o ∈ doH p x.1, o.live = true → ∀ c ∈ o.cs, gC c = true) ∧ 7 ≤ (doH p x.1).length := ⟨rfl, fun o ho _ => by
  simp only [doH, List.mem_cons, List.not_mem_nil, or_false] at ho
  rcases ho with rfl | rfl | rfl | rfl | rfl | rfl | rfl
  · intro c hc; simp at hc; rcases hc with rfl | rfl <;> rfl
  · intro c hc; simp at hc; rcases hc with rfl | rfl | rfl | rfl | rfl | rfl <;> rfl
  · exact gall (sc_flat pe_sc _)
  · exact gall (sc_flat pe_sc _)
  · exact gall (sc_flat pe_sc _)
  · exact gall (sc_flat int_sc _)
  · exact gall (sc_flat nce_sc _), Nat.le_refl _⟩
theorem gdo2 (p : Int) (x : Bd × Int) : gV (cI x.2) = true ∧ (∀ o ∈ doH2 p x.1, o.live = true → ∀ c ∈ o.cs, gC c = true) ∧ 7 ≤ (doH2 p x.1).length := ⟨rfl, fun o ho hl => by
  simp only [doH2, List.mem_cons, List.not_mem_nil, or_false] at ho
  rcases ho with rfl | rfl | rfl | rfl | rfl | rfl | rfl | rfl
  · intro c hc; simp at hc; rcases hc with rfl | rfl <;> rfl
  · intro c hc; simp at hc; rcases hc with rfl | rfl | rfl | rfl | rfl | rfl <;> rfl
  · exact gall (sc_flat pe_sc _)
  · exact gall (sc_flat pe_sc _)
  · exact gall (sc_flat pe_sc _)
  · exact gall (sc_flat int_sc _)
  · cases hl
  · exact gall (sc_flat nce_sc _), Nat.le_of_ble_eq_true rfl⟩
theorem c47 (code : List Int) (p : Int) (fs : List Int) (hc : ∀ b ∈ code, 0 ≤ b ∧ b ≤ 255) (hl : code.length ≤ 3000) (hco : okC p fs) : PureE X 47 [.c (.sl false code.length 1 (flat byt code)), .agg (cen false p fs)] (fun r => ∃ ds : List De, (∀ d ∈ ds, dOk d) ∧ ds.length ≤ 28 ∧ r = .c (dcs true ds)) := by
  refine PureE.of_body (drawD_ok X) (fun _ _ => Go.Proofs.Try.call47 _ _) Go.Proofs.Try.func47 rfl (n := 8) rfl ?_
  obtain ⟨hp1, hp9, hf1, hf6, hfr⟩ := hco
  refine w_seq ?_
  refine w_reg rfl ?_
  refine v_box (m := 0) (H' := [_]) lay33 rfl rfl rfl ?_
  refine v_assign rfl ?_
  refine v_nil ?_
  refine q_n ?_
  refine w_seq ?_
  refine w_reg rfl ?_
  refine v_move rfl ?_
  refine v_inl (n := 6) (drawD_ok X) (fun _ _ => Go.Proofs.Try.call79 _ _) Go.Proofs.Try.func79 rfl rfl rfl rfl ?_
  refine w_seq ?_
  refine w_reg rfl ?_
  refine v_assign (c := .v _) rfl ?_
  refine v_nil ?_
  refine q_n ?_
  refine w_seq ?_
  refine w_reg rfl ?_
  refine v_move rfl ?_
  refine v_build [(0, 1), (1, 1), (2, 1)] [_, .v _, .v _] lay124 rfl rfl ?_
  refine v_box (m := 1) (H' := [_, _]) lay124 rfl rfl rfl ?_
  refine v_assign rfl ?_
  refine v_nil ?_
  refine q_n ?_
  refine w_ret ?_
  refine r_r rfl ?_
  refine v_inl (n := 68) (drawD_ok X) (fun _ _ => Go.Proofs.Try.call80 _ _) Go.Proofs.Try.func80 rfl rfl rfl rfl ?_
  refine w_seq ?_
  refine w_reg rfl ?_
  refine v_assign rfl ?_
  refine v_nil ?_
  refine q_n ?_
  refine w_seq ?_
  refine w_reg rfl ?_
  refine v_lit (flat dce []) (H' := [_, _, _]) lay41 lay25 rfl rfl ⟨by decide, by decide⟩ rfl rfl ?_
  refine v_assign rfl ?_
  refine v_nil ?_
  refine q_n ?_
  refine w_seq ?_
  refine w_reg rfl ?_
  refine v_move rfl ?_
  refine v_inl (n := 74) (drawD_ok X) (fun _ _ => Go.Proofs.Try.call83 _ _) Go.Proofs.Try.func83 rfl rfl rfl rfl ?_
  refine w_seq ?_
  refine w_reg rfl ?_
  refine v_assign (c := .v _) rfl ?_
  refine v_nil ?_
  refine q_n ?_
  refine w_seq ?_
  refine w_reg rfl ?_
  refine v_move rfl ?_
  refine v_build [(0, 1), (1, 5)] [_, .v _, .v _, .v _, .v _, .v _] lay90 rfl rfl ?_
  refine v_box (m := 3) (H' := [_, _, _, _]) lay90 rfl rfl rfl ?_
  refine v_assign rfl ?_
  refine v_nil ?_
  refine q_n ?_
  refine w_seq ?_
  refine w_seq ?_
  refine w_reg rfl ?_
  refine v_assign (c := .v (.int .i64 0)) rfl ?_
  refine v_nil ?_
  refine q_n ?_
  refine w_block ?_
  refine w_loop (fun k sl H => ∃ i : Nat, k = fs.length - i ∧ i ≤ fs.length ∧ sl = sls [(0, .c (.pt 0 0)), (3, .c (.pt 3 0)), (4, cI i)] ∧ H = [⟨cen false p fs, 33, true⟩, srcO code 0 0, ⟨[], 25, true⟩, ⟨[.pt 0 0, .mu 4 0 i 2, .mu 5 0 i 2, .mu 6 0 i 2, .mu 7 0 i 1, .mu 8 0 0 4], 90, true⟩, ⟨flat pe (bg fs i), 46, true⟩, ⟨flat pe (bg fs i), 46, true⟩, ⟨flat pe (bg fs i), 46, true⟩, ⟨flat int (List.replicate i 0), 2, true⟩, ⟨[], 101, true⟩]) ?_ ?_
  · refine ⟨_, _, _, ?_, 0, rfl, Nat.zero_le _, rfl, rfl⟩
    exact turn [some 0, some 1, some 2, some 3, none, none, none, none, none] rfl rfl rfl ⟨⟨_, rfl, .cons tr_v (.cons tr_sl .nil)⟩, ⟨_, rfl, .cons tr_sl (.cons tr_v (.cons tr_v .nil))⟩, ⟨_, rfl, .nil⟩, ⟨_, rfl, .cons (tr_pt rfl) (.cons (tr_nil rfl) (.cons (tr_nil rfl) (.cons (tr_nil rfl) (.cons (tr_nil rfl) (.cons (tr_nil rfl) .nil)))))⟩, rfl, rfl, rfl, rfl, rfl, trivial⟩ ⟨tr_pt rfl, tr_pt rfl, tr_v, trivial⟩
  rintro k sl H ⟨i, rfl, hi, rfl, rfl⟩
  refine w_seq ?_
  refine w_seq ?_
  refine w_reg rfl ?_
  refine v_move rfl ?_
  refine v_move rfl ?_
  refine v_nil_pt rfl ?_
  refine v_fa_pt (off' := 1) lay33 rfl rfl rfl ?_
  refine v_load_pt (.c _) lay28 rfl rfl rfl rfl ?_
  refine v_len_sl lay28 rfl ?_
  refine v_lss lay3 rfl rfl (fun h1 => ?_) (fun h1 => ?_)
  · refine v_nil ?_
    refine q_n ?_
    refine w_t rfl ?_
    refine w_skip ?_
    refine q_n ?_
    refine w_seq ?_
    refine w_block ?_
    refine w_seq ?_
    refine w_reg rfl ?_
    refine v_move rfl ?_
    refine v_nil_pt rfl ?_
    refine v_fa_pt (off' := 1) lay33 rfl rfl rfl ?_
    refine v_load_pt (.c _) lay28 rfl rfl rfl rfl ?_
    refine v_move rfl ?_
    refine v_idx_e (k := 1) (i) int_len lay28 lay2 rfl rfl rfl (rfl) rfl (rfl) (by omega) ?_
    refine v_load_vw (.c (.v _)) lay2 rfl rfl rfl ?_
    refine v_build [(0, 1), (1, 1)] [.v _, .v _] lay46 rfl rfl ?_
    refine v_alloc (m := 9) (H' := [_, _, _, _, _, _, _, _, _, ⟨[.v _, .v _], 46, true⟩]) lay46 rfl rfl ?_
    refine v_store (H' := [_, _, _, _, _, _, _, _, _, ⟨[_, _], 46, true⟩]) lay46 rfl rfl rfl rfl rfl rfl ?_
    refine v_nil ?_
    refine q_n ?_
    refine w_seq ?_
    refine w_draw [0, 0, 2, 6, 14, 30, 0, 64, 254, 511, 1023, 2047, 4095] [⟨0, 0, []⟩, ⟨1, 0, []⟩, ⟨2, 0, []⟩, ⟨3, 0, []⟩, ⟨4, 0, []⟩, ⟨5, 0, []⟩, ⟨6, 0, []⟩, ⟨7, 2, []⟩, ⟨8, 1, []⟩, ⟨9, 0, []⟩, ⟨10, 0, []⟩, ⟨11, 0, []⟩, ⟨12, 1, []⟩] rfl rfl ?_
    refine d_q rfl rfl rfl rfl rfl ?_
    refine v_move rfl ?_
    refine v_nil ?_
    refine d_q rfl rfl rfl rfl rfl ?_
    refine v_move rfl ?_
    refine v_nil ?_
    refine d_q rfl rfl rfl rfl rfl ?_
    refine v_nil_pt rfl ?_
    refine v_nil ?_
    refine d_q rfl rfl rfl rfl rfl ?_
    refine v_fa_pt (off' := 1) lay90 rfl rfl rfl ?_
    refine v_nil ?_
    refine d_q rfl rfl rfl rfl rfl ?_
    refine v_fa_pt (off' := 1) lay64 rfl rfl rfl ?_
    refine v_nil ?_
    refine d_q rfl rfl rfl rfl rfl ?_
    refine v_load_pt (.c _) lay61 rfl rfl rfl rfl ?_
    refine v_nil ?_
    refine d_q rfl rfl rfl rfl rfl ?_
    refine v_load_pt (.agg [_, _]) lay46 rfl rfl rfl rfl ?_
    refine v_nil ?_
    refine d_z (.c (.sl true 1 2 (flat pe [(fs[i], 0)]))) rfl rfl rfl ?_
    refine d_e rfl rfl rfl ?_
    refine v_app_flat_sl (H' := [_, _, _, _, _, _, _, _, _, _, _]) pe_sc pe_len lay61 lay46 rfl rfl (by first | rfl | (simp; done) | (simp; omega) | omega | (rw [bg_l (by omega)])) rfl rfl rfl (by unfold maxLen; simp only []; omega) rfl rfl ?_
    refine v_nil ⟨again_nil, ?_⟩
    refine d_q rfl rfl rfl rfl rfl ?_
    refine v_nil_pt rfl ?_
    refine v_nil ?_
    refine d_q rfl rfl rfl rfl rfl ?_
    refine v_fa_pt (off' := 1) lay90 rfl rfl rfl ?_
    refine v_nil ?_
    refine d_q rfl rfl rfl rfl rfl ?_
    refine v_fa_pt (off' := 1) lay64 rfl rfl rfl ?_
    refine v_nil ?_
    refine d_e rfl rfl rfl ?_
    refine v_store (H' := [_, _, _, ⟨[_, _, _, _, _, _], 90, true⟩, _, _, _, _, _, _, _]) lay61 rfl rfl rfl rfl rfl rfl ?_
    refine v_nil ⟨again_nil, ?_⟩
    refine d_nil ?_
    refine q_n ?_
    refine w_seq ?_
    refine w_draw [0, 0, 2, 6, 14, 30, 0, 64, 254, 511, 1023, 2047, 4095] [⟨0, 0, []⟩, ⟨1, 0, []⟩, ⟨2, 0, []⟩, ⟨3, 0, []⟩, ⟨4, 0, []⟩, ⟨5, 0, []⟩, ⟨6, 0, []⟩, ⟨7, 2, []⟩, ⟨8, 1, []⟩, ⟨9, 0, []⟩, ⟨10, 0, []⟩, ⟨11, 0, []⟩, ⟨12, 1, []⟩] rfl rfl ?_
    refine d_q rfl rfl rfl rfl rfl ?_
    refine v_move rfl ?_
    refine v_nil ?_
    refine d_q rfl rfl rfl rfl rfl ?_
    refine v_move rfl ?_
    refine v_nil ?_
    refine d_q rfl rfl rfl rfl rfl ?_
    refine v_nil_pt rfl ?_
    refine v_nil ?_
    refine d_q rfl rfl rfl rfl rfl ?_
    refine v_fa_pt (off' := 1) lay90 rfl rfl rfl ?_
    refine v_nil ?_
    refine d_q rfl rfl rfl rfl rfl ?_
    refine v_fa_pt (off' := 2) lay64 rfl rfl rfl ?_
    refine v_nil ?_
    refine d_q rfl rfl rfl rfl rfl ?_
    refine v_load_pt (.c _) lay61 rfl rfl rfl rfl ?_
    refine v_nil ?_
    refine d_q rfl rfl rfl rfl rfl ?_
    refine v_load_pt (.agg [_, _]) lay46 rfl rfl rfl rfl ?_
    refine v_nil ?_
    refine d_z (.c (.sl true 1 2 (flat pe [(fs[i], 0)]))) rfl rfl rfl ?_
    refine d_e rfl rfl rfl ?_
    refine v_app_flat_sl (H' := [_, _, _, _, _, _, _, _, _, _, _, _]) pe_sc pe_len lay61 lay46 rfl rfl (by first | rfl | (simp; done) | (simp; omega) | omega | (rw [bg_l (by omega)])) rfl rfl rfl (by unfold maxLen; simp only []; omega) rfl rfl ?_
    refine v_nil ⟨again_nil, ?_⟩
    refine d_q rfl rfl rfl rfl rfl ?_
    refine v_nil_pt rfl ?_
    refine v_nil ?_
    refine d_q rfl rfl rfl rfl rfl ?_
    refine v_fa_pt (off' := 1) lay90 rfl rfl rfl ?_
    refine v_nil ?_
    refine d_q rfl rfl rfl rfl rfl ?_
    refine v_fa_pt (off' := 2) lay64 rfl rfl rfl ?_
    refine v_nil ?_
    refine d_e rfl rfl rfl ?_
    refine v_store (H' := [_, _, _, ⟨[_, _, _, _, _, _], 90, true⟩, _, _, _, _, _, _, _, _]) lay61 rfl rfl rfl rfl rfl rfl ?_
    refine v_nil ⟨again_nil, ?_⟩
    refine d_nil ?_
    refine q_n ?_
    refine w_seq ?_
    refine w_draw [0, 0, 2, 6, 14, 30, 0, 64, 254, 511, 1023, 2047, 4095] [⟨0, 0, []⟩, ⟨1, 0, []⟩, ⟨2, 0, []⟩, ⟨3, 0, []⟩, ⟨4, 0, []⟩, ⟨5, 0, []⟩, ⟨6, 0, []⟩, ⟨7, 2, []⟩, ⟨8, 1, []⟩, ⟨9, 0, []⟩, ⟨10, 0, []⟩, ⟨11, 0, []⟩, ⟨12, 1, []⟩] rfl rfl ?_
    refine d_q rfl rfl rfl rfl rfl ?_
    refine v_move rfl ?_
    refine v_nil ?_
    refine d_q rfl rfl rfl rfl rfl ?_
    refine v_move rfl ?_
    refine v_nil ?_
    refine d_q rfl rfl rfl rfl rfl ?_
    refine v_nil_pt rfl ?_
    refine v_nil ?_
    refine d_q rfl rfl rfl rfl rfl ?_
    refine v_fa_pt (off' := 1) lay90 rfl rfl rfl ?_
    refine v_nil ?_
    refine d_q rfl rfl rfl rfl rfl ?_
    refine v_fa_pt (off' := 3) lay64 rfl rfl rfl ?_
    refine v_nil ?_
    refine d_q rfl rfl rfl rfl rfl ?_
    refine v_load_pt (.c _) lay61 rfl rfl rfl rfl ?_
    refine v_nil ?_
    refine d_q rfl rfl rfl rfl rfl ?_
    refine v_load_pt (.agg [_, _]) lay46 rfl rfl rfl rfl ?_
    refine v_nil ?_
    refine d_z (.c (.sl true 1 2 (flat pe [(fs[i], 0)]))) rfl rfl rfl ?_
    refine d_e rfl rfl rfl ?_
    refine v_app_flat_sl (H' := [_, _, _, _, _, _, _, _, _, _, _, _, _]) pe_sc pe_len lay61 lay46 rfl rfl (by first | rfl | (simp; done) | (simp; omega) | omega | (rw [bg_l (by omega)])) rfl rfl rfl (by unfold maxLen; simp only []; omega) rfl rfl ?_
    refine v_nil ⟨again_nil, ?_⟩
    refine d_q rfl rfl rfl rfl rfl ?_
    refine v_nil_pt rfl ?_
    refine v_nil ?_
    refine d_q rfl rfl rfl rfl rfl ?_
    refine v_fa_pt (off' := 1) lay90 rfl rfl rfl ?_
    refine v_nil ?_
    refine d_q rfl rfl rfl rfl rfl ?_
    refine v_fa_pt (off' := 3) lay64 rfl rfl rfl ?_
    refine v_nil ?_
    refine d_e rfl rfl rfl ?_
    refine v_store (H' := [_, _, _, ⟨[_, _, _, _, _, _], 90, true⟩, _, _, _, _, _, _, _, _, _]) lay61 rfl rfl rfl rfl rfl rfl ?_
    refine v_nil ⟨again_nil, ?_⟩
    refine d_nil ?_
    refine q_n ?_
    refine w_reg rfl ?_
    refine v_move rfl ?_
    refine v_move rfl ?_
    refine v_nil_pt rfl ?_
    refine v_fa_pt (off' := 1) lay90 rfl rfl rfl ?_
    refine v_fa_pt (off' := 4) lay64 rfl rfl rfl ?_
    refine v_load_pt (.c _) lay28 rfl rfl rfl rfl ?_
    refine v_lit (flat int [0]) (H' := [_, _, _, _, _, _, _, _, _, _, _, _, _, _]) lay28 lay2 rfl rfl ⟨by decide, by decide⟩ rfl rfl ?_
    refine v_app_flat (H' := [_, _, _, _, _, _, _, _, _, _, _, _, _, _, _]) int_sc int_len lay28 lay2 rfl rfl (by first | rfl | (simp; done) | (simp; omega) | omega | (rw [bg_l (by omega)])) rfl rfl (by first | rfl | (simp; done)) rfl rfl (by unfold maxLen; simp only []; omega) rfl rfl ?_
    refine v_nil_pt rfl ?_
    refine v_fa_pt (off' := 1) lay90 rfl rfl rfl ?_
    refine v_fa_pt (off' := 4) lay64 rfl rfl rfl ?_
    refine v_store (H' := [_, _, _, ⟨[_, _, _, _, _, _], 90, true⟩, _, _, _, _, _, _, _, _, _, _, _]) lay28 rfl rfl rfl rfl rfl rfl ?_
    refine v_nil ?_
    refine q_bn ?_
    refine q_n ?_
    refine w_reg rfl ?_
    refine v_move rfl ?_
    refine v_add lay3 rfl rfl (i64r (by omega)) ?_
    refine v_assign rfl ?_
    refine v_nil ?_
    refine q_n ?_
    refine ⟨_, _, _, ?_, ⟨i + 1, rfl, by omega, rfl, rfl⟩, by omega⟩
    exact turn [some 0, some 1, some 2, some 3, some 10, some 11, some 12, some 14, some 8] rfl rfl rfl ⟨⟨_, rfl, .cons tr_v (.cons tr_sl .nil)⟩, ⟨_, rfl, .cons tr_sl (.cons tr_v (.cons tr_v .nil))⟩, ⟨_, rfl, .nil⟩, ⟨_, rfl, .cons (tr_pt rfl) (.cons (tr_mun rfl (by first | rfl | (simp; done) | (simp; omega) | (rw [bg_l (by omega)]))) (.cons (tr_mun rfl (by first | rfl | (simp; done) | (simp; omega) | (rw [bg_l (by omega)]))) (.cons (tr_mun rfl (by first | rfl | (simp; done) | (simp; omega) | (rw [bg_l (by omega)]))) (.cons (tr_mun rfl (by first | rfl | (simp; done) | (simp; omega) | (rw [bg_l (by omega)]))) (.cons (tr_mun rfl (by first | rfl | (simp; done) | (simp; omega) | (rw [bg_l (by omega)]))) .nil)))))⟩, ⟨_, rfl, trc_flat pe_sc (congrArg (flat pe) (bg_step (by omega)))⟩, ⟨_, rfl, trc_flat pe_sc (congrArg (flat pe) (bg_step (by omega)))⟩, ⟨_, rfl, trc_flat pe_sc (congrArg (flat pe) (bg_step (by omega)))⟩, ⟨_, rfl, trc_flat int_sc (congrArg (flat int) (List.replicate_succ').symm)⟩, ⟨_, rfl, .nil⟩, trivial⟩ ⟨tr_pt rfl, tr_pt rfl, tr_v, trivial⟩
  refine v_nil ?_
  refine q_n ?_
  refine w_f rfl ?_
  refine w_exit ?_
  refine q_e ?_
  refine q_e ?_
  refine q_hit ?_
  refine q_n ?_
  refine w_seq ?_
  refine w_reg rfl ?_
  refine v_move rfl ?_
  refine v_assign rfl ?_
  refine v_nil ?_
  refine q_n ?_
  refine w_ret ?_
  refine r_r rfl ?_
  refine v_assign rfl ?_
  refine v_nil ?_
  refine q_n ?_
  refine w_seq ?_
  refine w_reg rfl ?_
  refine v_move rfl ?_
  refine v_nil_pt rfl ?_
  refine v_fa_pt (off' := 1) lay33 rfl rfl rfl ?_
  refine v_load_pt (.c _) lay28 rfl rfl rfl rfl ?_
  refine v_len_sl lay28 rfl ?_
  refine v_assign rfl ?_
  refine v_nil ?_
  refine q_n ?_
  refine w_seq ?_
  refine w_seq ?_
  refine w_reg rfl ?_
  refine v_move rfl ?_
  refine v_move rfl ?_
  refine v_add lay2 rfl rfl (i64r (by omega)) ?_
  refine v_pick (fun a' s' => [_, srcO _ a' s', _, _, _, _, _, _, _]) rfl hc (by omega) ⟨by omega, by omega⟩ (by omega) rfl rfl (fun a' s' => rfl) ?_
  intro q1 a1 s1 hq1 ha1
  refine v_assign rfl ?_
  refine v_nil ?_
  refine q_n ?_
  refine w_block ?_
  refine w_loop (fun k sl H => ∃ (j i : Nat) (es : List De) (a s : Int) (b : Bd), k = j ∧ es.length + j ≤ 28 ∧ i = es.length ∧ (∀ d ∈ es, dOk d) ∧ 0 ≤ a ∧ a ≤ 1 + 3 * es.length ∧ okB fs.length i b ∧ sl = sls [(0, .c (.pt 1 0)), (1, .c (.pt 0 0)), (7, .c (.mu 2 0 es.length 3)), (8, .c (.pt 3 0)), (9, cI fs.length), (10, cI j)] ∧ H = [⟨[.v (.int .i64 p), .any], 33, true⟩, srcO code a s, ⟨flat dce es, 25, true⟩, ⟨[.pt 0 0, .mu 4 0 b.nw.length 2, .mu 5 0 b.ps.length 2, .mu 6 0 b.sv.length 2, .mu 7 0 b.kn.length 1, .mu 8 0 b.wr.length 4], 90, true⟩, ⟨flat pe b.nw, 46, true⟩, ⟨flat pe b.ps, 46, true⟩, ⟨flat pe b.sv, 46, true⟩, ⟨flat int b.kn, 2, true⟩, ⟨flat nce b.wr, 101, true⟩]) ?_ ?_
  · obtain rfl : i = fs.length := by omega
    obtain ⟨j0, hj0⟩ : ∃ j : Nat, q1 = j := Int.eq_ofNat_of_zero_le (by omega)
    refine ⟨_, _, _, ?_, j0, 0, [], a1, s1, b0 fs, rfl, by simp; omega, rfl, (fun d hd => by cases hd), by omega, by simp; omega, ok_0 fs, rfl, rfl⟩
    exact turn [some 0, some 1, some 2, some 3, some 4, some 5, some 6, some 7, some 8] rfl rfl rfl ⟨⟨_, rfl, .cons tr_v (.cons (.c (.dn .any)) .nil)⟩, ⟨_, rfl, .cons tr_sl (.cons tr_v (.cons tr_v .nil))⟩, ⟨_, rfl, trc_flat dce_sc (xs := []) rfl⟩, ⟨_, rfl, .cons (tr_pt rfl) (.cons (tr_mun rfl (by simp [b0, bg])) (.cons (tr_mun rfl (by simp [b0, bg])) (.cons (tr_mun rfl (by simp [b0, bg])) (.cons (tr_mun rfl (by simp [b0, bg])) (.cons (tr_mun rfl (by simp [b0, bg])) .nil)))))⟩, ⟨_, rfl, trc_flat pe_sc rfl⟩, ⟨_, rfl, trc_flat pe_sc rfl⟩, ⟨_, rfl, trc_flat pe_sc rfl⟩, ⟨_, rfl, trc_flat int_sc rfl⟩, ⟨_, rfl, .nil⟩, trivial⟩ ⟨tr_pt rfl, tr_pt rfl, tr_mun rfl rfl, tr_pt rfl, tr_v, tr_i hj0, trivial⟩
  rintro k sl H ⟨j, i, es, a, s, b, hkj, hl1, hie, hes, h0, hb, hok, rfl, rfl⟩
  have n5 := hok.wr
  have n6 : mx (b.wr.length : Int) 1 ≤ 10 := by unfold mx; split <;> omega
  refine w_seq ?_
  refine w_seq ?_
  refine w_reg rfl ?_
  refine v_move rfl ?_
  refine v_gtr lay2 rfl rfl (fun h3 => ?_) (fun h3 => ?_)
  rotate_left
  · refine v_nil ?_
    refine q_n ?_
    refine w_f rfl ?_
    refine w_exit ?_
    refine q_e ?_
    refine q_e ?_
    refine q_hit ?_
    refine q_n ?_
    refine w_seq ?_
    refine w_reg rfl ?_
    refine v_move rfl ?_
    refine v_assign rfl ?_
    refine v_nil ?_
    refine q_n ?_
    refine w_ret ?_
    refine r_r rfl ?_
    refine v_assign rfl ?_
    refine v_nil ?_
    refine q_n ?_
    refine w_ret ?_
    refine r_r rfl ?_
    exact ⟨_, ⟨es, hes, by omega, rfl⟩, a_flat2 dce_sc dce_len rfl rfl rfl rfl⟩
  refine v_nil ?_
  refine q_n ?_
  refine w_t rfl ?_
  refine w_skip ?_
  refine q_n ?_
  refine w_seq ?_
  refine w_block ?_
  refine w_seq ?_
  refine w_reg rfl ?_
  refine v_move rfl ?_
  refine v_lit (flat int [1, 1, 1, 2, 2, 2, 3, 3, 3, 3, 4, 5, 6, 7]) (H' := [_, _, _, _, _, _, _, _, _, _]) lay28 lay2 rfl rfl ⟨by decide, by decide⟩ rfl rfl ?_
  refine v_inl (n := 12) (drawD_ok X) (fun _ _ => Go.Proofs.Try.call97 _ _) Go.Proofs.Try.func97 rfl rfl rfl rfl ?_
  refine w_seq ?_
  refine w_reg rfl ?_
  refine v_assign (c := .v (.int .i64 0)) rfl ?_
  refine v_nil ?_
  refine q_n ?_
  refine w_seq ?_
  refine w_reg rfl ?_
  refine v_move rfl ?_
  refine v_move rfl ?_
  refine v_move rfl ?_
  refine v_len_mu lay28 rfl ?_
  refine v_pick (fun a' s' => [_, srcO _ a' s', _, _, _, _, _, _, _, _]) rfl hc (by omega) ⟨by omega, by omega⟩ (by omega) rfl rfl (fun a' s' => rfl) ?_
  intro q2 a2 s2 hq2 ha2
  refine v_idx_mu_e (k := 1) (off := 0) (q2.toNat) lay28 lay2 rfl rfl rfl ((Int.toNat_of_nonneg (by omega)).symm) (by omega) ?_
  refine v_load_flat q2.toNat 0 (.c (.v _)) int_len lay2 rfl rfl (by omega) (by first | omega | (simp; done) | (simp; omega)) rfl rfl ?_
  refine v_assign rfl ?_
  refine v_nil ?_
  refine q_n ?_
  refine w_ret ?_
  refine r_r rfl ?_
  refine v_move rfl ?_
  refine v_move rfl ?_
  refine v_pick (fun a' s' => [_, srcO _ a' s', _, _, _, _, _, _, _, _]) rfl hc (by omega) ⟨by omega, by omega⟩ (by omega) rfl rfl (fun a' s' => rfl) ?_
  intro q3 a3 s3 hq3 ha3
  refine v_build [(0, 1), (1, 1), (2, 1)] [.v _, .v _, .v _] lay25 rfl rfl ?_
  refine v_alloc (m := 10) (H' := [_, _, _, _, _, _, _, _, _, _, ⟨[.v _, .v _, .v _], 25, true⟩]) lay25 rfl rfl ?_
  refine v_store (H' := [_, _, _, _, _, _, _, _, _, _, ⟨[_, _, _], 25, true⟩]) lay25 rfl rfl rfl rfl rfl rfl ?_
  refine v_nil ?_
  refine q_n ?_
  refine w_seq ?_
  refine w_seq ?_
  refine w_reg rfl ?_
  refine v_fa_pt (off' := 0) lay25 rfl rfl rfl ?_
  refine v_load_pt (.c _) lay2 rfl rfl rfl rfl ?_
  refine v_nil ?_
  refine q_n ?_
  refine w_block ?_
  refine w_seq ?_
  refine w_reg rfl ?_
  refine v_eql lay2 rfl rfl (fun h5 => ?_) (fun h5 => ?_)
  · have hK := l14_rng _ (List.getElem_mem (show q2.toNat < ([1, 1, 1, 2, 2, 2, 3, 3, 3, 3, 4, 5, 6, 7] : List Int).length by simp; omega))
    refine v_assign rfl ?_
    refine v_nil ?_
    refine q_n ?_
    refine w_t rfl ?_
    refine w_reg rfl ?_
    refine v_move rfl ?_
    refine v_move rfl ?_
    refine v_nil_pt rfl ?_
    refine v_fa_pt (off' := 0) lay33 rfl rfl rfl ?_
    refine v_load_pt (.c _) lay2 rfl rfl rfl rfl ?_
    refine v_pick (fun a' s' => [_, srcO _ a' s', _, _, _, _, _, _, _, _, _]) rfl hc (by omega) ⟨by omega, by omega⟩ (by omega) rfl rfl (fun a' s' => rfl) ?_
    intro q4 a4 s4 hq4 ha4
    refine v_fa_pt (off' := 2) lay25 rfl rfl rfl ?_
    refine v_store (H' := [_, _, _, _, _, _, _, _, _, _, ⟨[_, _, _], 25, true⟩]) lay2 rfl rfl rfl rfl rfl rfl ?_
    refine v_nil ?_
    refine q_bn ?_
    refine q_n ?_
    refine w_seq ?_
    refine w_reg rfl ?_
    refine v_move rfl ?_
    refine v_load_pt (.agg [_, _, _]) lay25 rfl rfl rfl rfl ?_
    refine v_lit (flat dce [((([1, 1, 1, 2, 2, 2, 3, 3, 3, 3, 4, 5, 6, 7] : List Int)[q2.toNat]'(by simp; omega), q3, q4) : De)]) (H' := [_, _, _, _, _, _, _, _, _, _, _, _]) lay41 lay25 rfl rfl ⟨by decide, by decide⟩ rfl rfl ?_
    refine v_app_flat (H' := [_, _, _, _, _, _, _, _, _, _, _, _, _]) dce_sc dce_len lay41 lay25 rfl rfl (by first | rfl | (simp; done) | (simp; omega) | omega | (rw [bg_l (by omega)])) rfl rfl (by first | rfl | (simp; done)) rfl rfl (by unfold maxLen; simp only []; omega) rfl rfl ?_
    refine v_assign rfl ?_
    refine v_nil ?_
    refine q_n ?_
    refine w_reg rfl ?_
    refine v_move rfl ?_
    refine v_load_pt (.agg [_, _, _]) lay25 rfl rfl rfl rfl ?_
    have hdd : dOk ((([1, 1, 1, 2, 2, 2, 3, 3, 3, 3, 4, 5, 6, 7] : List Int)[q2.toNat]'(by simp; omega), q3, q4) : De) := ⟨⟨hK.1, hK.2⟩, ⟨(by omega : (0 : Int) ≤ q3), (by omega : q3 ≤ 999)⟩, ⟨(by omega : (0 : Int) ≤ q4), (by omega : (q4 : Int) ≤ 999)⟩, (by omega : ([1, 1, 1, 2, 2, 2, 3, 3, 3, 3, 4, 5, 6, 7] : List Int)[q2.toNat]'(by simp; omega) = 1 ∨ (q4 : Int) = 0)⟩
    refine v_graph2 (ι := Bd × Int) (q1 := fun x => doB p b ((([1, 1, 1, 2, 2, 2, 3, 3, 3, 3, 4, 5, 6, 7] : List Int)[q2.toNat]'(by simp; omega), q3, q4) : De) = x) (q2 := fun x => doB p b ((([1, 1, 1, 2, 2, 2, 3, 3, 3, 3, 4, 5, 6, 7] : List Int)[q2.toNat]'(by simp; omega), q3, q4) : De) = x) (R1 := fun x => cI x.2) (R2 := fun x => cI x.2) (L1 := fun x => doH p x.1) (L2 := fun x => doH2 p x.1) [0, 3, 4, 5, 6, 7, 8] (fun x => cI x.2) (fun x => cI x.2) (fun x => [⟨[.v (.int .i64 p), .any], 33, true⟩, ⟨[.pt 0 0, .mu 4 0 x.1.nw.length 2, .mu 5 0 x.1.ps.length 2, .mu 6 0 x.1.sv.length 2, .mu 7 0 x.1.kn.length 1, .mu 8 0 x.1.wr.length 4], 90, true⟩, ⟨flat pe x.1.nw, 46, true⟩, ⟨flat pe x.1.ps, 46, true⟩, ⟨flat pe x.1.sv, 46, true⟩, ⟨flat int x.1.kn, 2, true⟩, ⟨flat nce x.1.wr, 101, true⟩]) (fun x => [⟨[.v (.int .i64 p), .any], 33, true⟩, ⟨[.pt 0 0, .mu 4 0 x.1.nw.length 2, .mu 5 0 x.1.ps.length 2, .mu 6 0 x.1.sv.length 2, .mu 7 0 x.1.kn.length 1, .mu 13 0 x.1.wr.length 4], 90, true⟩, ⟨flat pe x.1.nw, 46, true⟩, ⟨flat pe x.1.ps, 46, true⟩, ⟨flat pe x.1.sv, 46, true⟩, ⟨flat int x.1.kn, 2, true⟩, ⟨[], 101, false⟩, ⟨flat nce x.1.wr, 101, true⟩]) (fun x => [⟨[.v (.int .i64 p), .any], 33, true⟩, _, _, ⟨[.pt 0 0, .mu 4 0 x.1.nw.length 2, .mu 5 0 x.1.ps.length 2, .mu 6 0 x.1.sv.length 2, .mu 7 0 x.1.kn.length 1, .mu 8 0 x.1.wr.length 4], 90, true⟩, ⟨flat pe x.1.nw, 46, true⟩, ⟨flat pe x.1.ps, 46, true⟩, ⟨flat pe x.1.sv, 46, true⟩, ⟨flat int x.1.kn, 2, true⟩, ⟨flat nce x.1.wr, 101, true⟩, _, _, _, _]) (fun x => [⟨[.v (.int .i64 p), .any], 33, true⟩, _, _, ⟨[.pt 0 0, .mu 4 0 x.1.nw.length 2, .mu 5 0 x.1.ps.length 2, .mu 6 0 x.1.sv.length 2, .mu 7 0 x.1.kn.length 1, .mu 13 0 x.1.wr.length 4], 90, true⟩, ⟨flat pe x.1.nw, 46, true⟩, ⟨flat pe x.1.ps, 46, true⟩, ⟨flat pe x.1.sv, 46, true⟩, ⟨flat int x.1.kn, 2, true⟩, ⟨[], 101, false⟩, _, _, _, _, ⟨flat nce x.1.wr, 101, true⟩]) (c84g p fs.length i b ((([1, 1, 1, 2, 2, 2, 3, 3, 3, 3, 4, 5, 6, 7] : List Int)[q2.toNat]'(by simp; omega), q3, q4) : De) hok hdd (by omega) (by omega)) (by decide) ⟨⟨_, rfl, rfl, .cons (.dn .v rfl) (.cons (.dn .any rfl) .nil)⟩, ⟨_, rfl, rfl, .cons (.pt rfl) (.cons (.mu rfl) (.cons (.mu rfl) (.cons (.mu rfl) (.cons (.mu rfl) (.cons (.mu rfl) .nil)))))⟩, ⟨_, rfl, rfl, .sc (sc_flat pe_sc _)⟩, ⟨_, rfl, rfl, .sc (sc_flat pe_sc _)⟩, ⟨_, rfl, rfl, .sc (sc_flat pe_sc _)⟩, ⟨_, rfl, rfl, .sc (sc_flat int_sc _)⟩, ⟨_, rfl, rfl, .sc (sc_flat nce_sc _)⟩, trivial⟩ rfl rfl (.cons (.c (.pt rfl)) (.cons (.agg (.cons (.dn .v rfl) (.cons (.dn .v rfl) (.cons (.dn .v rfl) .nil)))) .nil)) (fun x => rfl) (fun x => rfl) (fun x => ⟨rfl, rfl, rn_flat pe_sc, rn_flat pe_sc, rn_flat pe_sc, rn_flat int_sc, rn_flat nce_sc, trivial⟩) (fun x => ⟨rfl, rfl, rn_flat pe_sc, rn_flat pe_sc, rn_flat pe_sc, rn_flat int_sc, rfl, rn_flat nce_sc, trivial⟩) (fun x => rfl) (fun x => rfl) (fun x => gdo1 p x) (fun x => gdo2 p x) ?_ ?_
    · rintro ⟨b1, c1⟩ hdo
      refine v_nil ?_
      refine q_bn ?_
      refine q_n ?_
      refine w_reg rfl ?_
      refine v_move rfl ?_
      refine v_sub lay2 rfl rfl (i64r (by omega)) ?_
      refine v_assign rfl ?_
      refine v_nil ?_
      refine q_n ?_
      have hxo := ok_do hok hdd hdo
      refine ⟨_, _, _, ?_, ⟨j - 1, i + 1, es ++ [((([1, 1, 1, 2, 2, 2, 3, 3, 3, 3, 4, 5, 6, 7] : List Int)[q2.toNat]'(by simp; omega), q3, q4) : De)], a4, s4, b1, rfl, by simp; omega, by simp [hie], fun x hx => ?_, ?_, ?_, hxo, rfl, rfl⟩, by omega⟩
      · exact turn [some 0, some 1, some 12, some 3, some 4, some 5, some 6, some 7, some 8] rfl rfl rfl ⟨⟨_, rfl, .cons tr_v (.cons (.c (.dn .any)) .nil)⟩, ⟨_, rfl, .cons tr_sl (.cons tr_v (.cons tr_v .nil))⟩, ⟨_, rfl, trc_flat dce_sc rfl⟩, ⟨_, rfl, .cons (tr_pt rfl) (.cons (tr_mun rfl rfl) (.cons (tr_mun rfl rfl) (.cons (tr_mun rfl rfl) (.cons (tr_mun rfl rfl) (.cons (tr_mun rfl rfl) .nil)))))⟩, ⟨_, rfl, trc_flat pe_sc rfl⟩, ⟨_, rfl, trc_flat pe_sc rfl⟩, ⟨_, rfl, trc_flat pe_sc rfl⟩, ⟨_, rfl, trc_flat int_sc rfl⟩, ⟨_, rfl, trc_flat nce_sc rfl⟩, trivial⟩ ⟨tr_pt rfl, tr_pt rfl, tr_mun rfl (by simp), tr_pt rfl, tr_v, tr_i (by omega), trivial⟩
      · rcases List.mem_append.1 hx with hx | hx
        · exact hes x hx
        · simp only [List.mem_singleton] at hx
          subst hx
          exact hdd
      · omega
      · simp; omega
    rintro ⟨b1, c1⟩ hdo
    refine v_nil ?_
    refine q_bn ?_
    refine q_n ?_
    refine w_reg rfl ?_
    refine v_move rfl ?_
    refine v_sub lay2 rfl rfl (i64r (by omega)) ?_
    refine v_assign rfl ?_
    refine v_nil ?_
    refine q_n ?_
    have hxo := ok_do hok hdd hdo
    refine ⟨_, _, _, ?_, ⟨j - 1, i + 1, es ++ [((([1, 1, 1, 2, 2, 2, 3, 3, 3, 3, 4, 5, 6, 7] : List Int)[q2.toNat]'(by simp; omega), q3, q4) : De)], a4, s4, b1, rfl, by simp; omega, by simp [hie], fun x hx => ?_, ?_, ?_, hxo, rfl, rfl⟩, by omega⟩
    · exact turn [some 0, some 1, some 12, some 3, some 4, some 5, some 6, some 7, some 13] rfl rfl rfl ⟨⟨_, rfl, .cons tr_v (.cons (.c (.dn .any)) .nil)⟩, ⟨_, rfl, .cons tr_sl (.cons tr_v (.cons tr_v .nil))⟩, ⟨_, rfl, trc_flat dce_sc rfl⟩, ⟨_, rfl, .cons (tr_pt rfl) (.cons (tr_mun rfl rfl) (.cons (tr_mun rfl rfl) (.cons (tr_mun rfl rfl) (.cons (tr_mun rfl rfl) (.cons (tr_mun rfl rfl) .nil)))))⟩, ⟨_, rfl, trc_flat pe_sc rfl⟩, ⟨_, rfl, trc_flat pe_sc rfl⟩, ⟨_, rfl, trc_flat pe_sc rfl⟩, ⟨_, rfl, trc_flat int_sc rfl⟩, ⟨_, rfl, trc_flat nce_sc rfl⟩, trivial⟩ ⟨tr_pt rfl, tr_pt rfl, tr_mun rfl (by simp), tr_pt rfl, tr_v, tr_i (by omega), trivial⟩
    · rcases List.mem_append.1 hx with hx | hx
      · exact hes x hx
      · simp only [List.mem_singleton] at hx
        subst hx
        exact hdd
    · omega
    · simp; omega
  have hK := l14_rng _ (List.getElem_mem (show q2.toNat < ([1, 1, 1, 2, 2, 2, 3, 3, 3, 3, 4, 5, 6, 7] : List Int).length by simp; omega))
  refine v_assign rfl ?_
  refine v_nil ?_
  refine q_n ?_
  refine w_f rfl ?_
  refine w_seq ?_
  refine w_seq ?_
  refine w_reg rfl ?_
  refine v_eql lay2 rfl rfl (fun h6 => ?_) (fun h6 => ?_)
  · refine v_assign rfl ?_
    refine v_nil ?_
    refine q_n ?_
    refine w_t rfl ?_
    refine w_skip ?_
    refine q_n ?_
    refine w_t rfl ?_
    refine w_reg rfl ?_
    refine v_move rfl ?_
    refine v_move rfl ?_
    refine v_nil_pt rfl ?_
    refine v_fa_pt (off' := 1) lay90 rfl rfl rfl ?_
    refine v_fa_pt (off' := 5) lay64 rfl rfl rfl ?_
    refine v_load_pt (.c _) lay62 rfl rfl rfl rfl ?_
    refine v_len_mu lay62 rfl ?_
    refine v_call (c98 _ _) rfl rfl rfl (.cons vw_v (.cons vw_v .nil)) ?_
    refine v_pick (fun a' s' => [_, srcO _ a' s', _, _, _, _, _, _, _, _, _]) rfl hc (by omega) ⟨by omega, by omega⟩ (by omega) rfl rfl (fun a' s' => rfl) ?_
    intro q5 a5 s5 hq5 ha5
    refine v_fa_pt (off' := 1) lay25 rfl rfl rfl ?_
    refine v_store (H' := [_, _, _, _, _, _, _, _, _, _, ⟨[_, _, _], 25, true⟩]) lay2 rfl rfl rfl rfl rfl rfl ?_
    refine v_nil ?_
    refine q_bn ?_
    refine q_n ?_
    refine w_seq ?_
    refine w_reg rfl ?_
    refine v_move rfl ?_
    refine v_load_pt (.agg [_, _, _]) lay25 rfl rfl rfl rfl ?_
    refine v_lit (flat dce [((([1, 1, 1, 2, 2, 2, 3, 3, 3, 3, 4, 5, 6, 7] : List Int)[q2.toNat]'(by simp; omega), q5, 0) : De)]) (H' := [_, _, _, _, _, _, _, _, _, _, _, _]) lay41 lay25 rfl rfl ⟨by decide, by decide⟩ rfl rfl ?_
    refine v_app_flat (H' := [_, _, _, _, _, _, _, _, _, _, _, _, _]) dce_sc dce_len lay41 lay25 rfl rfl (by first | rfl | (simp; done) | (simp; omega) | omega | (rw [bg_l (by omega)])) rfl rfl (by first | rfl | (simp; done)) rfl rfl (by unfold maxLen; simp only []; omega) rfl rfl ?_
    refine v_assign rfl ?_
    refine v_nil ?_
    refine q_n ?_
    refine w_reg rfl ?_
    refine v_move rfl ?_
    refine v_load_pt (.agg [_, _, _]) lay25 rfl rfl rfl rfl ?_
    have hdd : dOk ((([1, 1, 1, 2, 2, 2, 3, 3, 3, 3, 4, 5, 6, 7] : List Int)[q2.toNat]'(by simp; omega), q5, 0) : De) := ⟨⟨hK.1, hK.2⟩, ⟨(by omega : (0 : Int) ≤ q5), (by omega : q5 ≤ 999)⟩, ⟨(by omega : (0 : Int) ≤ 0), (by omega : (0 : Int) ≤ 999)⟩, (by omega : ([1, 1, 1, 2, 2, 2, 3, 3, 3, 3, 4, 5, 6, 7] : List Int)[q2.toNat]'(by simp; omega) = 1 ∨ (0 : Int) = 0)⟩
    refine v_graph2 (ι := Bd × Int) (q1 := fun x => doB p b ((([1, 1, 1, 2, 2, 2, 3, 3, 3, 3, 4, 5, 6, 7] : List Int)[q2.toNat]'(by simp; omega), q5, 0) : De) = x) (q2 := fun x => doB p b ((([1, 1, 1, 2, 2, 2, 3, 3, 3, 3, 4, 5, 6, 7] : List Int)[q2.toNat]'(by simp; omega), q5, 0) : De) = x) (R1 := fun x => cI x.2) (R2 := fun x => cI x.2) (L1 := fun x => doH p x.1) (L2 := fun x => doH2 p x.1) [0, 3, 4, 5, 6, 7, 8] (fun x => cI x.2) (fun x => cI x.2) (fun x => [⟨[.v (.int .i64 p), .any], 33, true⟩, ⟨[.pt 0 0, .mu 4 0 x.1.nw.length 2, .mu 5 0 x.1.ps.length 2, .mu 6 0 x.1.sv.length 2, .mu 7 0 x.1.kn.length 1, .mu 8 0 x.1.wr.length 4], 90, true⟩, ⟨flat pe x.1.nw, 46, true⟩, ⟨flat pe x.1.ps, 46, true⟩, ⟨flat pe x.1.sv, 46, true⟩, ⟨flat int x.1.kn, 2, true⟩, ⟨flat nce x.1.wr, 101, true⟩]) (fun x => [⟨[.v (.int .i64 p), .any], 33, true⟩, ⟨[.pt 0 0, .mu 4 0 x.1.nw.length 2, .mu 5 0 x.1.ps.length 2, .mu 6 0 x.1.sv.length 2, .mu 7 0 x.1.kn.length 1, .mu 13 0 x.1.wr.length 4], 90, true⟩, ⟨flat pe x.1.nw, 46, true⟩, ⟨flat pe x.1.ps, 46, true⟩, ⟨flat pe x.1.sv, 46, true⟩, ⟨flat int x.1.kn, 2, true⟩, ⟨[], 101, false⟩, ⟨flat nce x.1.wr, 101, true⟩]) (fun x => [⟨[.v (.int .i64 p), .any], 33, true⟩, _, _, ⟨[.pt 0 0, .mu 4 0 x.1.nw.length 2, .mu 5 0 x.1.ps.length 2, .mu 6 0 x.1.sv.length 2, .mu 7 0 x.1.kn.length 1, .mu 8 0 x.1.wr.length 4], 90, true⟩, ⟨flat pe x.1.nw, 46, true⟩, ⟨flat pe x.1.ps, 46, true⟩, ⟨flat pe x.1.sv, 46, true⟩, ⟨flat int x.1.kn, 2, true⟩, ⟨flat nce x.1.wr, 101, true⟩, _, _, _, _]) (fun x => [⟨[.v (.int .i64 p), .any], 33, true⟩, _, _, ⟨[.pt 0 0, .mu 4 0 x.1.nw.length 2, .mu 5 0 x.1.ps.length 2, .mu 6 0 x.1.sv.length 2, .mu 7 0 x.1.kn.length 1, .mu 13 0 x.1.wr.length 4], 90, true⟩, ⟨flat pe x.1.nw, 46, true⟩, ⟨flat pe x.1.ps, 46, true⟩, ⟨flat pe x.1.sv, 46, true⟩, ⟨flat int x.1.kn, 2, true⟩, ⟨[], 101, false⟩, _, _, _, _, ⟨flat nce x.1.wr, 101, true⟩]) (c84g p fs.length i b ((([1, 1, 1, 2, 2, 2, 3, 3, 3, 3, 4, 5, 6, 7] : List Int)[q2.toNat]'(by simp; omega), q5, 0) : De) hok hdd (by omega) (by omega)) (by decide) ⟨⟨_, rfl, rfl, .cons (.dn .v rfl) (.cons (.dn .any rfl) .nil)⟩, ⟨_, rfl, rfl, .cons (.pt rfl) (.cons (.mu rfl) (.cons (.mu rfl) (.cons (.mu rfl) (.cons (.mu rfl) (.cons (.mu rfl) .nil)))))⟩, ⟨_, rfl, rfl, .sc (sc_flat pe_sc _)⟩, ⟨_, rfl, rfl, .sc (sc_flat pe_sc _)⟩, ⟨_, rfl, rfl, .sc (sc_flat pe_sc _)⟩, ⟨_, rfl, rfl, .sc (sc_flat int_sc _)⟩, ⟨_, rfl, rfl, .sc (sc_flat nce_sc _)⟩, trivial⟩ rfl rfl (.cons (.c (.pt rfl)) (.cons (.agg (.cons (.dn .v rfl) (.cons (.dn .v rfl) (.cons (.dn .v rfl) .nil)))) .nil)) (fun x => rfl) (fun x => rfl) (fun x => ⟨rfl, rfl, rn_flat pe_sc, rn_flat pe_sc, rn_flat pe_sc, rn_flat int_sc, rn_flat nce_sc, trivial⟩) (fun x => ⟨rfl, rfl, rn_flat pe_sc, rn_flat pe_sc, rn_flat pe_sc, rn_flat int_sc, rfl, rn_flat nce_sc, trivial⟩) (fun x => rfl) (fun x => rfl) (fun x => gdo1 p x) (fun x => gdo2 p x) ?_ ?_
    · rintro ⟨b1, c1⟩ hdo
      refine v_nil ?_
      refine q_bn ?_
      refine q_n ?_
      refine w_reg rfl ?_
      refine v_move rfl ?_
      refine v_sub lay2 rfl rfl (i64r (by omega)) ?_
      refine v_assign rfl ?_
      refine v_nil ?_
      refine q_n ?_
      have hxo := ok_do hok hdd hdo
      refine ⟨_, _, _, ?_, ⟨j - 1, i + 1, es ++ [((([1, 1, 1, 2, 2, 2, 3, 3, 3, 3, 4, 5, 6, 7] : List Int)[q2.toNat]'(by simp; omega), q5, 0) : De)], a5, s5, b1, rfl, by simp; omega, by simp [hie], fun x hx => ?_, ?_, ?_, hxo, rfl, rfl⟩, by omega⟩
      · exact turn [some 0, some 1, some 12, some 3, some 4, some 5, some 6, some 7, some 8] rfl rfl rfl ⟨⟨_, rfl, .cons tr_v (.cons (.c (.dn .any)) .nil)⟩, ⟨_, rfl, .cons tr_sl (.cons tr_v (.cons tr_v .nil))⟩, ⟨_, rfl, trc_flat dce_sc rfl⟩, ⟨_, rfl, .cons (tr_pt rfl) (.cons (tr_mun rfl rfl) (.cons (tr_mun rfl rfl) (.cons (tr_mun rfl rfl) (.cons (tr_mun rfl rfl) (.cons (tr_mun rfl rfl) .nil)))))⟩, ⟨_, rfl, trc_flat pe_sc rfl⟩, ⟨_, rfl, trc_flat pe_sc rfl⟩, ⟨_, rfl, trc_flat pe_sc rfl⟩, ⟨_, rfl, trc_flat int_sc rfl⟩, ⟨_, rfl, trc_flat nce_sc rfl⟩, trivial⟩ ⟨tr_pt rfl, tr_pt rfl, tr_mun rfl (by simp), tr_pt rfl, tr_v, tr_i (by omega), trivial⟩
      · rcases List.mem_append.1 hx with hx | hx
        · exact hes x hx
        · simp only [List.mem_singleton] at hx
          subst hx
          exact hdd
      · omega
      · simp; omega
    rintro ⟨b1, c1⟩ hdo
    refine v_nil ?_
    refine q_bn ?_
    refine q_n ?_
    refine w_reg rfl ?_
    refine v_move rfl ?_
    refine v_sub lay2 rfl rfl (i64r (by omega)) ?_
    refine v_assign rfl ?_
    refine v_nil ?_
    refine q_n ?_
    have hxo := ok_do hok hdd hdo
    refine ⟨_, _, _, ?_, ⟨j - 1, i + 1, es ++ [((([1, 1, 1, 2, 2, 2, 3, 3, 3, 3, 4, 5, 6, 7] : List Int)[q2.toNat]'(by simp; omega), q5, 0) : De)], a5, s5, b1, rfl, by simp; omega, by simp [hie], fun x hx => ?_, ?_, ?_, hxo, rfl, rfl⟩, by omega⟩
    · exact turn [some 0, some 1, some 12, some 3, some 4, some 5, some 6, some 7, some 13] rfl rfl rfl ⟨⟨_, rfl, .cons tr_v (.cons (.c (.dn .any)) .nil)⟩, ⟨_, rfl, .cons tr_sl (.cons tr_v (.cons tr_v .nil))⟩, ⟨_, rfl, trc_flat dce_sc rfl⟩, ⟨_, rfl, .cons (tr_pt rfl) (.cons (tr_mun rfl rfl) (.cons (tr_mun rfl rfl) (.cons (tr_mun rfl rfl) (.cons (tr_mun rfl rfl) (.cons (tr_mun rfl rfl) .nil)))))⟩, ⟨_, rfl, trc_flat pe_sc rfl⟩, ⟨_, rfl, trc_flat pe_sc rfl⟩, ⟨_, rfl, trc_flat pe_sc rfl⟩, ⟨_, rfl, trc_flat int_sc rfl⟩, ⟨_, rfl, trc_flat nce_sc rfl⟩, trivial⟩ ⟨tr_pt rfl, tr_pt rfl, tr_mun rfl (by simp), tr_pt rfl, tr_v, tr_i (by omega), trivial⟩
    · rcases List.mem_append.1 hx with hx | hx
      · exact hes x hx
      · simp only [List.mem_singleton] at hx
        subst hx
        exact hdd
    · omega
    · simp; omega
  refine v_assign rfl ?_
  refine v_nil ?_
  refine q_n ?_
  refine w_f rfl ?_
  refine w_seq ?_
  refine w_reg rfl ?_
  refine v_eql lay2 rfl rfl (fun h7 => ?_) (fun h7 => ?_)
  · refine v_assign rfl ?_
    refine v_nil ?_
    refine q_n ?_
    refine w_t rfl ?_
    refine w_skip ?_
    refine q_n ?_
    refine w_t rfl ?_
    refine w_reg rfl ?_
    refine v_move rfl ?_
    refine v_move rfl ?_
    refine v_nil_pt rfl ?_
    refine v_fa_pt (off' := 1) lay90 rfl rfl rfl ?_
    refine v_fa_pt (off' := 5) lay64 rfl rfl rfl ?_
    refine v_load_pt (.c _) lay62 rfl rfl rfl rfl ?_
    refine v_len_mu lay62 rfl ?_
    refine v_call (c98 _ _) rfl rfl rfl (.cons vw_v (.cons vw_v .nil)) ?_
    refine v_pick (fun a' s' => [_, srcO _ a' s', _, _, _, _, _, _, _, _, _]) rfl hc (by omega) ⟨by omega, by omega⟩ (by omega) rfl rfl (fun a' s' => rfl) ?_
    intro q6 a6 s6 hq6 ha6
    refine v_fa_pt (off' := 1) lay25 rfl rfl rfl ?_
    refine v_store (H' := [_, _, _, _, _, _, _, _, _, _, ⟨[_, _, _], 25, true⟩]) lay2 rfl rfl rfl rfl rfl rfl ?_
    refine v_nil ?_
    refine q_bn ?_
    refine q_n ?_
    refine w_seq ?_
    refine w_reg rfl ?_
    refine v_move rfl ?_
    refine v_load_pt (.agg [_, _, _]) lay25 rfl rfl rfl rfl ?_
    refine v_lit (flat dce [((([1, 1, 1, 2, 2, 2, 3, 3, 3, 3, 4, 5, 6, 7] : List Int)[q2.toNat]'(by simp; omega), q6, 0) : De)]) (H' := [_, _, _, _, _, _, _, _, _, _, _, _]) lay41 lay25 rfl rfl ⟨by decide, by decide⟩ rfl rfl ?_
    refine v_app_flat (H' := [_, _, _, _, _, _, _, _, _, _, _, _, _]) dce_sc dce_len lay41 lay25 rfl rfl (by first | rfl | (simp; done) | (simp; omega) | omega | (rw [bg_l (by omega)])) rfl rfl (by first | rfl | (simp; done)) rfl rfl (by unfold maxLen; simp only []; omega) rfl rfl ?_
    refine v_assign rfl ?_
    refine v_nil ?_
    refine q_n ?_
    refine w_reg rfl ?_
    refine v_move rfl ?_
    refine v_load_pt (.agg [_, _, _]) lay25 rfl rfl rfl rfl ?_
    have hdd : dOk ((([1, 1, 1, 2, 2, 2, 3, 3, 3, 3, 4, 5, 6, 7] : List Int)[q2.toNat]'(by simp; omega), q6, 0) : De) := ⟨⟨hK.1, hK.2⟩, ⟨(by omega : (0 : Int) ≤ q6), (by omega : q6 ≤ 999)⟩, ⟨(by omega : (0 : Int) ≤ 0), (by omega : (0 : Int) ≤ 999)⟩, (by omega : ([1, 1, 1, 2, 2, 2, 3, 3, 3, 3, 4, 5, 6, 7] : List Int)[q2.toNat]'(by simp; omega) = 1 ∨ (0 : Int) = 0)⟩
    refine v_graph2 (ι := Bd × Int) (q1 := fun x => doB p b ((([1, 1, 1, 2, 2, 2, 3, 3, 3, 3, 4, 5, 6, 7] : List Int)[q2.toNat]'(by simp; omega), q6, 0) : De) = x) (q2 := fun x => doB p b ((([1, 1, 1, 2, 2, 2, 3, 3, 3, 3, 4, 5, 6, 7] : List Int)[q2.toNat]'(by simp; omega), q6, 0) : De) = x) (R1 := fun x => cI x.2) (R2 := fun x => cI x.2) (L1 := fun x => doH p x.1) (L2 := fun x => doH2 p x.1) [0, 3, 4, 5, 6, 7, 8] (fun x => cI x.2) (fun x => cI x.2) (fun x => [⟨[.v (.int .i64 p), .any], 33, true⟩, ⟨[.pt 0 0, .mu 4 0 x.1.nw.length 2, .mu 5 0 x.1.ps.length 2, .mu 6 0 x.1.sv.length 2, .mu 7 0 x.1.kn.length 1, .mu 8 0 x.1.wr.length 4], 90, true⟩, ⟨flat pe x.1.nw, 46, true⟩, ⟨flat pe x.1.ps, 46, true⟩, ⟨flat pe x.1.sv, 46, true⟩, ⟨flat int x.1.kn, 2, true⟩, ⟨flat nce x.1.wr, 101, true⟩]) (fun x => [⟨[.v (.int .i64 p), .any], 33, true⟩, ⟨[.pt 0 0, .mu 4 0 x.1.nw.length 2, .mu 5 0 x.1.ps.length 2, .mu 6 0 x.1.sv.length 2, .mu 7 0 x.1.kn.length 1, .mu 13 0 x.1.wr.length 4], 90, true⟩, ⟨flat pe x.1.nw, 46, true⟩, ⟨flat pe x.1.ps, 46, true⟩, ⟨flat pe x.1.sv, 46, true⟩, ⟨flat int x.1.kn, 2, true⟩, ⟨[], 101, false⟩, ⟨flat nce x.1.wr, 101, true⟩]) (fun x => [⟨[.v (.int .i64 p), .any], 33, true⟩, _, _, ⟨[.pt 0 0, .mu 4 0 x.1.nw.length 2, .mu 5 0 x.1.ps.length 2, .mu 6 0 x.1.sv.length 2, .mu 7 0 x.1.kn.length 1, .mu 8 0 x.1.wr.length 4], 90, true⟩, ⟨flat pe x.1.nw, 46, true⟩, ⟨flat pe x.1.ps, 46, true⟩, ⟨flat pe x.1.sv, 46, true⟩, ⟨flat int x.1.kn, 2, true⟩, ⟨flat nce x.1.wr, 101, true⟩, _, _, _, _]) (fun x => [⟨[.v (.int .i64 p), .any], 33, true⟩, _, _, ⟨[.pt 0 0, .mu 4 0 x.1.nw.length 2, .mu 5 0 x.1.ps.length 2, .mu 6 0 x.1.sv.length 2, .mu 7 0 x.1.kn.length 1, .mu 13 0 x.1.wr.length 4], 90, true⟩, ⟨flat pe x.1.nw, 46, true⟩, ⟨flat pe x.1.ps, 46, true⟩, ⟨flat pe x.1.sv, 46, true⟩, ⟨flat int x.1.kn, 2, true⟩, ⟨[], 101, false⟩, _, _, _, _, ⟨flat nce x.1.wr, 101, true⟩]) (c84g p fs.length i b ((([1, 1, 1, 2, 2, 2, 3, 3, 3, 3, 4, 5, 6, 7] : List Int)[q2.toNat]'(by simp; omega), q6, 0) : De) hok hdd (by omega) (by omega)) (by decide) ⟨⟨_, rfl, rfl, .cons (.dn .v rfl) (.cons (.dn .any rfl) .nil)⟩, ⟨_, rfl, rfl, .cons (.pt rfl) (.cons (.mu rfl) (.cons (.mu rfl) (.cons (.mu rfl) (.cons (.mu rfl) (.cons (.mu rfl) .nil)))))⟩, ⟨_, rfl, rfl, .sc (sc_flat pe_sc _)⟩, ⟨_, rfl, rfl, .sc (sc_flat pe_sc _)⟩, ⟨_, rfl, rfl, .sc (sc_flat pe_sc _)⟩, ⟨_, rfl, rfl, .sc (sc_flat int_sc _)⟩, ⟨_, rfl, rfl, .sc (sc_flat nce_sc _)⟩, trivial⟩ rfl rfl (.cons (.c (.pt rfl)) (.cons (.agg (.cons (.dn .v rfl) (.cons (.dn .v rfl) (.cons (.dn .v rfl) .nil)))) .nil)) (fun x => rfl) (fun x => rfl) (fun x => ⟨rfl, rfl, rn_flat pe_sc, rn_flat pe_sc, rn_flat pe_sc, rn_flat int_sc, rn_flat nce_sc, trivial⟩) (fun x => ⟨rfl, rfl, rn_flat pe_sc, rn_flat pe_sc, rn_flat pe_sc, rn_flat int_sc, rfl, rn_flat nce_sc, trivial⟩) (fun x => rfl) (fun x => rfl) (fun x => gdo1 p x) (fun x => gdo2 p x) ?_ ?_
    · rintro ⟨b1, c1⟩ hdo
      refine v_nil ?_
      refine q_bn ?_
      refine q_n ?_
      refine w_reg rfl ?_
      refine v_move rfl ?_
      refine v_sub lay2 rfl rfl (i64r (by omega)) ?_
      refine v_assign rfl ?_
      refine v_nil ?_
      refine q_n ?_
      have hxo := ok_do hok hdd hdo
      refine ⟨_, _, _, ?_, ⟨j - 1, i + 1, es ++ [((([1, 1, 1, 2, 2, 2, 3, 3, 3, 3, 4, 5, 6, 7] : List Int)[q2.toNat]'(by simp; omega), q6, 0) : De)], a6, s6, b1, rfl, by simp; omega, by simp [hie], fun x hx => ?_, ?_, ?_, hxo, rfl, rfl⟩, by omega⟩
      · exact turn [some 0, some 1, some 12, some 3, some 4, some 5, some 6, some 7, some 8] rfl rfl rfl ⟨⟨_, rfl, .cons tr_v (.cons (.c (.dn .any)) .nil)⟩, ⟨_, rfl, .cons tr_sl (.cons tr_v (.cons tr_v .nil))⟩, ⟨_, rfl, trc_flat dce_sc rfl⟩, ⟨_, rfl, .cons (tr_pt rfl) (.cons (tr_mun rfl rfl) (.cons (tr_mun rfl rfl) (.cons (tr_mun rfl rfl) (.cons (tr_mun rfl rfl) (.cons (tr_mun rfl rfl) .nil)))))⟩, ⟨_, rfl, trc_flat pe_sc rfl⟩, ⟨_, rfl, trc_flat pe_sc rfl⟩, ⟨_, rfl, trc_flat pe_sc rfl⟩, ⟨_, rfl, trc_flat int_sc rfl⟩, ⟨_, rfl, trc_flat nce_sc rfl⟩, trivial⟩ ⟨tr_pt rfl, tr_pt rfl, tr_mun rfl (by simp), tr_pt rfl, tr_v, tr_i (by omega), trivial⟩
      · rcases List.mem_append.1 hx with hx | hx
        · exact hes x hx
        · simp only [List.mem_singleton] at hx
          subst hx
          exact hdd
      · omega
      · simp; omega
    rintro ⟨b1, c1⟩ hdo
    refine v_nil ?_
    refine q_bn ?_
    refine q_n ?_
    refine w_reg rfl ?_
    refine v_move rfl ?_
    refine v_sub lay2 rfl rfl (i64r (by omega)) ?_
    refine v_assign rfl ?_
    refine v_nil ?_
    refine q_n ?_
    have hxo := ok_do hok hdd hdo
    refine ⟨_, _, _, ?_, ⟨j - 1, i + 1, es ++ [((([1, 1, 1, 2, 2, 2, 3, 3, 3, 3, 4, 5, 6, 7] : List Int)[q2.toNat]'(by simp; omega), q6, 0) : De)], a6, s6, b1, rfl, by simp; omega, by simp [hie], fun x hx => ?_, ?_, ?_, hxo, rfl, rfl⟩, by omega⟩
    · exact turn [some 0, some 1, some 12, some 3, some 4, some 5, some 6, some 7, some 13] rfl rfl rfl ⟨⟨_, rfl, .cons tr_v (.cons (.c (.dn .any)) .nil)⟩, ⟨_, rfl, .cons tr_sl (.cons tr_v (.cons tr_v .nil))⟩, ⟨_, rfl, trc_flat dce_sc rfl⟩, ⟨_, rfl, .cons (tr_pt rfl) (.cons (tr_mun rfl rfl) (.cons (tr_mun rfl rfl) (.cons (tr_mun rfl rfl) (.cons (tr_mun rfl rfl) (.cons (tr_mun rfl rfl) .nil)))))⟩, ⟨_, rfl, trc_flat pe_sc rfl⟩, ⟨_, rfl, trc_flat pe_sc rfl⟩, ⟨_, rfl, trc_flat pe_sc rfl⟩, ⟨_, rfl, trc_flat int_sc rfl⟩, ⟨_, rfl, trc_flat nce_sc rfl⟩, trivial⟩ ⟨tr_pt rfl, tr_pt rfl, tr_mun rfl (by simp), tr_pt rfl, tr_v, tr_i (by omega), trivial⟩
    · rcases List.mem_append.1 hx with hx | hx
      · exact hes x hx
      · simp only [List.mem_singleton] at hx
        subst hx
        exact hdd
    · omega
    · simp; omega
  refine v_assign rfl ?_
  refine v_nil ?_
  refine q_n ?_
  refine w_f rfl ?_
  refine w_reg rfl ?_
  refine v_eql lay2 rfl rfl (fun h8 => ?_) (fun h8 => ?_)
  rotate_left
  · refine v_assign rfl ?_
    refine v_nil ?_
    refine q_n ?_
    refine w_f rfl ?_
    refine w_skip ?_
    refine q_bn ?_
    refine q_n ?_
    refine w_seq ?_
    refine w_reg rfl ?_
    refine v_move rfl ?_
    refine v_load_pt (.agg [_, _, _]) lay25 rfl rfl rfl rfl ?_
    refine v_lit (flat dce [((([1, 1, 1, 2, 2, 2, 3, 3, 3, 3, 4, 5, 6, 7] : List Int)[q2.toNat]'(by simp; omega), q3, 0) : De)]) (H' := [_, _, _, _, _, _, _, _, _, _, _, _]) lay41 lay25 rfl rfl ⟨by decide, by decide⟩ rfl rfl ?_
    refine v_app_flat (H' := [_, _, _, _, _, _, _, _, _, _, _, _, _]) dce_sc dce_len lay41 lay25 rfl rfl (by first | rfl | (simp; done) | (simp; omega) | omega | (rw [bg_l (by omega)])) rfl rfl (by first | rfl | (simp; done)) rfl rfl (by unfold maxLen; simp only []; omega) rfl rfl ?_
    refine v_assign rfl ?_
    refine v_nil ?_
    refine q_n ?_
    refine w_reg rfl ?_
    refine v_move rfl ?_
    refine v_load_pt (.agg [_, _, _]) lay25 rfl rfl rfl rfl ?_
    have hdd : dOk ((([1, 1, 1, 2, 2, 2, 3, 3, 3, 3, 4, 5, 6, 7] : List Int)[q2.toNat]'(by simp; omega), q3, 0) : De) := ⟨⟨hK.1, hK.2⟩, ⟨(by omega : (0 : Int) ≤ q3), (by omega : q3 ≤ 999)⟩, ⟨(by omega : (0 : Int) ≤ 0), (by omega : (0 : Int) ≤ 999)⟩, (by omega : ([1, 1, 1, 2, 2, 2, 3, 3, 3, 3, 4, 5, 6, 7] : List Int)[q2.toNat]'(by simp; omega) = 1 ∨ (0 : Int) = 0)⟩
    refine v_graph2 (ι := Bd × Int) (q1 := fun x => doB p b ((([1, 1, 1, 2, 2, 2, 3, 3, 3, 3, 4, 5, 6, 7] : List Int)[q2.toNat]'(by simp; omega), q3, 0) : De) = x) (q2 := fun x => doB p b ((([1, 1, 1, 2, 2, 2, 3, 3, 3, 3, 4, 5, 6, 7] : List Int)[q2.toNat]'(by simp; omega), q3, 0) : De) = x) (R1 := fun x => cI x.2) (R2 := fun x => cI x.2) (L1 := fun x => doH p x.1) (L2 := fun x => doH2 p x.1) [0, 3, 4, 5, 6, 7, 8] (fun x => cI x.2) (fun x => cI x.2) (fun x => [⟨[.v (.int .i64 p), .any], 33, true⟩, ⟨[.pt 0 0, .mu 4 0 x.1.nw.length 2, .mu 5 0 x.1.ps.length 2, .mu 6 0 x.1.sv.length 2, .mu 7 0 x.1.kn.length 1, .mu 8 0 x.1.wr.length 4], 90, true⟩, ⟨flat pe x.1.nw, 46, true⟩, ⟨flat pe x.1.ps, 46, true⟩, ⟨flat pe x.1.sv, 46, true⟩, ⟨flat int x.1.kn, 2, true⟩, ⟨flat nce x.1.wr, 101, true⟩]) (fun x => [⟨[.v (.int .i64 p), .any], 33, true⟩, ⟨[.pt 0 0, .mu 4 0 x.1.nw.length 2, .mu 5 0 x.1.ps.length 2, .mu 6 0 x.1.sv.length 2, .mu 7 0 x.1.kn.length 1, .mu 13 0 x.1.wr.length 4], 90, true⟩, ⟨flat pe x.1.nw, 46, true⟩, ⟨flat pe x.1.ps, 46, true⟩, ⟨flat pe x.1.sv, 46, true⟩, ⟨flat int x.1.kn, 2, true⟩, ⟨[], 101, false⟩, ⟨flat nce x.1.wr, 101, true⟩]) (fun x => [⟨[.v (.int .i64 p), .any], 33, true⟩, _, _, ⟨[.pt 0 0, .mu 4 0 x.1.nw.length 2, .mu 5 0 x.1.ps.length 2, .mu 6 0 x.1.sv.length 2, .mu 7 0 x.1.kn.length 1, .mu 8 0 x.1.wr.length 4], 90, true⟩, ⟨flat pe x.1.nw, 46, true⟩, ⟨flat pe x.1.ps, 46, true⟩, ⟨flat pe x.1.sv, 46, true⟩, ⟨flat int x.1.kn, 2, true⟩, ⟨flat nce x.1.wr, 101, true⟩, _, _, _, _]) (fun x => [⟨[.v (.int .i64 p), .any], 33, true⟩, _, _, ⟨[.pt 0 0, .mu 4 0 x.1.nw.length 2, .mu 5 0 x.1.ps.length 2, .mu 6 0 x.1.sv.length 2, .mu 7 0 x.1.kn.length 1, .mu 13 0 x.1.wr.length 4], 90, true⟩, ⟨flat pe x.1.nw, 46, true⟩, ⟨flat pe x.1.ps, 46, true⟩, ⟨flat pe x.1.sv, 46, true⟩, ⟨flat int x.1.kn, 2, true⟩, ⟨[], 101, false⟩, _, _, _, _, ⟨flat nce x.1.wr, 101, true⟩]) (c84g p fs.length i b ((([1, 1, 1, 2, 2, 2, 3, 3, 3, 3, 4, 5, 6, 7] : List Int)[q2.toNat]'(by simp; omega), q3, 0) : De) hok hdd (by omega) (by omega)) (by decide) ⟨⟨_, rfl, rfl, .cons (.dn .v rfl) (.cons (.dn .any rfl) .nil)⟩, ⟨_, rfl, rfl, .cons (.pt rfl) (.cons (.mu rfl) (.cons (.mu rfl) (.cons (.mu rfl) (.cons (.mu rfl) (.cons (.mu rfl) .nil)))))⟩, ⟨_, rfl, rfl, .sc (sc_flat pe_sc _)⟩, ⟨_, rfl, rfl, .sc (sc_flat pe_sc _)⟩, ⟨_, rfl, rfl, .sc (sc_flat pe_sc _)⟩, ⟨_, rfl, rfl, .sc (sc_flat int_sc _)⟩, ⟨_, rfl, rfl, .sc (sc_flat nce_sc _)⟩, trivial⟩ rfl rfl (.cons (.c (.pt rfl)) (.cons (.agg (.cons (.dn .v rfl) (.cons (.dn .v rfl) (.cons (.dn .v rfl) .nil)))) .nil)) (fun x => rfl) (fun x => rfl) (fun x => ⟨rfl, rfl, rn_flat pe_sc, rn_flat pe_sc, rn_flat pe_sc, rn_flat int_sc, rn_flat nce_sc, trivial⟩) (fun x => ⟨rfl, rfl, rn_flat pe_sc, rn_flat pe_sc, rn_flat pe_sc, rn_flat int_sc, rfl, rn_flat nce_sc, trivial⟩) (fun x => rfl) (fun x => rfl) (fun x => gdo1 p x) (fun x => gdo2 p x) ?_ ?_
    · rintro ⟨b1, c1⟩ hdo
      refine v_nil ?_
      refine q_bn ?_
      refine q_n ?_
      refine w_reg rfl ?_
      refine v_move rfl ?_
      refine v_sub lay2 rfl rfl (i64r (by omega)) ?_
      refine v_assign rfl ?_
      refine v_nil ?_
      refine q_n ?_
      have hxo := ok_do hok hdd hdo
      refine ⟨_, _, _, ?_, ⟨j - 1, i + 1, es ++ [((([1, 1, 1, 2, 2, 2, 3, 3, 3, 3, 4, 5, 6, 7] : List Int)[q2.toNat]'(by simp; omega), q3, 0) : De)], a3, s3, b1, rfl, by simp; omega, by simp [hie], fun x hx => ?_, ?_, ?_, hxo, rfl, rfl⟩, by omega⟩
      · exact turn [some 0, some 1, some 12, some 3, some 4, some 5, some 6, some 7, some 8] rfl rfl rfl ⟨⟨_, rfl, .cons tr_v (.cons (.c (.dn .any)) .nil)⟩, ⟨_, rfl, .cons tr_sl (.cons tr_v (.cons tr_v .nil))⟩, ⟨_, rfl, trc_flat dce_sc rfl⟩, ⟨_, rfl, .cons (tr_pt rfl) (.cons (tr_mun rfl rfl) (.cons (tr_mun rfl rfl) (.cons (tr_mun rfl rfl) (.cons (tr_mun rfl rfl) (.cons (tr_mun rfl rfl) .nil)))))⟩, ⟨_, rfl, trc_flat pe_sc rfl⟩, ⟨_, rfl, trc_flat pe_sc rfl⟩, ⟨_, rfl, trc_flat pe_sc rfl⟩, ⟨_, rfl, trc_flat int_sc rfl⟩, ⟨_, rfl, trc_flat nce_sc rfl⟩, trivial⟩ ⟨tr_pt rfl, tr_pt rfl, tr_mun rfl (by simp), tr_pt rfl, tr_v, tr_i (by omega), trivial⟩
      · rcases List.mem_append.1 hx with hx | hx
        · exact hes x hx
        · simp only [List.mem_singleton] at hx
          subst hx
          exact hdd
      · omega
      · simp; omega
    rintro ⟨b1, c1⟩ hdo
    refine v_nil ?_
    refine q_bn ?_
    refine q_n ?_
    refine w_reg rfl ?_
    refine v_move rfl ?_
    refine v_sub lay2 rfl rfl (i64r (by omega)) ?_
    refine v_assign rfl ?_
    refine v_nil ?_
    refine q_n ?_
    have hxo := ok_do hok hdd hdo
    refine ⟨_, _, _, ?_, ⟨j - 1, i + 1, es ++ [((([1, 1, 1, 2, 2, 2, 3, 3, 3, 3, 4, 5, 6, 7] : List Int)[q2.toNat]'(by simp; omega), q3, 0) : De)], a3, s3, b1, rfl, by simp; omega, by simp [hie], fun x hx => ?_, ?_, ?_, hxo, rfl, rfl⟩, by omega⟩
    · exact turn [some 0, some 1, some 12, some 3, some 4, some 5, some 6, some 7, some 13] rfl rfl rfl ⟨⟨_, rfl, .cons tr_v (.cons (.c (.dn .any)) .nil)⟩, ⟨_, rfl, .cons tr_sl (.cons tr_v (.cons tr_v .nil))⟩, ⟨_, rfl, trc_flat dce_sc rfl⟩, ⟨_, rfl, .cons (tr_pt rfl) (.cons (tr_mun rfl rfl) (.cons (tr_mun rfl rfl) (.cons (tr_mun rfl rfl) (.cons (tr_mun rfl rfl) (.cons (tr_mun rfl rfl) .nil)))))⟩, ⟨_, rfl, trc_flat pe_sc rfl⟩, ⟨_, rfl, trc_flat pe_sc rfl⟩, ⟨_, rfl, trc_flat pe_sc rfl⟩, ⟨_, rfl, trc_flat int_sc rfl⟩, ⟨_, rfl, trc_flat nce_sc rfl⟩, trivial⟩ ⟨tr_pt rfl, tr_pt rfl, tr_mun rfl (by simp), tr_pt rfl, tr_v, tr_i (by omega), trivial⟩
    · rcases List.mem_append.1 hx with hx | hx
      · exact hes x hx
      · simp only [List.mem_singleton] at hx
        subst hx
        exact hdd
    · omega
    · simp; omega
  refine v_assign rfl ?_
  refine v_nil ?_
  refine q_n ?_
  refine w_t rfl ?_
  refine w_reg rfl ?_
  refine v_move rfl ?_
  refine v_move rfl ?_
  refine v_nil_pt rfl ?_
  refine v_fa_pt (off' := 1) lay90 rfl rfl rfl ?_
  refine v_fa_pt (off' := 5) lay64 rfl rfl rfl ?_
  refine v_load_pt (.c _) lay62 rfl rfl rfl rfl ?_
  refine v_len_mu lay62 rfl ?_
  refine v_call (c98 _ _) rfl rfl rfl (.cons vw_v (.cons vw_v .nil)) ?_
  refine v_pick (fun a' s' => [_, srcO _ a' s', _, _, _, _, _, _, _, _, _]) rfl hc (by omega) ⟨by omega, by omega⟩ (by omega) rfl rfl (fun a' s' => rfl) ?_
  intro q7 a7 s7 hq7 ha7
  refine v_fa_pt (off' := 1) lay25 rfl rfl rfl ?_
  refine v_store (H' := [_, _, _, _, _, _, _, _, _, _, ⟨[_, _, _], 25, true⟩]) lay2 rfl rfl rfl rfl rfl rfl ?_
  refine v_nil ?_
  refine q_bn ?_
  refine q_n ?_
  refine w_seq ?_
  refine w_reg rfl ?_
  refine v_move rfl ?_
  refine v_load_pt (.agg [_, _, _]) lay25 rfl rfl rfl rfl ?_
  refine v_lit (flat dce [((([1, 1, 1, 2, 2, 2, 3, 3, 3, 3, 4, 5, 6, 7] : List Int)[q2.toNat]'(by simp; omega), q7, 0) : De)]) (H' := [_, _, _, _, _, _, _, _, _, _, _, _]) lay41 lay25 rfl rfl ⟨by decide, by decide⟩ rfl rfl ?_
  refine v_app_flat (H' := [_, _, _, _, _, _, _, _, _, _, _, _, _]) dce_sc dce_len lay41 lay25 rfl rfl (by first | rfl | (simp; done) | (simp; omega) | omega | (rw [bg_l (by omega)])) rfl rfl (by first | rfl | (simp; done)) rfl rfl (by unfold maxLen; simp only []; omega) rfl rfl ?_
  refine v_assign rfl ?_
  refine v_nil ?_
  refine q_n ?_
  refine w_reg rfl ?_
  refine v_move rfl ?_
  refine v_load_pt (.agg [_, _, _]) lay25 rfl rfl rfl rfl ?_
  have hdd : dOk ((([1, 1, 1, 2, 2, 2, 3, 3, 3, 3, 4, 5, 6, 7] : List Int)[q2.toNat]'(by simp; omega), q7, 0) : De) := ⟨⟨hK.1, hK.2⟩, ⟨(by omega : (0 : Int) ≤ q7), (by omega : q7 ≤ 999)⟩, ⟨(by omega : (0 : Int) ≤ 0), (by omega : (0 : Int) ≤ 999)⟩, (by omega : ([1, 1, 1, 2, 2, 2, 3, 3, 3, 3, 4, 5, 6, 7] : List Int)[q2.toNat]'(by simp; omega) = 1 ∨ (0 : Int) = 0)⟩
  refine v_graph2 (ι := Bd × Int) (q1 := fun x => doB p b ((([1, 1, 1, 2, 2, 2, 3, 3, 3, 3, 4, 5, 6, 7] : List Int)[q2.toNat]'(by simp; omega), q7, 0) : De) = x) (q2 := fun x => doB p b ((([1, 1, 1, 2, 2, 2, 3, 3, 3, 3, 4, 5, 6, 7] : List Int)[q2.toNat]'(by simp; omega), q7, 0) : De) = x) (R1 := fun x => cI x.2) (R2 := fun x => cI x.2) (L1 := fun x => doH p x.1) (L2 := fun x => doH2 p x.1) [0, 3, 4, 5, 6, 7, 8] (fun x => cI x.2) (fun x => cI x.2) (fun x => [⟨[.v (.int .i64 p), .any], 33, true⟩, ⟨[.pt 0 0, .mu 4 0 x.1.nw.length 2, .mu 5 0 x.1.ps.length 2, .mu 6 0 x.1.sv.length 2, .mu 7 0 x.1.kn.length 1, .mu 8 0 x.1.wr.length 4], 90, true⟩, ⟨flat pe x.1.nw, 46, true⟩, ⟨flat pe x.1.ps, 46, true⟩, ⟨flat pe x.1.sv, 46, true⟩, ⟨flat int x.1.kn, 2, true⟩, ⟨flat nce x.1.wr, 101, true⟩]) (fun x => [⟨[.v (.int .i64 p), .any], 33, true⟩, ⟨[.pt 0 0, .mu 4 0 x.1.nw.length 2, .mu 5 0 x.1.ps.length 2, .mu 6 0 x.1.sv.length 2, .mu 7 0 x.1.kn.length 1, .mu 13 0 x.1.wr.length 4], 90, true⟩, ⟨flat pe x.1.nw, 46, true⟩, ⟨flat pe x.1.ps, 46, true⟩, ⟨flat pe x.1.sv, 46, true⟩, ⟨flat int x.1.kn, 2, true⟩, ⟨[], 101, false⟩, ⟨flat nce x.1.wr, 101, true⟩]) (fun x => [⟨[.v (.int .i64 p), .any], 33, true⟩, _, _, ⟨[.pt 0 0, .mu 4 0 x.1.nw.length 2, .mu 5 0 x.1.ps.length 2, .mu 6 0 x.1.sv.length 2, .mu 7 0 x.1.kn.length 1, .mu 8 0 x.1.wr.length 4], 90, true⟩, ⟨flat pe x.1.nw, 46, true⟩, ⟨flat pe x.1.ps, 46, true⟩, ⟨flat pe x.1.sv, 46, true⟩, ⟨flat int x.1.kn, 2, true⟩, ⟨flat nce x.1.wr, 101, true⟩, _, _, _, _]) (fun x => [⟨[.v (.int .i64 p), .any], 33, true⟩, _, _, ⟨[.pt 0 0, .mu 4 0 x.1.nw.length 2, .mu 5 0 x.1.ps.length 2, .mu 6 0 x.1.sv.length 2, .mu 7 0 x.1.kn.length 1, .mu 13 0 x.1.wr.length 4], 90, true⟩, ⟨flat pe x.1.nw, 46, true⟩, ⟨flat pe x.1.ps, 46, true⟩, ⟨flat pe x.1.sv, 46, true⟩, ⟨flat int x.1.kn, 2, true⟩, ⟨[], 101, false⟩, _, _, _, _, ⟨flat nce x.1.wr, 101, true⟩]) (c84g p fs.length i b ((([1, 1, 1, 2, 2, 2, 3, 3, 3, 3, 4, 5, 6, 7] : List Int)[q2.toNat]'(by simp; omega), q7, 0) : De) hok hdd (by omega) (by omega)) (by decide) ⟨⟨_, rfl, rfl, .cons (.dn .v rfl) (.cons (.dn .any rfl) .nil)⟩, ⟨_, rfl, rfl, .cons (.pt rfl) (.cons (.mu rfl) (.cons (.mu rfl) (.cons (.mu rfl) (.cons (.mu rfl) (.cons (.mu rfl) .nil)))))⟩, ⟨_, rfl, rfl, .sc (sc_flat pe_sc _)⟩, ⟨_, rfl, rfl, .sc (sc_flat pe_sc _)⟩, ⟨_, rfl, rfl, .sc (sc_flat pe_sc _)⟩, ⟨_, rfl, rfl, .sc (sc_flat int_sc _)⟩, ⟨_, rfl, rfl, .sc (sc_flat nce_sc _)⟩, trivial⟩ rfl rfl (.cons (.c (.pt rfl)) (.cons (.agg (.cons (.dn .v rfl) (.cons (.dn .v rfl) (.cons (.dn .v rfl) .nil)))) .nil)) (fun x => rfl) (fun x => rfl) (fun x => ⟨rfl, rfl, rn_flat pe_sc, rn_flat pe_sc, rn_flat pe_sc, rn_flat int_sc, rn_flat nce_sc, trivial⟩) (fun x => ⟨rfl, rfl, rn_flat pe_sc, rn_flat pe_sc, rn_flat pe_sc, rn_flat int_sc, rfl, rn_flat nce_sc, trivial⟩) (fun x => rfl) (fun x => rfl) (fun x => gdo1 p x) (fun x => gdo2 p x) ?_ ?_
  · rintro ⟨b1, c1⟩ hdo
    refine v_nil ?_
    refine q_bn ?_
    refine q_n ?_
    refine w_reg rfl ?_
    refine v_move rfl ?_
    refine v_sub lay2 rfl rfl (i64r (by omega)) ?_
    refine v_assign rfl ?_
    refine v_nil ?_
    refine q_n ?_
    have hxo := ok_do hok hdd hdo
    refine ⟨_, _, _, ?_, ⟨j - 1, i + 1, es ++ [((([1, 1, 1, 2, 2, 2, 3, 3, 3, 3, 4, 5, 6, 7] : List Int)[q2.toNat]'(by simp; omega), q7, 0) : De)], a7, s7, b1, rfl, by simp; omega, by simp [hie], fun x hx => ?_, ?_, ?_, hxo, rfl, rfl⟩, by omega⟩
    · exact turn [some 0, some 1, some 12, some 3, some 4, some 5, some 6, some 7, some 8] rfl rfl rfl ⟨⟨_, rfl, .cons tr_v (.cons (.c (.dn .any)) .nil)⟩, ⟨_, rfl, .cons tr_sl (.cons tr_v (.cons tr_v .nil))⟩, ⟨_, rfl, trc_flat dce_sc rfl⟩, ⟨_, rfl, .cons (tr_pt rfl) (.cons (tr_mun rfl rfl) (.cons (tr_mun rfl rfl) (.cons (tr_mun rfl rfl) (.cons (tr_mun rfl rfl) (.cons (tr_mun rfl rfl) .nil)))))⟩, ⟨_, rfl, trc_flat pe_sc rfl⟩, ⟨_, rfl, trc_flat pe_sc rfl⟩, ⟨_, rfl, trc_flat pe_sc rfl⟩, ⟨_, rfl, trc_flat int_sc rfl⟩, ⟨_, rfl, trc_flat nce_sc rfl⟩, trivial⟩ ⟨tr_pt rfl, tr_pt rfl, tr_mun rfl (by simp), tr_pt rfl, tr_v, tr_i (by omega), trivial⟩
    · rcases List.mem_append.1 hx with hx | hx
      · exact hes x hx
      · simp only [List.mem_singleton] at hx
        subst hx
        exact hdd
    · omega
    · simp; omega
  rintro ⟨b1, c1⟩ hdo
  refine v_nil ?_
  refine q_bn ?_
  refine q_n ?_
  refine w_reg rfl ?_
  refine v_move rfl ?_
  refine v_sub lay2 rfl rfl (i64r (by omega)) ?_
  refine v_assign rfl ?_
  refine v_nil ?_
  refine q_n ?_
  have hxo := ok_do hok hdd hdo
  refine ⟨_, _, _, ?_, ⟨j - 1, i + 1, es ++ [((([1, 1, 1, 2, 2, 2, 3, 3, 3, 3, 4, 5, 6, 7] : List Int)[q2.toNat]'(by simp; omega), q7, 0) : De)], a7, s7, b1, rfl, by simp; omega, by simp [hie], fun x hx => ?_, ?_, ?_, hxo, rfl, rfl⟩, by omega⟩
  · exact turn [some 0, some 1, some 12, some 3, some 4, some 5, some 6, some 7, some 13] rfl rfl rfl ⟨⟨_, rfl, .cons tr_v (.cons (.c (.dn .any)) .nil)⟩, ⟨_, rfl, .cons tr_sl (.cons tr_v (.cons tr_v .nil))⟩, ⟨_, rfl, trc_flat dce_sc rfl⟩, ⟨_, rfl, .cons (tr_pt rfl) (.cons (tr_mun rfl rfl) (.cons (tr_mun rfl rfl) (.cons (tr_mun rfl rfl) (.cons (tr_mun rfl rfl) (.cons (tr_mun rfl rfl) .nil)))))⟩, ⟨_, rfl, trc_flat pe_sc rfl⟩, ⟨_, rfl, trc_flat pe_sc rfl⟩, ⟨_, rfl, trc_flat pe_sc rfl⟩, ⟨_, rfl, trc_flat int_sc rfl⟩, ⟨_, rfl, trc_flat nce_sc rfl⟩, trivial⟩ ⟨tr_pt rfl, tr_pt rfl, tr_mun rfl (by simp), tr_pt rfl, tr_v, tr_i (by omega), trivial⟩
  · rcases List.mem_append.1 hx with hx | hx
    · exact hes x hx
    · simp only [List.mem_singleton] at hx
      subst hx
      exact hdd
  · omega
  · simp; omega
end Go.VL
