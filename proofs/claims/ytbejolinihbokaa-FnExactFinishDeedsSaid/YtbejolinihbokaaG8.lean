/- The law of the deeds that finish a board, walked. -/
import Derived.Test.YtbejolinihbokaaG7
namespace Go.VL
open Go.RowKit
set_option maxRecDepth 20000
set_option maxHeartbeats 8000000
theorem mk_at {α : Type} {f : Nat → α} {n i : Nat} (h : i < ((List.range n).map f).length) : ((List.range n).map f)[i] = f i := by
  rw [List.getElem_map, List.getElem_range]

theorem c39 (n : Nat) (a : Int) (hx : n ≤ 2 ^ 40) (ha : 0 ≤ a ∧ a ≤ 2 ^ 50) : PureC X 39 [.c (.sl false n 3 (flat dce ((List.range n).map (dmark a)))), cI a] (cI (a + 3 * n)) := by
  refine PureC.of_body (drawD_ok X) (fun _ _ => Go.Proofs.Try.call39 _ _) Go.Proofs.Try.func39 rfl (n := 40) rfl ?_
  refine w_seq ?_
  refine w_reg rfl ?_
  refine v_assign (c := .v (.int .i64 0)) rfl ?_
  refine v_nil ?_
  refine q_n ?_
  refine w_seq ?_
  refine w_seq ?_
  refine w_reg rfl ?_
  refine v_assign (c := .v (.int .i64 0)) rfl ?_
  refine v_nil ?_
  refine q_n ?_
  refine w_block ?_
  refine w_loop (fun k sl H => ∃ i : Nat, k = n - i ∧ i ≤ n ∧ sl = sls [(0, .c (.sl false n 3 (flat dce ((List.range n).map (dmark a))))), (1, cI (a + 3 * i)), (5, cI i)] ∧ H = []) ?_ ?_
  · refine ⟨_, _, _, ?_, 0, rfl, Nat.zero_le _, rfl, rfl⟩
    exact turn0 ⟨tr_sl, tr_i (by simp), tr_v, trivial⟩
  rintro k sl H ⟨i, rfl, hi, rfl, rfl⟩
  refine w_seq ?_
  refine w_seq ?_
  refine w_reg rfl ?_
  refine v_move rfl ?_
  refine v_move rfl ?_
  refine v_len_sl lay41 rfl ?_
  refine v_lss lay3 rfl rfl (fun h1 => ?_) (fun h1 => ?_)
  rotate_left
  · refine v_nil ?_
    refine q_n ?_
    refine w_f rfl ?_
    refine w_exit ?_
    refine q_e ?_
    refine q_e ?_
    refine q_hit ?_
    refine q_n ?_
    refine w_seq ?_
    refine w_reg rfl ?_
    refine v_move rfl ?_
    refine v_assign rfl ?_
    refine v_nil ?_
    refine q_n ?_
    refine w_ret ?_
    refine r_r rfl ?_
    obtain rfl : i = n := by omega
    exact a_i rfl
  refine v_nil ?_
  refine q_n ?_
  refine w_t rfl ?_
  refine w_skip ?_
  refine q_n ?_
  refine w_seq ?_
  refine w_block ?_
  refine w_seq ?_
  refine w_seq ?_
  refine w_reg rfl ?_
  refine v_move rfl ?_
  refine v_move rfl ?_
  refine v_idx_e (k := 3) (i) dce_len lay41 lay25 rfl rfl rfl (by simp) rfl (rfl) (by simp; omega) ?_
  refine v_fa_vw (off' := 0) lay25 rfl rfl rfl ?_
  refine v_load_vw (.c (.v _)) lay2 rfl rfl rfl ?_
  refine v_move rfl ?_
  refine v_neq lay2 rfl rfl (fun h3 => ?_) (fun h3 => ?_)
  · exact absurd (by rw [mk_at]; rfl) h3
  refine v_nil ?_
  refine q_n ?_
  refine w_f rfl ?_
  refine w_skip ?_
  refine q_n ?_
  refine w_seq ?_
  refine w_reg rfl ?_
  refine v_move rfl ?_
  refine v_add lay3 rfl rfl (i64r (by omega)) ?_
  refine v_assign rfl ?_
  refine v_nil ?_
  refine q_n ?_
  refine w_seq ?_
  refine w_seq ?_
  refine w_reg rfl ?_
  refine v_move rfl ?_
  refine v_move rfl ?_
  refine v_idx_e (k := 3) (i) dce_len lay41 lay25 rfl rfl rfl (by simp) rfl (rfl) (by simp; omega) ?_
  refine v_fa_vw (off' := 1) lay25 rfl rfl rfl ?_
  refine v_load_vw (.c (.v _)) lay2 rfl rfl rfl ?_
  refine v_move rfl ?_
  refine v_neq lay2 rfl rfl (fun h5 => ?_) (fun h5 => ?_)
  · exact absurd (by rw [mk_at]; rfl) h5
  refine v_nil ?_
  refine q_n ?_
  refine w_f rfl ?_
  refine w_skip ?_
  refine q_n ?_
  refine w_seq ?_
  refine w_reg rfl ?_
  refine v_move rfl ?_
  refine v_add lay3 rfl rfl (i64r (by omega)) ?_
  refine v_assign rfl ?_
  refine v_nil ?_
  refine q_n ?_
  refine w_seq ?_
  refine w_seq ?_
  refine w_reg rfl ?_
  refine v_move rfl ?_
  refine v_move rfl ?_
  refine v_idx_e (k := 3) (i) dce_len lay41 lay25 rfl rfl rfl (by simp) rfl (rfl) (by simp; omega) ?_
  refine v_fa_vw (off' := 2) lay25 rfl rfl rfl ?_
  refine v_load_vw (.c (.v _)) lay2 rfl rfl rfl ?_
  refine v_move rfl ?_
  refine v_neq lay2 rfl rfl (fun h7 => ?_) (fun h7 => ?_)
  · exact absurd (by rw [mk_at]; rfl) h7
  refine v_nil ?_
  refine q_n ?_
  refine w_f rfl ?_
  refine w_skip ?_
  refine q_n ?_
  refine w_reg rfl ?_
  refine v_move rfl ?_
  refine v_add lay3 rfl rfl (i64r (by omega)) ?_
  refine v_assign rfl ?_
  refine v_nil ?_
  refine q_bn ?_
  refine q_n ?_
  refine w_reg rfl ?_
  refine v_move rfl ?_
  refine v_add lay3 rfl rfl (i64r (by omega)) ?_
  refine v_assign rfl ?_
  refine v_nil ?_
  refine q_n ?_
  refine ⟨_, _, _, ?_, ⟨i + 1, rfl, by omega, rfl, rfl⟩, by omega⟩
  exact turn0 ⟨tr_sl, tr_i (by push_cast; omega), tr_v, trivial⟩

theorem c9 (p : Int) (fs : List Int) (ds : List De) (hx : fs.length ≤ maxLen) (hd : ds.length ≤ maxLen) : PureC X 9 [.agg (cen false p fs), .c (dcs false ds)] (cB true) := by
  refine PureC.of_body (drawD_ok X) (fun _ _ => Go.Proofs.Try.call9 _ _) Go.Proofs.Try.func9 rfl (n := 119) rfl ?_
  refine w_seq ?_
  refine w_reg rfl ?_
  refine v_box (m := 0) (H' := [_]) lay30 rfl rfl rfl ?_
  refine v_assign (c := .v (.bool false)) rfl ?_
  refine v_nil ?_
  refine q_n ?_
  refine w_seq ?_
  refine w_reg rfl ?_
  refine v_assign (c := .v (.int .i64 1048576)) rfl ?_
  refine v_nil ?_
  refine q_n ?_
  refine w_seq ?_
  refine w_reg rfl ?_
  refine v_load_pt (.agg [_, _]) lay30 rfl rfl rfl rfl ?_
  refine v_move rfl ?_
  refine v_call (c15 _ _ _ (by omega) hx) rfl rfl rfl (.cons (vw_agg (.cons vw_v (.cons vw_sl .nil))) (.cons vw_v .nil)) ?_
  refine v_assign rfl ?_
  refine v_nil ?_
  refine q_n ?_
  refine w_seq ?_
  refine w_seq ?_
  refine w_reg rfl ?_
  refine v_move rfl ?_
  refine v_lss lay3 rfl rfl (fun h1 => ?_) (fun h1 => ?_)
  · refine v_nil ?_
    refine q_n ?_
    refine w_t rfl ?_
    refine w_seq ?_
    refine w_reg rfl ?_
    refine v_assign (c := .v (.bool true)) rfl ?_
    refine v_nil ?_
    refine q_n ?_
    refine w_ret (q_r ?_)
    refine r_r rfl ?_
    exact tr_v
  have hx2 : fs.length ≤ 2 ^ 40 := by unfold szr at h1; split at h1 <;> omega
  have hl0 : 0 ≤ szr fs.length 1048576 ∧ szr fs.length 1048576 ≤ 2 ^ 20 := ⟨by omega, by unfold szr; split <;> omega⟩
  refine v_nil ?_
  refine q_n ?_
  refine w_f rfl ?_
  refine w_skip ?_
  refine q_n ?_
  refine w_seq ?_
  refine w_reg rfl ?_
  refine v_move rfl ?_
  refine v_move rfl ?_
  refine v_call (c20 _ _ (by omega) (by assumption)) rfl rfl rfl (.cons vw_sl (.cons vw_v .nil)) ?_
  refine v_assign rfl ?_
  refine v_nil ?_
  refine q_n ?_
  refine w_seq ?_
  refine w_seq ?_
  refine w_reg rfl ?_
  refine v_move rfl ?_
  refine v_lss lay3 rfl rfl (fun h2 => ?_) (fun h2 => ?_)
  · refine v_nil ?_
    refine q_n ?_
    refine w_t rfl ?_
    refine w_seq ?_
    refine w_reg rfl ?_
    refine v_assign (c := .v (.bool true)) rfl ?_
    refine v_nil ?_
    refine q_n ?_
    refine w_ret (q_r ?_)
    refine r_r rfl ?_
    exact tr_v
  have hd2 : ds.length ≤ 2 ^ 40 := by unfold szr at h2 hl0; split at h2 <;> omega
  have hln := fin_len (p := p) (fs := fs) (ds := ds)
  refine v_nil ?_
  refine q_n ?_
  refine w_f rfl ?_
  refine w_skip ?_
  refine q_n ?_
  refine w_seq ?_
  refine w_reg rfl ?_
  refine v_load_pt (.agg [_, _]) lay30 rfl rfl rfl rfl ?_
  refine v_call (c17 _ _ hx2) rfl rfl rfl (.cons (vw_agg (.cons vw_v (.cons vw_sl .nil))) .nil) ?_
  refine v_move rfl ?_
  refine v_call (c22 _ (by omega)) rfl rfl rfl (.cons vw_sl .nil) ?_
  refine v_call (c37 _ _ _ (by omega) (by omega)) rfl rfl rfl (.cons (vw_agg (.cons vw_v (.cons vw_sl .nil))) (.cons vw_sl .nil)) ?_
  refine v_move_t rfl ?_
  refine v_extract_c rfl rfl ?_
  refine v_extract_c rfl rfl ?_
  refine v_assign rfl ?_
  refine v_assign rfl ?_
  refine v_nil ?_
  refine q_n ?_
  refine w_seq ?_
  refine w_reg rfl ?_
  refine v_load_pt (.agg [_, _]) lay30 rfl rfl rfl rfl ?_
  refine v_live1 (N := 1) (H' := [_, _]) (c17l _ _ (by omega)) (sc_flat int_sc _) rfl rfl rfl rfl rfl rfl (.cons (vw_agg (.cons vw_v (.cons vw_sl .nil))) .nil) ?_
  refine v_alloc (m := 2) (H' := [_, _, ⟨[.v _, .v _], 33, true⟩]) lay33 rfl rfl ?_
  refine v_store (H' := [_, _, ⟨[_, _], 33, true⟩]) lay33 rfl rfl rfl rfl rfl rfl ?_
  refine v_nil ?_
  refine q_n ?_
  refine w_seq ?_
  refine w_reg rfl ?_
  refine v_move rfl ?_
  refine v_live1 (N := 3) (H' := [_, _, _, _]) (c22l _ (by omega)) (sc_flat dce_sc _) rfl rfl rfl rfl rfl rfl (.cons vw_sl .nil) ?_
  refine v_assign rfl ?_
  refine v_nil ?_
  refine q_n ?_
  refine w_seq ?_
  refine w_reg rfl ?_
  refine v_load_pt (.agg [_, _]) lay33 rfl rfl rfl rfl ?_
  refine v_move rfl ?_
  refine v_live1 (N := 4) (H' := [_, _, _, _, _]) (c38l _ _ _ (by omega) (by omega)) (sc_flat dce_sc _) rfl rfl rfl rfl rfl rfl (.cons (vw_agg (.cons vw_v (.cons (vw_mu2 int_sc int_len rfl (by first | (simp; done) | (simp; omega))) .nil))) (.cons (vw_mu2 dce_sc dce_len rfl (by first | (simp; done) | (simp; omega))) .nil)) ?_
  refine v_move_t rfl ?_
  refine v_extract_c rfl rfl ?_
  refine v_extract_c rfl rfl ?_
  refine v_assign rfl ?_
  refine v_assign rfl ?_
  refine v_nil ?_
  refine q_n ?_
  refine w_seq ?_
  refine w_seq ?_
  refine w_reg rfl ?_
  refine v_move rfl ?_
  refine v_move rfl ?_
  refine v_callb (c24 _ _ (by omega)) rfl rfl (.cons (vw_mu2 dce_sc dce_len rfl (by first | (simp; done) | (simp; omega))) (.cons vw_sl .nil)) (fun h3 => ?_) (fun h3 => ?_)
  rotate_left
  · exact absurd rfl h3
  refine v_not false rfl rfl ?_
  refine v_move rfl ?_
  refine v_guard_on rfl rfl ?_
  refine v_move rfl ?_
  refine v_guard_on rfl rfl ?_
  refine v_move rfl ?_
  refine v_guard_on rfl rfl ?_
  refine v_neq lay2 rfl rfl (fun h4 => ?_) (fun h4 => ?_)
  · exact absurd rfl h4
  refine v_pick_f rfl rfl ?_
  refine v_nil ?_
  refine q_n ?_
  refine w_f rfl ?_
  refine w_skip ?_
  refine q_n ?_
  refine w_seq ?_
  refine w_seq ?_
  refine w_draw [0, 0, 2, 7, 15] [⟨0, 0, []⟩, ⟨1, 0, []⟩, ⟨2, 0, []⟩, ⟨3, 0, []⟩, ⟨4, 0, []⟩] rfl rfl ?_
  refine d_q rfl rfl rfl rfl rfl ?_
  refine v_load_pt (.agg [_, _]) lay33 rfl rfl rfl rfl ?_
  refine v_nil ?_
  refine d_q rfl rfl rfl rfl rfl ?_
  refine v_load_pt (.agg [_, _]) lay30 rfl rfl rfl rfl ?_
  refine v_nil ?_
  refine d_call (c17 _ _ hx2) rfl rfl rfl rfl rfl (.cons (vw_agg (.cons vw_v (.cons vw_sl .nil))) .nil) ?_
  refine d_callb (c19 _ _ _ _ hx2) rfl rfl rfl rfl (.cons (vw_agg (.cons vw_v (.cons (vw_mu2 int_sc int_len rfl (by first | (simp; done) | (simp; omega))) .nil))) (.cons (vw_agg (.cons vw_v (.cons vw_sl .nil))) .nil)) (fun h5 => ?_) (fun h5 => ?_)
  rotate_left
  · exact absurd ⟨rfl, rfl⟩ h5
  refine d_q rfl rfl rfl rfl rfl ?_
  refine v_not false rfl rfl ?_
  refine v_nil ?_
  refine d_nil ?_
  refine q_n ?_
  refine w_f rfl ?_
  refine w_skip ?_
  refine q_n ?_
  refine w_seq ?_
  refine w_seq ?_
  refine w_reg rfl ?_
  refine v_move rfl ?_
  refine v_move rfl ?_
  refine v_call (c22 _ (by omega)) rfl rfl rfl (.cons vw_sl .nil) ?_
  refine v_callb (c24 _ _ (by omega)) rfl rfl (.cons (vw_mu2 dce_sc dce_len rfl (by first | (simp; done) | (simp; omega))) (.cons vw_sl .nil)) (fun h6 => ?_) (fun h6 => ?_)
  rotate_left
  · exact absurd rfl h6
  refine v_not false rfl rfl ?_
  refine v_nil ?_
  refine q_n ?_
  refine w_f rfl ?_
  refine w_skip ?_
  refine q_n ?_
  refine w_seq ?_
  refine w_reg rfl ?_
  refine v_assign (c := .v (.int .i64 1)) rfl ?_
  refine v_nil ?_
  refine q_n ?_
  refine w_seq ?_
  refine w_reg rfl ?_
  refine v_load_pt (.agg [_, _]) lay33 rfl rfl rfl rfl ?_
  refine v_move rfl ?_
  refine v_inl (n := 10) (drawD_ok X) (fun _ _ => Go.Proofs.Try.call33 _ _) Go.Proofs.Try.func33 rfl rfl rfl rfl ?_
  refine w_seq ?_
  refine w_reg rfl ?_
  refine v_box (m := 5) (H' := [_, _, _, _, _, _]) lay33 rfl rfl rfl ?_
  refine v_assign (c := .v (.int .i64 0)) rfl ?_
  refine v_nil ?_
  refine q_n ?_
  refine w_seq ?_
  refine w_reg rfl ?_
  refine v_fa_pt (off' := 1) lay33 rfl rfl rfl ?_
  refine v_load_pt (.c _) lay28 rfl rfl rfl rfl ?_
  refine v_move rfl ?_
  refine v_mark (H' := [_, _, _, _, _, _]) (c35 _ _ (by omega) (by omega)) rfl (sc_flat int_sc _) (sc_flat int_sc _) rfl rfl rfl rfl ?_
  refine v_assign rfl ?_
  refine v_nil ?_
  refine q_n ?_
  refine w_seq ?_
  refine w_reg rfl ?_
  refine v_move rfl ?_
  refine v_assign rfl ?_
  refine v_nil ?_
  refine q_n ?_
  refine w_ret ?_
  refine r_r rfl ?_
  refine v_assign rfl ?_
  refine v_nil ?_
  refine q_n ?_
  refine w_seq ?_
  refine w_reg rfl ?_
  refine v_move rfl ?_
  refine v_move rfl ?_
  refine v_mark (H' := [_, _, _, _, _, _]) (c34 _ _ (by omega) (by omega)) rfl (sc_flat dce_sc _) (sc_flat dce_sc _) rfl rfl rfl rfl ?_
  refine v_assign rfl ?_
  refine v_nil ?_
  refine q_n ?_
  refine w_seq ?_
  refine w_seq ?_
  refine w_reg rfl ?_
  refine v_move rfl ?_
  refine v_lss lay3 rfl rfl (fun h7 => ?_) (fun h7 => ?_)
  · exact absurd h7 (by omega)
  refine v_move rfl ?_
  refine v_guard_on rfl rfl ?_
  refine v_move rfl ?_
  refine v_guard_on rfl rfl ?_
  refine v_move rfl ?_
  refine v_guard_on rfl rfl ?_
  refine v_callb (c24 _ _ (by omega)) rfl rfl (.cons (vw_mu2 dce_sc dce_len rfl (by first | (simp; done) | (simp; omega))) (.cons vw_sl .nil)) (fun h8 => ?_) (fun h8 => ?_)
  rotate_left
  · exact absurd rfl h8
  refine v_guard_on rfl rfl ?_
  refine v_not false rfl rfl ?_
  refine v_pick_f rfl rfl ?_
  refine v_move rfl ?_
  refine v_guard_on rfl rfl ?_
  refine v_move rfl ?_
  refine v_guard_on rfl rfl ?_
  refine v_move rfl ?_
  refine v_guard_on rfl rfl ?_
  refine v_neq lay2 rfl rfl (fun h9 => ?_) (fun h9 => ?_)
  · exact absurd rfl h9
  refine v_pick_f rfl rfl ?_
  refine v_nil ?_
  refine q_n ?_
  refine w_f rfl ?_
  refine w_skip ?_
  refine q_n ?_
  refine w_seq ?_
  refine w_reg rfl ?_
  refine v_assign (c := .v (.int .i64 1)) rfl ?_
  refine v_nil ?_
  refine q_n ?_
  refine w_seq ?_
  refine w_reg rfl ?_
  refine v_move rfl ?_
  refine v_move rfl ?_
  refine v_mark (H' := [_, _, _, _, _, _]) (c34 _ _ (by omega) (by omega)) rfl (sc_flat dce_sc _) (sc_flat dce_sc _) rfl rfl rfl rfl ?_
  refine v_assign rfl ?_
  refine v_nil ?_
  refine q_n ?_
  refine w_seq ?_
  refine w_reg rfl ?_
  refine v_assign (c := .v (.int .i64 1)) rfl ?_
  refine v_nil ?_
  refine q_n ?_
  refine w_seq ?_
  refine w_reg rfl ?_
  refine v_move rfl ?_
  refine v_move rfl ?_
  refine v_call (c39 _ _ (by omega) (by omega)) rfl rfl rfl (.cons (vw_mu2 dce_sc dce_len rfl (by first | (simp; done) | (simp; omega))) (.cons vw_v .nil)) ?_
  refine v_assign rfl ?_
  refine v_nil ?_
  refine q_n ?_
  refine w_seq ?_
  refine w_seq ?_
  refine w_reg rfl ?_
  refine v_move rfl ?_
  refine v_lss lay3 rfl rfl (fun h10 => ?_) (fun h10 => ?_)
  · exact absurd h10 (by omega)
  refine v_nil ?_
  refine q_n ?_
  refine w_f rfl ?_
  refine w_skip ?_
  refine q_n ?_
  refine w_seq ?_
  refine w_seq ?_
  refine w_reg rfl ?_
  refine v_move rfl ?_
  refine v_move rfl ?_
  refine v_neq lay3 rfl rfl (fun h11 => ?_) (fun h11 => ?_)
  · exact absurd rfl h11
  refine v_nil ?_
  refine q_n ?_
  refine w_f rfl ?_
  refine w_skip ?_
  refine q_n ?_
  refine w_seq ?_
  refine w_reg rfl ?_
  refine v_load_pt (.agg [_, _]) lay30 rfl rfl rfl rfl ?_
  refine v_call (c17 _ _ hx2) rfl rfl rfl (.cons (vw_agg (.cons vw_v (.cons vw_sl .nil))) .nil) ?_
  refine v_move rfl ?_
  refine v_call (c22 _ (by omega)) rfl rfl rfl (.cons vw_sl .nil) ?_
  refine v_call (c38 _ _ _ (by omega) (by omega)) rfl rfl rfl (.cons (vw_agg (.cons vw_v (.cons vw_sl .nil))) (.cons vw_sl .nil)) ?_
  refine v_move_t rfl ?_
  refine v_extract_c rfl rfl ?_
  refine v_extract_c rfl rfl ?_
  refine v_assign rfl ?_
  refine v_assign rfl ?_
  refine v_nil ?_
  refine q_n ?_
  refine w_seq ?_
  refine w_seq ?_
  refine w_reg rfl ?_
  refine v_move rfl ?_
  refine v_move rfl ?_
  refine v_callb (c24 _ _ (by omega)) rfl rfl (.cons vw_sl (.cons vw_sl .nil)) (fun h12 => ?_) (fun h12 => ?_)
  rotate_left
  · exact absurd rfl h12
  refine v_not false rfl rfl ?_
  refine v_move rfl ?_
  refine v_guard_on rfl rfl ?_
  refine v_move rfl ?_
  refine v_guard_on rfl rfl ?_
  refine v_move rfl ?_
  refine v_guard_on rfl rfl ?_
  refine v_neq lay2 rfl rfl (fun h13 => ?_) (fun h13 => ?_)
  · exact absurd rfl h13
  refine v_pick_f rfl rfl ?_
  refine v_nil ?_
  refine q_n ?_
  refine w_f rfl ?_
  refine w_skip ?_
  refine q_n ?_
  refine w_seq ?_
  refine w_reg rfl ?_
  refine v_assign (c := .v (.int .i64 1)) rfl ?_
  refine v_nil ?_
  refine q_n ?_
  refine w_seq ?_
  refine w_reg rfl ?_
  refine v_move rfl ?_
  refine v_move rfl ?_
  refine v_call (c39 _ _ (by omega) (by omega)) rfl rfl rfl (.cons (vw_mu2 dce_sc dce_len rfl (by first | (simp; done) | (simp; omega))) (.cons vw_v .nil)) ?_
  refine v_assign rfl ?_
  refine v_nil ?_
  refine q_n ?_
  refine w_seq ?_
  refine w_seq ?_
  refine w_reg rfl ?_
  refine v_move rfl ?_
  refine v_lss lay3 rfl rfl (fun h14 => ?_) (fun h14 => ?_)
  · exact absurd h14 (by omega)
  refine v_nil ?_
  refine q_n ?_
  refine w_f rfl ?_
  refine w_skip ?_
  refine q_n ?_
  refine w_seq ?_
  refine w_seq ?_
  refine w_reg rfl ?_
  refine v_move rfl ?_
  refine v_move rfl ?_
  refine v_neq lay3 rfl rfl (fun h15 => ?_) (fun h15 => ?_)
  · exact absurd rfl h15
  refine v_nil ?_
  refine q_n ?_
  refine w_f rfl ?_
  refine w_skip ?_
  refine q_n ?_
  refine w_seq ?_
  refine w_reg rfl ?_
  refine v_assign (c := .v (.bool true)) rfl ?_
  refine v_nil ?_
  refine q_n ?_
  refine w_ret ?_
  refine r_r rfl ?_
  exact tr_v
end Go.VL
