/- Marks of boards, and the law of boards, walked. -/
import Derived.Test.YtbejolinihbokaaE2
namespace Go.VL
open Go.RowKit
set_option maxRecDepth 20000
set_option maxHeartbeats 8000000
theorem c74 (xs : List Po) (a : Int) (hx : xs.length ≤ 2 ^ 40) (ha : 0 ≤ a ∧ a ≤ 2 ^ 50) : MarkC X 74 xs.length 2 46 (flat pe xs) (.int .i64 a) (.int .i64 (a + 2 * xs.length)) (flat pe ((List.range xs.length).map (pmark a))) := by
  refine MarkC.of_body (drawD_ok X) (fun _ _ => Go.Proofs.Try.call74 _ _) Go.Proofs.Try.func74 rfl (sc_flat pe_sc _) (q := 27) rfl ?_
  refine w_seq ?_
  refine w_reg rfl ?_
  refine v_assign (c := .v (.int .i64 0)) rfl ?_
  refine v_nil ?_
  refine q_n ?_
  refine w_seq ?_
  refine w_seq ?_
  refine w_reg rfl ?_
  refine v_assign (c := .v (.int .i64 0)) rfl ?_
  refine v_nil ?_
  refine q_n ?_
  refine w_block ?_
  refine w_loop (fun k sl H => ∃ i : Nat, k = xs.length - i ∧ i ≤ xs.length ∧ sl = sls [(0, .c (.mu 0 0 xs.length 2)), (1, cI (a + 2 * i)), (5, cI i)] ∧ H = [⟨flat pe (marks (pmark a) i xs), 46, true⟩]) ?_ ?_
  · refine ⟨_, _, _, ?_, 0, rfl, Nat.zero_le _, rfl, rfl⟩
    exact turn [some 0] rfl rfl rfl ⟨⟨_, rfl, trc_flat pe_sc rfl⟩, trivial⟩ ⟨tr_mu rfl, tr_i (by simp), tr_v, trivial⟩
  · rintro k sl H ⟨i, rfl, hi, rfl, rfl⟩
    refine w_seq ?_
    refine w_seq ?_
    refine w_reg rfl ?_
    refine v_move rfl ?_
    refine v_move rfl ?_
    refine v_len_mu lay61 rfl ?_
    refine v_lss lay3 rfl rfl (fun h1 => ?_) (fun h1 => ?_)
    · skip
      refine v_nil ?_
      refine q_n ?_
      refine w_t rfl ?_
      refine w_skip ?_
      refine q_n ?_
      refine w_seq ?_
      refine w_block ?_
      refine w_seq ?_
      refine w_reg rfl ?_
      refine v_move rfl ?_
      refine v_move rfl ?_
      refine v_move rfl ?_
      refine v_idx_mu_e (k := 2) (off := 0) (i) lay61 lay46 rfl rfl rfl (rfl) (by omega) ?_
      refine v_fa_pt (off' := _) lay46 rfl rfl rfl ?_
      refine v_store_flat (H' := [_]) i 0 (pset1 _ _) pe_len lay2 rfl rfl rfl (by omega) (by (try simp only [List.length_set]); rw [marks_len hi]; omega) rfl rfl (pe1 _ _) rfl ?_
      refine v_nil ?_
      refine q_n ?_
      refine w_seq ?_
      refine w_reg rfl ?_
      refine v_move rfl ?_
      refine v_add lay3 rfl rfl (i64r (by omega)) ?_
      refine v_assign rfl ?_
      refine v_nil ?_
      refine q_n ?_
      refine w_seq ?_
      refine w_reg rfl ?_
      refine v_move rfl ?_
      refine v_move rfl ?_
      refine v_move rfl ?_
      refine v_idx_mu_e (k := 2) (off := 0) (i) lay61 lay46 rfl rfl rfl (rfl) (by omega) ?_
      refine v_fa_pt (off' := _) lay46 rfl rfl rfl ?_
      refine v_store_flat (H' := [_]) i 1 (pset2 _ _) pe_len lay2 rfl rfl rfl (by omega) (by (try simp only [List.length_set]); rw [marks_len hi]; omega) rfl rfl (pe2 _ _) rfl ?_
      refine v_nil ?_
      refine q_n ?_
      refine w_reg rfl ?_
      refine v_move rfl ?_
      refine v_add lay3 rfl rfl (i64r (by omega)) ?_
      refine v_assign rfl ?_
      refine v_nil ?_
      refine q_bn ?_
      refine q_n ?_
      refine w_reg rfl ?_
      refine v_move rfl ?_
      refine v_add lay3 rfl rfl (i64r (by omega)) ?_
      refine v_assign rfl ?_
      refine v_nil ?_
      refine q_n ?_
      refine ⟨_, _, _, ?_, ⟨i + 1, rfl, by omega, rfl, rfl⟩, by omega⟩
      exact turn [some 0] rfl rfl rfl ⟨⟨_, rfl, trc_flat pe_sc (congrArg (flat pe) (pmark_step (by omega) (by simp only [List.getElem_set_self]; rfl)))⟩, trivial⟩ ⟨tr_mu rfl, tr_i (by push_cast; omega), tr_v, trivial⟩
    · skip
      refine v_nil ?_
      refine q_n ?_
      refine w_f rfl ?_
      refine w_exit ?_
      refine q_e ?_
      refine q_e ?_
      refine q_hit ?_
      refine q_n ?_
      refine w_seq ?_
      refine w_reg rfl ?_
      refine v_move rfl ?_
      refine v_assign rfl ?_
      refine v_nil ?_
      refine q_n ?_
      refine w_ret ?_
      refine r_r rfl ?_
      obtain rfl : i = xs.length := by omega
      exact ⟨rfl, [], by rw [← marks_all]⟩

theorem c75 (xs : List No) (a : Int) (hx : xs.length ≤ 2 ^ 40) (ha : 0 ≤ a ∧ a ≤ 2 ^ 50) : MarkC X 75 xs.length 4 101 (flat nce xs) (.int .i64 a) (.int .i64 (a + 4 * xs.length)) (flat nce ((List.range xs.length).map (nmark a))) := by
  refine MarkC.of_body (drawD_ok X) (fun _ _ => Go.Proofs.Try.call75 _ _) Go.Proofs.Try.func75 rfl (sc_flat nce_sc _) (q := 43) rfl ?_
  refine w_seq ?_
  refine w_reg rfl ?_
  refine v_assign (c := .v (.int .i64 0)) rfl ?_
  refine v_nil ?_
  refine q_n ?_
  refine w_seq ?_
  refine w_seq ?_
  refine w_reg rfl ?_
  refine v_assign (c := .v (.int .i64 0)) rfl ?_
  refine v_nil ?_
  refine q_n ?_
  refine w_block ?_
  refine w_loop (fun k sl H => ∃ i : Nat, k = xs.length - i ∧ i ≤ xs.length ∧ sl = sls [(0, .c (.mu 0 0 xs.length 4)), (1, cI (a + 4 * i)), (5, cI i)] ∧ H = [⟨flat nce (marks (nmark a) i xs), 101, true⟩]) ?_ ?_
  · refine ⟨_, _, _, ?_, 0, rfl, Nat.zero_le _, rfl, rfl⟩
    exact turn [some 0] rfl rfl rfl ⟨⟨_, rfl, trc_flat nce_sc rfl⟩, trivial⟩ ⟨tr_mu rfl, tr_i (by simp), tr_v, trivial⟩
  · rintro k sl H ⟨i, rfl, hi, rfl, rfl⟩
    refine w_seq ?_
    refine w_seq ?_
    refine w_reg rfl ?_
    refine v_move rfl ?_
    refine v_move rfl ?_
    refine v_len_mu lay62 rfl ?_
    refine v_lss lay3 rfl rfl (fun h1 => ?_) (fun h1 => ?_)
    · skip
      refine v_nil ?_
      refine q_n ?_
      refine w_t rfl ?_
      refine w_skip ?_
      refine q_n ?_
      refine w_seq ?_
      refine w_block ?_
      refine w_seq ?_
      refine w_reg rfl ?_
      refine v_move rfl ?_
      refine v_move rfl ?_
      refine v_move rfl ?_
      refine v_bin (c := .v (.int .i64 _)) lay3 rfl rfl rfl ?_
      refine v_eql lay3 rfl rfl (fun h2 => ?_) (fun h2 => ?_)
      · skip
        have hrm := h2
        refine v_idx_mu_e (k := 4) (off := 0) (i) lay62 lay101 rfl rfl rfl (rfl) (by omega) ?_
        refine v_fa_pt (off' := _) lay101 rfl rfl rfl ?_
        refine v_store_flat (H' := [_]) i 0 (nset1 _ _) nce_len lay4 rfl rfl rfl (by omega) (by (try simp only [List.length_set]); rw [marks_len hi]; omega) rfl rfl (nce1 _ _) rfl ?_
        refine v_nil ?_
        refine q_n ?_
        refine w_seq ?_
        refine w_reg rfl ?_
        refine v_move rfl ?_
        refine v_add lay3 rfl rfl (i64r (by omega)) ?_
        refine v_assign rfl ?_
        refine v_nil ?_
        refine q_n ?_
        refine w_seq ?_
        refine w_reg rfl ?_
        refine v_move rfl ?_
        refine v_move rfl ?_
        refine v_move rfl ?_
        refine v_idx_mu_e (k := 4) (off := 0) (i) lay62 lay101 rfl rfl rfl (rfl) (by omega) ?_
        refine v_fa_pt (off' := _) lay101 rfl rfl rfl ?_
        refine v_store_flat (H' := [_]) i 1 (nset2 _ _) nce_len lay2 rfl rfl rfl (by omega) (by (try simp only [List.length_set]); rw [marks_len hi]; omega) rfl rfl (nce2 _ _) rfl ?_
        refine v_nil ?_
        refine q_n ?_
        refine w_seq ?_
        refine w_reg rfl ?_
        refine v_move rfl ?_
        refine v_add lay3 rfl rfl (i64r (by omega)) ?_
        refine v_assign rfl ?_
        refine v_nil ?_
        refine q_n ?_
        refine w_seq ?_
        refine w_reg rfl ?_
        refine v_move rfl ?_
        refine v_move rfl ?_
        refine v_move rfl ?_
        refine v_idx_mu_e (k := 4) (off := 0) (i) lay62 lay101 rfl rfl rfl (rfl) (by omega) ?_
        refine v_fa_pt (off' := _) lay101 rfl rfl rfl ?_
        refine v_store_flat (H' := [_]) i 2 (nset3 _ _) nce_len lay2 rfl rfl rfl (by omega) (by (try simp only [List.length_set]); rw [marks_len hi]; omega) rfl rfl (nce3 _ _) rfl ?_
        refine v_nil ?_
        refine q_n ?_
        refine w_seq ?_
        refine w_reg rfl ?_
        refine v_move rfl ?_
        refine v_add lay3 rfl rfl (i64r (by omega)) ?_
        refine v_assign rfl ?_
        refine v_nil ?_
        refine q_n ?_
        refine w_seq ?_
        refine w_reg rfl ?_
        refine v_move rfl ?_
        refine v_move rfl ?_
        refine v_move rfl ?_
        refine v_idx_mu_e (k := 4) (off := 0) (i) lay62 lay101 rfl rfl rfl (rfl) (by omega) ?_
        refine v_fa_pt (off' := _) lay101 rfl rfl rfl ?_
        refine v_store_flat (H' := [_]) i 3 (nset4 _ _) nce_len lay2 rfl rfl rfl (by omega) (by (try simp only [List.length_set]); rw [marks_len hi]; omega) rfl rfl (nce4 _ _) rfl ?_
        refine v_nil ?_
        refine q_n ?_
        refine w_reg rfl ?_
        refine v_move rfl ?_
        refine v_add lay3 rfl rfl (i64r (by omega)) ?_
        refine v_assign rfl ?_
        refine v_nil ?_
        refine q_bn ?_
        refine q_n ?_
        refine w_reg rfl ?_
        refine v_move rfl ?_
        refine v_add lay3 rfl rfl (i64r (by omega)) ?_
        refine v_assign rfl ?_
        refine v_nil ?_
        refine q_n ?_
        refine ⟨_, _, _, ?_, ⟨i + 1, rfl, by omega, rfl, rfl⟩, by omega⟩
        exact turn [some 0] rfl rfl rfl ⟨⟨_, rfl, trc_flat nce_sc (congrArg (flat nce) (nmark_step (by omega) (by simp only [List.getElem_set_self]; simp [nset1, nset2, nset3, nset4, nmark, hrm])))⟩, trivial⟩ ⟨tr_mu rfl, tr_i (by push_cast; omega), tr_v, trivial⟩
      · skip
        have hrm := h2
        refine v_idx_mu_e (k := 4) (off := 0) (i) lay62 lay101 rfl rfl rfl (rfl) (by omega) ?_
        refine v_fa_pt (off' := _) lay101 rfl rfl rfl ?_
        refine v_store_flat (H' := [_]) i 0 (nset1 _ _) nce_len lay4 rfl rfl rfl (by omega) (by (try simp only [List.length_set]); rw [marks_len hi]; omega) rfl rfl (nce1 _ _) rfl ?_
        refine v_nil ?_
        refine q_n ?_
        refine w_seq ?_
        refine w_reg rfl ?_
        refine v_move rfl ?_
        refine v_add lay3 rfl rfl (i64r (by omega)) ?_
        refine v_assign rfl ?_
        refine v_nil ?_
        refine q_n ?_
        refine w_seq ?_
        refine w_reg rfl ?_
        refine v_move rfl ?_
        refine v_move rfl ?_
        refine v_move rfl ?_
        refine v_idx_mu_e (k := 4) (off := 0) (i) lay62 lay101 rfl rfl rfl (rfl) (by omega) ?_
        refine v_fa_pt (off' := _) lay101 rfl rfl rfl ?_
        refine v_store_flat (H' := [_]) i 1 (nset2 _ _) nce_len lay2 rfl rfl rfl (by omega) (by (try simp only [List.length_set]); rw [marks_len hi]; omega) rfl rfl (nce2 _ _) rfl ?_
        refine v_nil ?_
        refine q_n ?_
        refine w_seq ?_
        refine w_reg rfl ?_
        refine v_move rfl ?_
        refine v_add lay3 rfl rfl (i64r (by omega)) ?_
        refine v_assign rfl ?_
        refine v_nil ?_
        refine q_n ?_
        refine w_seq ?_
        refine w_reg rfl ?_
        refine v_move rfl ?_
        refine v_move rfl ?_
        refine v_move rfl ?_
        refine v_idx_mu_e (k := 4) (off := 0) (i) lay62 lay101 rfl rfl rfl (rfl) (by omega) ?_
        refine v_fa_pt (off' := _) lay101 rfl rfl rfl ?_
        refine v_store_flat (H' := [_]) i 2 (nset3 _ _) nce_len lay2 rfl rfl rfl (by omega) (by (try simp only [List.length_set]); rw [marks_len hi]; omega) rfl rfl (nce3 _ _) rfl ?_
        refine v_nil ?_
        refine q_n ?_
        refine w_seq ?_
        refine w_reg rfl ?_
        refine v_move rfl ?_
        refine v_add lay3 rfl rfl (i64r (by omega)) ?_
        refine v_assign rfl ?_
        refine v_nil ?_
        refine q_n ?_
        refine w_seq ?_
        refine w_reg rfl ?_
        refine v_move rfl ?_
        refine v_move rfl ?_
        refine v_move rfl ?_
        refine v_idx_mu_e (k := 4) (off := 0) (i) lay62 lay101 rfl rfl rfl (rfl) (by omega) ?_
        refine v_fa_pt (off' := _) lay101 rfl rfl rfl ?_
        refine v_store_flat (H' := [_]) i 3 (nset4 _ _) nce_len lay2 rfl rfl rfl (by omega) (by (try simp only [List.length_set]); rw [marks_len hi]; omega) rfl rfl (nce4 _ _) rfl ?_
        refine v_nil ?_
        refine q_n ?_
        refine w_reg rfl ?_
        refine v_move rfl ?_
        refine v_add lay3 rfl rfl (i64r (by omega)) ?_
        refine v_assign rfl ?_
        refine v_nil ?_
        refine q_bn ?_
        refine q_n ?_
        refine w_reg rfl ?_
        refine v_move rfl ?_
        refine v_add lay3 rfl rfl (i64r (by omega)) ?_
        refine v_assign rfl ?_
        refine v_nil ?_
        refine q_n ?_
        refine ⟨_, _, _, ?_, ⟨i + 1, rfl, by omega, rfl, rfl⟩, by omega⟩
        exact turn [some 0] rfl rfl rfl ⟨⟨_, rfl, trc_flat nce_sc (congrArg (flat nce) (nmark_step (by omega) (by simp only [List.getElem_set_self]; simp [nset1, nset2, nset3, nset4, nmark, hrm])))⟩, trivial⟩ ⟨tr_mu rfl, tr_i (by push_cast; omega), tr_v, trivial⟩
    · skip
      refine v_nil ?_
      refine q_n ?_
      refine w_f rfl ?_
      refine w_exit ?_
      refine q_e ?_
      refine q_e ?_
      refine q_hit ?_
      refine q_n ?_
      refine w_seq ?_
      refine w_reg rfl ?_
      refine v_move rfl ?_
      refine v_assign rfl ?_
      refine v_nil ?_
      refine q_n ?_
      refine w_ret ?_
      refine r_r rfl ?_
      obtain rfl : i = xs.length := by omega
      exact ⟨rfl, [], by rw [← marks_all]⟩

theorem c76 (n : Nat) (a : Int) (hx : n ≤ 2 ^ 40) (ha : 0 ≤ a ∧ a ≤ 2 ^ 50) : PureC X 76 [.c (.sl false n 2 (flat pe ((List.range n).map (pmark a)))), cI a] (cI (a + 2 * n)) := by
  refine PureC.of_body (drawD_ok X) (fun _ _ => Go.Proofs.Try.call76 _ _) Go.Proofs.Try.func76 rfl (n := 31) rfl ?_
  refine w_seq ?_
  refine w_reg rfl ?_
  refine v_assign (c := .v (.int .i64 0)) rfl ?_
  refine v_nil ?_
  refine q_n ?_
  refine w_seq ?_
  refine w_seq ?_
  refine w_reg rfl ?_
  refine v_assign (c := .v (.int .i64 0)) rfl ?_
  refine v_nil ?_
  refine q_n ?_
  refine w_block ?_
  refine w_loop (fun k sl H => ∃ i : Nat, k = n - i ∧ i ≤ n ∧ sl = sls [(0, .c (.sl false n 2 (flat pe ((List.range n).map (pmark a))))), (1, cI (a + 2 * i)), (5, cI i)] ∧ H = []) ?_ ?_
  · refine ⟨_, _, _, ?_, 0, rfl, Nat.zero_le _, rfl, rfl⟩
    exact turn0 ⟨tr_sl, tr_i (by simp), tr_v, trivial⟩
  · rintro k sl H ⟨i, rfl, hi, rfl, rfl⟩
    refine w_seq ?_
    refine w_seq ?_
    refine w_reg rfl ?_
    refine v_move rfl ?_
    refine v_move rfl ?_
    refine v_len_sl lay61 rfl ?_
    refine v_lss lay3 rfl rfl (fun h1 => ?_) (fun h1 => ?_)
    · skip
      refine v_nil ?_
      refine q_n ?_
      refine w_t rfl ?_
      refine w_skip ?_
      refine q_n ?_
      refine w_seq ?_
      refine w_block ?_
      refine w_seq ?_
      refine w_seq ?_
      refine w_reg rfl ?_
      refine v_move rfl ?_
      refine v_move rfl ?_
      refine v_idx_e (k := 2) (i) pe_len lay61 lay46 rfl rfl rfl (by simp) rfl (rfl) (by simp; omega) ?_
      refine v_fa_vw (off' := 0) lay46 rfl rfl rfl ?_
      refine v_load_vw (.c (.v _)) lay2 rfl rfl rfl ?_
      refine v_move rfl ?_
      refine v_neq lay2 rfl rfl (fun h3 => ?_) (fun h3 => ?_)
      · skip
        exact absurd (by rw [mk_at]; rfl) h3
      · skip
        refine v_nil ?_
        refine q_n ?_
        refine w_f rfl ?_
        refine w_skip ?_
        refine q_n ?_
        refine w_seq ?_
        refine w_reg rfl ?_
        refine v_move rfl ?_
        refine v_add lay3 rfl rfl (i64r (by omega)) ?_
        refine v_assign rfl ?_
        refine v_nil ?_
        refine q_n ?_
        refine w_seq ?_
        refine w_seq ?_
        refine w_reg rfl ?_
        refine v_move rfl ?_
        refine v_move rfl ?_
        refine v_idx_e (k := 2) (i) pe_len lay61 lay46 rfl rfl rfl (by simp) rfl (rfl) (by simp; omega) ?_
        refine v_fa_vw (off' := 1) lay46 rfl rfl rfl ?_
        refine v_load_vw (.c (.v _)) lay2 rfl rfl rfl ?_
        refine v_move rfl ?_
        refine v_neq lay2 rfl rfl (fun h5 => ?_) (fun h5 => ?_)
        · skip
          exact absurd (by rw [mk_at]; rfl) h5
        · skip
          refine v_nil ?_
          refine q_n ?_
          refine w_f rfl ?_
          refine w_skip ?_
          refine q_n ?_
          refine w_reg rfl ?_
          refine v_move rfl ?_
          refine v_add lay3 rfl rfl (i64r (by omega)) ?_
          refine v_assign rfl ?_
          refine v_nil ?_
          refine q_bn ?_
          refine q_n ?_
          refine w_reg rfl ?_
          refine v_move rfl ?_
          refine v_add lay3 rfl rfl (i64r (by omega)) ?_
          refine v_assign rfl ?_
          refine v_nil ?_
          refine q_n ?_
          refine ⟨_, _, _, ?_, ⟨i + 1, rfl, by omega, rfl, rfl⟩, by omega⟩
          exact turn0 ⟨tr_sl, tr_i (by push_cast; omega), tr_v, trivial⟩
    · skip
      refine v_nil ?_
      refine q_n ?_
      refine w_f rfl ?_
      refine w_exit ?_
      refine q_e ?_
      refine q_e ?_
      refine q_hit ?_
      refine q_n ?_
      refine w_seq ?_
      refine w_reg rfl ?_
      refine v_move rfl ?_
      refine v_assign rfl ?_
      refine v_nil ?_
      refine q_n ?_
      refine w_ret ?_
      refine r_r rfl ?_
      obtain rfl : i = n := by omega
      exact a_i rfl

theorem c77 (n : Nat) (a : Int) (hx : n ≤ 2 ^ 40) (ha : 0 ≤ a ∧ a ≤ 2 ^ 50) : PureC X 77 [.c (.sl false n 4 (flat nce ((List.range n).map (nmark a)))), cI a] (cI (a + 4 * n)) := by
  refine PureC.of_body (drawD_ok X) (fun _ _ => Go.Proofs.Try.call77 _ _) Go.Proofs.Try.func77 rfl (n := 51) rfl ?_
  refine w_seq ?_
  refine w_reg rfl ?_
  refine v_assign (c := .v (.int .i64 0)) rfl ?_
  refine v_nil ?_
  refine q_n ?_
  refine w_seq ?_
  refine w_seq ?_
  refine w_reg rfl ?_
  refine v_assign (c := .v (.int .i64 0)) rfl ?_
  refine v_nil ?_
  refine q_n ?_
  refine w_block ?_
  refine w_loop (fun k sl H => ∃ i : Nat, k = n - i ∧ i ≤ n ∧ sl = sls [(0, .c (.sl false n 4 (flat nce ((List.range n).map (nmark a))))), (1, cI (a + 4 * i)), (5, cI i)] ∧ H = []) ?_ ?_
  · refine ⟨_, _, _, ?_, 0, rfl, Nat.zero_le _, rfl, rfl⟩
    exact turn0 ⟨tr_sl, tr_i (by simp), tr_v, trivial⟩
  · rintro k sl H ⟨i, rfl, hi, rfl, rfl⟩
    refine w_seq ?_
    refine w_seq ?_
    refine w_reg rfl ?_
    refine v_move rfl ?_
    refine v_move rfl ?_
    refine v_len_sl lay62 rfl ?_
    refine v_lss lay3 rfl rfl (fun h1 => ?_) (fun h1 => ?_)
    · skip
      refine v_nil ?_
      refine q_n ?_
      refine w_t rfl ?_
      refine w_skip ?_
      refine q_n ?_
      refine w_seq ?_
      refine w_block ?_
      refine w_seq ?_
      refine w_seq ?_
      refine w_reg rfl ?_
      refine v_move rfl ?_
      refine v_move rfl ?_
      refine v_idx_e (k := 4) (i) nce_len lay62 lay101 rfl rfl rfl (by simp) rfl (rfl) (by simp; omega) ?_
      refine v_fa_vw (off' := 0) lay101 rfl rfl rfl ?_
      refine v_load_vwb lay4 rfl rfl rfl (fun h3 => ?_) (fun h3 => ?_)
      · skip
        refine v_move rfl ?_
        refine v_bin (c := .v (.int .i64 _)) lay3 rfl rfl rfl ?_
        refine v_eql lay3 rfl rfl (fun h4 => ?_) (fun h4 => ?_)
        · skip
          refine v_bin (c := .v (.bool false)) lay4 rfl rfl rfl ?_
          refine v_nil ?_
          refine q_n ?_
          refine w_f rfl ?_
          refine w_skip ?_
          refine q_n ?_
          refine w_seq ?_
          refine w_reg rfl ?_
          refine v_move rfl ?_
          refine v_add lay3 rfl rfl (i64r (by omega)) ?_
          refine v_assign rfl ?_
          refine v_nil ?_
          refine q_n ?_
          refine w_seq ?_
          refine w_seq ?_
          refine w_reg rfl ?_
          refine v_move rfl ?_
          refine v_move rfl ?_
          refine v_idx_e (k := 4) (i) nce_len lay62 lay101 rfl rfl rfl (by simp) rfl (rfl) (by simp; omega) ?_
          refine v_fa_vw (off' := 1) lay101 rfl rfl rfl ?_
          refine v_load_vw (.c (.v _)) lay2 rfl rfl rfl ?_
          refine v_move rfl ?_
          refine v_neq lay2 rfl rfl (fun h6 => ?_) (fun h6 => ?_)
          · skip
            exact absurd (by rw [mk_at]; rfl) h6
          · skip
            refine v_nil ?_
            refine q_n ?_
            refine w_f rfl ?_
            refine w_skip ?_
            refine q_n ?_
            refine w_seq ?_
            refine w_reg rfl ?_
            refine v_move rfl ?_
            refine v_add lay3 rfl rfl (i64r (by omega)) ?_
            refine v_assign rfl ?_
            refine v_nil ?_
            refine q_n ?_
            refine w_seq ?_
            refine w_seq ?_
            refine w_reg rfl ?_
            refine v_move rfl ?_
            refine v_move rfl ?_
            refine v_idx_e (k := 4) (i) nce_len lay62 lay101 rfl rfl rfl (by simp) rfl (rfl) (by simp; omega) ?_
            refine v_fa_vw (off' := 2) lay101 rfl rfl rfl ?_
            refine v_load_vw (.c (.v _)) lay2 rfl rfl rfl ?_
            refine v_move rfl ?_
            refine v_neq lay2 rfl rfl (fun h8 => ?_) (fun h8 => ?_)
            · skip
              exact absurd (by rw [mk_at]; rfl) h8
            · skip
              refine v_nil ?_
              refine q_n ?_
              refine w_f rfl ?_
              refine w_skip ?_
              refine q_n ?_
              refine w_seq ?_
              refine w_reg rfl ?_
              refine v_move rfl ?_
              refine v_add lay3 rfl rfl (i64r (by omega)) ?_
              refine v_assign rfl ?_
              refine v_nil ?_
              refine q_n ?_
              refine w_seq ?_
              refine w_seq ?_
              refine w_reg rfl ?_
              refine v_move rfl ?_
              refine v_move rfl ?_
              refine v_idx_e (k := 4) (i) nce_len lay62 lay101 rfl rfl rfl (by simp) rfl (rfl) (by simp; omega) ?_
              refine v_fa_vw (off' := 3) lay101 rfl rfl rfl ?_
              refine v_load_vw (.c (.v _)) lay2 rfl rfl rfl ?_
              refine v_move rfl ?_
              refine v_neq lay2 rfl rfl (fun h10 => ?_) (fun h10 => ?_)
              · skip
                exact absurd (by rw [mk_at]; rfl) h10
              · skip
                refine v_nil ?_
                refine q_n ?_
                refine w_f rfl ?_
                refine w_skip ?_
                refine q_n ?_
                refine w_reg rfl ?_
                refine v_move rfl ?_
                refine v_add lay3 rfl rfl (i64r (by omega)) ?_
                refine v_assign rfl ?_
                refine v_nil ?_
                refine q_bn ?_
                refine q_n ?_
                refine w_reg rfl ?_
                refine v_move rfl ?_
                refine v_add lay3 rfl rfl (i64r (by omega)) ?_
                refine v_assign rfl ?_
                refine v_nil ?_
                refine q_n ?_
                refine ⟨_, _, _, ?_, ⟨i + 1, rfl, by omega, rfl, rfl⟩, by omega⟩
                exact turn0 ⟨tr_sl, tr_i (by push_cast; omega), tr_v, trivial⟩
        · skip
          rw [mk_at] at h3; simp [nmark] at h3; exact absurd h3 h4
      · skip
        refine v_move rfl ?_
        refine v_bin (c := .v (.int .i64 _)) lay3 rfl rfl rfl ?_
        refine v_eql lay3 rfl rfl (fun h11 => ?_) (fun h11 => ?_)
        · skip
          rw [mk_at] at h3; simp [nmark] at h3; exact absurd h11 h3
        · skip
          refine v_bin (c := .v (.bool false)) lay4 rfl rfl rfl ?_
          refine v_nil ?_
          refine q_n ?_
          refine w_f rfl ?_
          refine w_skip ?_
          refine q_n ?_
          refine w_seq ?_
          refine w_reg rfl ?_
          refine v_move rfl ?_
          refine v_add lay3 rfl rfl (i64r (by omega)) ?_
          refine v_assign rfl ?_
          refine v_nil ?_
          refine q_n ?_
          refine w_seq ?_
          refine w_seq ?_
          refine w_reg rfl ?_
          refine v_move rfl ?_
          refine v_move rfl ?_
          refine v_idx_e (k := 4) (i) nce_len lay62 lay101 rfl rfl rfl (by simp) rfl (rfl) (by simp; omega) ?_
          refine v_fa_vw (off' := 1) lay101 rfl rfl rfl ?_
          refine v_load_vw (.c (.v _)) lay2 rfl rfl rfl ?_
          refine v_move rfl ?_
          refine v_neq lay2 rfl rfl (fun h13 => ?_) (fun h13 => ?_)
          · skip
            exact absurd (by rw [mk_at]; rfl) h13
          · skip
            refine v_nil ?_
            refine q_n ?_
            refine w_f rfl ?_
            refine w_skip ?_
            refine q_n ?_
            refine w_seq ?_
            refine w_reg rfl ?_
            refine v_move rfl ?_
            refine v_add lay3 rfl rfl (i64r (by omega)) ?_
            refine v_assign rfl ?_
            refine v_nil ?_
            refine q_n ?_
            refine w_seq ?_
            refine w_seq ?_
            refine w_reg rfl ?_
            refine v_move rfl ?_
            refine v_move rfl ?_
            refine v_idx_e (k := 4) (i) nce_len lay62 lay101 rfl rfl rfl (by simp) rfl (rfl) (by simp; omega) ?_
            refine v_fa_vw (off' := 2) lay101 rfl rfl rfl ?_
            refine v_load_vw (.c (.v _)) lay2 rfl rfl rfl ?_
            refine v_move rfl ?_
            refine v_neq lay2 rfl rfl (fun h15 => ?_) (fun h15 => ?_)
            · skip
              exact absurd (by rw [mk_at]; rfl) h15
            · skip
              refine v_nil ?_
              refine q_n ?_
              refine w_f rfl ?_
              refine w_skip ?_
              refine q_n ?_
              refine w_seq ?_
              refine w_reg rfl ?_
              refine v_move rfl ?_
              refine v_add lay3 rfl rfl (i64r (by omega)) ?_
              refine v_assign rfl ?_
              refine v_nil ?_
              refine q_n ?_
              refine w_seq ?_
              refine w_seq ?_
              refine w_reg rfl ?_
              refine v_move rfl ?_
              refine v_move rfl ?_
              refine v_idx_e (k := 4) (i) nce_len lay62 lay101 rfl rfl rfl (by simp) rfl (rfl) (by simp; omega) ?_
              refine v_fa_vw (off' := 3) lay101 rfl rfl rfl ?_
              refine v_load_vw (.c (.v _)) lay2 rfl rfl rfl ?_
              refine v_move rfl ?_
              refine v_neq lay2 rfl rfl (fun h17 => ?_) (fun h17 => ?_)
              · skip
                exact absurd (by rw [mk_at]; rfl) h17
              · skip
                refine v_nil ?_
                refine q_n ?_
                refine w_f rfl ?_
                refine w_skip ?_
                refine q_n ?_
                refine w_reg rfl ?_
                refine v_move rfl ?_
                refine v_add lay3 rfl rfl (i64r (by omega)) ?_
                refine v_assign rfl ?_
                refine v_nil ?_
                refine q_bn ?_
                refine q_n ?_
                refine w_reg rfl ?_
                refine v_move rfl ?_
                refine v_add lay3 rfl rfl (i64r (by omega)) ?_
                refine v_assign rfl ?_
                refine v_nil ?_
                refine q_n ?_
                refine ⟨_, _, _, ?_, ⟨i + 1, rfl, by omega, rfl, rfl⟩, by omega⟩
                exact turn0 ⟨tr_sl, tr_i (by push_cast; omega), tr_v, trivial⟩
    · skip
      refine v_nil ?_
      refine q_n ?_
      refine w_f rfl ?_
      refine w_exit ?_
      refine q_e ?_
      refine q_e ?_
      refine q_hit ?_
      refine q_n ?_
      refine w_seq ?_
      refine w_reg rfl ?_
      refine v_move rfl ?_
      refine v_assign rfl ?_
      refine v_nil ?_
      refine q_n ?_
      refine w_ret ?_
      refine r_r rfl ?_
      obtain rfl : i = n := by omega
      exact a_i rfl

theorem c41 (p : Int) (fs : List Int) (ds : List De) (hx : fs.length ≤ 2 ^ 40) (hd : ds.length ≤ 2 ^ 40) : PureC X 41 [.agg (cen false p fs), .c (dcs false ds)] (boV (boR p fs ds)) :=
  (c41l p fs ds hx hd).pure (bo_frz (boR p fs ds).1 (boR p fs ds).2.1 (boR p fs ds).2.2)
theorem bo_sc (b : Bd) : ∀ o ∈ boO b, ∀ c ∈ o.cs, sc c = true := fun o ho => by
  simp only [List.mem_cons, List.not_mem_nil, or_false] at ho
  rcases ho with rfl | rfl | rfl | rfl | rfl
  · exact sc_flat pe_sc _
  · exact sc_flat pe_sc _
  · exact sc_flat pe_sc _
  · exact sc_flat int_sc _
  · exact sc_flat nce_sc _

theorem c10 (p : Int) (fs : List Int) (ds : List De) (hx : fs.length ≤ maxLen) (hd : ds.length ≤ maxLen) : PureC X 10 [.agg (cen false p fs), .c (dcs false ds)] (cB true) := by
  refine PureC.of_body (drawD_ok X) (fun _ _ => Go.Proofs.Try.call10 _ _) Go.Proofs.Try.func10 rfl (n := 140) rfl ?_
  refine w_seq ?_
  refine w_reg rfl ?_
  refine v_box (m := 0) (H' := [_]) lay30 rfl rfl rfl ?_
  refine v_assign (c := .v (.bool false)) rfl ?_
  refine v_nil ?_
  refine q_n ?_
  refine w_seq ?_
  refine w_reg rfl ?_
  refine v_assign (c := .v (.int .i64 1048576)) rfl ?_
  refine v_nil ?_
  refine q_n ?_
  refine w_seq ?_
  refine w_reg rfl ?_
  refine v_load_pt (.agg [_, _]) lay30 rfl rfl rfl rfl ?_
  refine v_move rfl ?_
  refine v_call (c15 _ _ _ (by omega) hx) rfl rfl rfl (.cons (vw_agg (.cons vw_v (.cons vw_sl .nil))) (.cons vw_v .nil)) ?_
  refine v_assign rfl ?_
  refine v_nil ?_
  refine q_n ?_
  refine w_seq ?_
  refine w_seq ?_
  refine w_reg rfl ?_
  refine v_move rfl ?_
  refine v_lss lay3 rfl rfl (fun h1 => ?_) (fun h1 => ?_)
  · skip
    refine v_nil ?_
    refine q_n ?_
    refine w_t rfl ?_
    refine w_seq ?_
    refine w_reg rfl ?_
    refine v_assign (c := .v (.bool true)) rfl ?_
    refine v_nil ?_
    refine q_n ?_
    refine w_ret (q_r ?_)
    refine r_r rfl ?_
    exact tr_v
  · skip
    have hx2 : fs.length ≤ 2 ^ 40 := by unfold szr at h1; split at h1 <;> omega
    have hl0 : 0 ≤ szr fs.length 1048576 ∧ szr fs.length 1048576 ≤ 2 ^ 20 := ⟨by omega, by unfold szr; split <;> omega⟩
    refine v_nil ?_
    refine q_n ?_
    refine w_f rfl ?_
    refine w_skip ?_
    refine q_n ?_
    refine w_seq ?_
    refine w_reg rfl ?_
    refine v_move rfl ?_
    refine v_move rfl ?_
    refine v_call (c20 _ _ (by omega) (by assumption)) rfl rfl rfl (.cons vw_sl (.cons vw_v .nil)) ?_
    refine v_assign rfl ?_
    refine v_nil ?_
    refine q_n ?_
    refine w_seq ?_
    refine w_seq ?_
    refine w_reg rfl ?_
    refine v_move rfl ?_
    refine v_lss lay3 rfl rfl (fun h2 => ?_) (fun h2 => ?_)
    · skip
      refine v_nil ?_
      refine q_n ?_
      refine w_t rfl ?_
      refine w_seq ?_
      refine w_reg rfl ?_
      refine v_assign (c := .v (.bool true)) rfl ?_
      refine v_nil ?_
      refine q_n ?_
      refine w_ret (q_r ?_)
      refine r_r rfl ?_
      exact tr_v
    · skip
      have hd2 : ds.length ≤ 2 ^ 40 := by unfold szr at h2 hl0; split at h2 <;> omega
      obtain ⟨b1, b2, b3, b4, b5⟩ := bo_len p fs ds
      refine v_nil ?_
      refine q_n ?_
      refine w_f rfl ?_
      refine w_skip ?_
      refine q_n ?_
      refine w_seq ?_
      refine w_reg rfl ?_
      refine v_load_pt (.agg [_, _]) lay30 rfl rfl rfl rfl ?_
      refine v_call (c17 _ _ hx2) rfl rfl rfl (.cons (vw_agg (.cons vw_v (.cons vw_sl .nil))) .nil) ?_
      refine v_move rfl ?_
      refine v_call (c22 _ (by omega)) rfl rfl rfl (.cons vw_sl .nil) ?_
      refine v_call (c40 p fs ds (by omega) (by omega)) rfl rfl rfl (.cons (vw_agg (.cons vw_v (.cons vw_sl .nil))) (.cons vw_sl .nil)) ?_
      refine v_move_t rfl ?_
      refine v_extract_a rfl rfl ?_
      refine v_extract_c rfl rfl ?_
      refine v_extract_c rfl rfl ?_
      refine v_alloc (m := 1) (H' := [_, ⟨[.v _, .v _, .v _, .v _, .v _], 64, true⟩]) lay64 rfl rfl ?_
      refine v_store (H' := [_, ⟨[_, _, _, _, _], 64, true⟩]) lay64 rfl rfl rfl rfl rfl rfl ?_
      refine v_assign rfl ?_
      refine v_assign rfl ?_
      refine v_nil ?_
      refine q_n ?_
      refine w_seq ?_
      refine w_reg rfl ?_
      refine v_load_pt (.agg [_, _]) lay30 rfl rfl rfl rfl ?_
      refine v_live1 (N := 2) (H' := [_, _, _]) (c17l _ _ (by omega)) (sc_flat int_sc _) rfl rfl rfl rfl rfl rfl (.cons (vw_agg (.cons vw_v (.cons vw_sl .nil))) .nil) ?_
      refine v_alloc (m := 3) (H' := [_, _, _, ⟨[.v _, .v _], 33, true⟩]) lay33 rfl rfl ?_
      refine v_store (H' := [_, _, _, ⟨[_, _], 33, true⟩]) lay33 rfl rfl rfl rfl rfl rfl ?_
      refine v_nil ?_
      refine q_n ?_
      refine w_seq ?_
      refine w_reg rfl ?_
      refine v_move rfl ?_
      refine v_live1 (N := 4) (H' := [_, _, _, _, _]) (c22l _ (by omega)) (sc_flat dce_sc _) rfl rfl rfl rfl rfl rfl (.cons vw_sl .nil) ?_
      refine v_assign rfl ?_
      refine v_nil ?_
      refine q_n ?_
      refine w_seq ?_
      refine w_reg rfl ?_
      refine v_load_pt (.agg [_, _]) lay33 rfl rfl rfl rfl ?_
      refine v_move rfl ?_
      refine v_liveN (N := 5) (H' := [_, _, _, _, _, _, _, _, _, _]) (c41l p fs ds (by omega) (by omega)) (bo_sc _) rfl rfl rfl rfl rfl rfl (.cons (vw_agg (.cons vw_v (.cons (vw_mu2 int_sc int_len rfl (by first | (simp; done) | (simp; omega))) .nil))) (.cons (vw_mu2 dce_sc dce_len rfl (by first | (simp; done) | (simp; omega))) .nil)) ?_
      refine v_move_t rfl ?_
      refine v_extract_a rfl rfl ?_
      refine v_extract_c rfl rfl ?_
      refine v_extract_c rfl rfl ?_
      refine v_alloc (m := 10) (H' := [_, _, _, _, _, _, _, _, _, _, ⟨[.v _, .v _, .v _, .v _, .v _], 64, true⟩]) lay64 rfl rfl ?_
      refine v_store (H' := [_, _, _, _, _, _, _, _, _, _, ⟨[_, _, _, _, _], 64, true⟩]) lay64 rfl rfl rfl rfl rfl rfl ?_
      refine v_assign rfl ?_
      refine v_assign rfl ?_
      refine v_nil ?_
      refine q_n ?_
      refine w_seq ?_
      refine w_seq ?_
      refine w_reg rfl ?_
      refine v_load_pt (.agg [_, _, _, _, _]) lay64 rfl rfl rfl rfl ?_
      refine v_load_pt (.agg [_, _, _, _, _]) lay64 rfl rfl rfl rfl ?_
      refine v_callb (c42 (boR p fs ds).1 (boR p fs ds).1 (by omega) (by omega) (by omega) (by omega) (by omega)) rfl rfl (.cons (vw_agg (.cons (vw_mu2 pe_sc pe_len rfl (by first | (simp; done) | (simp; omega))) (.cons (vw_mu2 pe_sc pe_len rfl (by first | (simp; done) | (simp; omega))) (.cons (vw_mu2 pe_sc pe_len rfl (by first | (simp; done) | (simp; omega))) (.cons (vw_mu2 int_sc int_len rfl (by first | (simp; done) | (simp; omega))) (.cons (vw_mu2 nce_sc nce_len rfl (by first | (simp; done) | (simp; omega))) .nil)))))) (.cons (vw_agg (.cons vw_sl (.cons vw_sl (.cons vw_sl (.cons vw_sl (.cons vw_sl .nil)))))) .nil)) (fun h3 => ?_) (fun h3 => ?_)
      · skip
        refine v_not false rfl rfl ?_
        refine v_move rfl ?_
        refine v_guard_on rfl rfl ?_
        refine v_move rfl ?_
        refine v_guard_on rfl rfl ?_
        refine v_move rfl ?_
        refine v_guard_on rfl rfl ?_
        refine v_neq lay2 rfl rfl (fun h4 => ?_) (fun h4 => ?_)
        · skip
          exact absurd rfl h4
        · skip
          refine v_pick_f rfl rfl ?_
          refine v_move rfl ?_
          refine v_guard_on rfl rfl ?_
          refine v_move rfl ?_
          refine v_guard_on rfl rfl ?_
          refine v_move rfl ?_
          refine v_guard_on rfl rfl ?_
          refine v_neq lay2 rfl rfl (fun h5 => ?_) (fun h5 => ?_)
          · skip
            exact absurd rfl h5
          · skip
            refine v_pick_f rfl rfl ?_
            refine v_nil ?_
            refine q_n ?_
            refine w_f rfl ?_
            refine w_skip ?_
            refine q_n ?_
            refine w_seq ?_
            refine w_seq ?_
            refine w_draw [0, 0, 2, 7, 15] [⟨0, 0, []⟩, ⟨1, 0, []⟩, ⟨2, 0, []⟩, ⟨3, 0, []⟩, ⟨4, 0, []⟩] rfl rfl ?_
            refine d_q rfl rfl rfl rfl rfl ?_
            refine v_load_pt (.agg [_, _]) lay33 rfl rfl rfl rfl ?_
            refine v_nil ?_
            refine d_q rfl rfl rfl rfl rfl ?_
            refine v_load_pt (.agg [_, _]) lay30 rfl rfl rfl rfl ?_
            refine v_nil ?_
            refine d_call (c17 _ _ hx2) rfl rfl rfl rfl rfl (.cons (vw_agg (.cons vw_v (.cons vw_sl .nil))) .nil) ?_
            refine d_callb (c19 _ _ _ _ hx2) rfl rfl rfl rfl (.cons (vw_agg (.cons vw_v (.cons (vw_mu2 int_sc int_len rfl (by first | (simp; done) | (simp; omega))) .nil))) (.cons (vw_agg (.cons vw_v (.cons vw_sl .nil))) .nil)) (fun h6 => ?_) (fun h6 => ?_)
            · skip
              refine d_q rfl rfl rfl rfl rfl ?_
              refine v_not false rfl rfl ?_
              refine v_nil ?_
              refine d_nil ?_
              refine q_n ?_
              refine w_f rfl ?_
              refine w_skip ?_
              refine q_n ?_
              refine w_seq ?_
              refine w_seq ?_
              refine w_reg rfl ?_
              refine v_move rfl ?_
              refine v_move rfl ?_
              refine v_call (c22 _ (by omega)) rfl rfl rfl (.cons vw_sl .nil) ?_
              refine v_callb (c24 _ _ (by omega)) rfl rfl (.cons (vw_mu2 dce_sc dce_len rfl (by first | (simp; done) | (simp; omega))) (.cons vw_sl .nil)) (fun h7 => ?_) (fun h7 => ?_)
              · skip
                refine v_not false rfl rfl ?_
                refine v_nil ?_
                refine q_n ?_
                refine w_f rfl ?_
                refine w_skip ?_
                refine q_n ?_
                refine w_seq ?_
                refine w_reg rfl ?_
                refine v_assign (c := .v (.int .i64 1)) rfl ?_
                refine v_nil ?_
                refine q_n ?_
                refine w_seq ?_
                refine w_reg rfl ?_
                refine v_load_pt (.agg [_, _]) lay33 rfl rfl rfl rfl ?_
                refine v_move rfl ?_
                refine v_inl (n := 10) (drawD_ok X) (fun _ _ => Go.Proofs.Try.call33 _ _) Go.Proofs.Try.func33 rfl rfl rfl rfl ?_
                refine w_seq ?_
                refine w_reg rfl ?_
                refine v_box (m := 11) (H' := [_, _, _, _, _, _, _, _, _, _, _, _]) lay33 rfl rfl rfl ?_
                refine v_assign (c := .v (.int .i64 0)) rfl ?_
                refine v_nil ?_
                refine q_n ?_
                refine w_seq ?_
                refine w_reg rfl ?_
                refine v_fa_pt (off' := 1) lay33 rfl rfl rfl ?_
                refine v_load_pt (.c _) lay28 rfl rfl rfl rfl ?_
                refine v_move rfl ?_
                refine v_mark (H' := [_, _, _, _, _, _, _, _, _, _, _, _]) (c35 _ _ (by omega) (by omega)) rfl (sc_flat int_sc _) (sc_flat int_sc _) rfl rfl rfl rfl ?_
                refine v_assign rfl ?_
                refine v_nil ?_
                refine q_n ?_
                refine w_seq ?_
                refine w_reg rfl ?_
                refine v_move rfl ?_
                refine v_assign rfl ?_
                refine v_nil ?_
                refine q_n ?_
                refine w_ret ?_
                refine r_r rfl ?_
                refine v_assign rfl ?_
                refine v_nil ?_
                refine q_n ?_
                refine w_seq ?_
                refine w_reg rfl ?_
                refine v_move rfl ?_
                refine v_move rfl ?_
                refine v_mark (H' := [_, _, _, _, _, _, _, _, _, _, _, _]) (c34 _ _ (by omega) (by omega)) rfl (sc_flat dce_sc _) (sc_flat dce_sc _) rfl rfl rfl rfl ?_
                refine v_assign rfl ?_
                refine v_nil ?_
                refine q_n ?_
                refine w_seq ?_
                refine w_seq ?_
                refine w_reg rfl ?_
                refine v_move rfl ?_
                refine v_lss lay3 rfl rfl (fun h8 => ?_) (fun h8 => ?_)
                · skip
                  exact absurd h8 (by omega)
                · skip
                  refine v_move rfl ?_
                  refine v_guard_on rfl rfl ?_
                  refine v_load_pt (.agg [_, _, _, _, _]) lay64 rfl rfl rfl rfl ?_
                  refine v_guard_on rfl rfl ?_
                  refine v_load_pt (.agg [_, _, _, _, _]) lay64 rfl rfl rfl rfl ?_
                  refine v_guard_on rfl rfl ?_
                  refine v_callb (c42 (boR p fs ds).1 (boR p fs ds).1 (by omega) (by omega) (by omega) (by omega) (by omega)) rfl rfl (.cons (vw_agg (.cons (vw_mu2 pe_sc pe_len rfl (by first | (simp; done) | (simp; omega))) (.cons (vw_mu2 pe_sc pe_len rfl (by first | (simp; done) | (simp; omega))) (.cons (vw_mu2 pe_sc pe_len rfl (by first | (simp; done) | (simp; omega))) (.cons (vw_mu2 int_sc int_len rfl (by first | (simp; done) | (simp; omega))) (.cons (vw_mu2 nce_sc nce_len rfl (by first | (simp; done) | (simp; omega))) .nil)))))) (.cons (vw_agg (.cons vw_sl (.cons vw_sl (.cons vw_sl (.cons vw_sl (.cons vw_sl .nil)))))) .nil)) (fun h9 => ?_) (fun h9 => ?_)
                  · skip
                    refine v_guard_on rfl rfl ?_
                    refine v_not false rfl rfl ?_
                    refine v_pick_f rfl rfl ?_
                    refine v_move rfl ?_
                    refine v_guard_on rfl rfl ?_
                    refine v_move rfl ?_
                    refine v_guard_on rfl rfl ?_
                    refine v_move rfl ?_
                    refine v_guard_on rfl rfl ?_
                    refine v_neq lay2 rfl rfl (fun h10 => ?_) (fun h10 => ?_)
                    · skip
                      exact absurd rfl h10
                    · skip
                      refine v_pick_f rfl rfl ?_
                      refine v_move rfl ?_
                      refine v_guard_on rfl rfl ?_
                      refine v_move rfl ?_
                      refine v_guard_on rfl rfl ?_
                      refine v_move rfl ?_
                      refine v_guard_on rfl rfl ?_
                      refine v_neq lay2 rfl rfl (fun h11 => ?_) (fun h11 => ?_)
                      · skip
                        exact absurd rfl h11
                      · skip
                        refine v_pick_f rfl rfl ?_
                        refine v_nil ?_
                        refine q_n ?_
                        refine w_f rfl ?_
                        refine w_skip ?_
                        refine q_n ?_
                        refine w_seq ?_
                        refine w_reg rfl ?_
                        refine v_assign (c := .v (.int .i64 1)) rfl ?_
                        refine v_nil ?_
                        refine q_n ?_
                        refine w_seq ?_
                        refine w_reg rfl ?_
                        refine v_load_pt (.agg [_, _, _, _, _]) lay64 rfl rfl rfl rfl ?_
                        refine v_move rfl ?_
                        refine v_inl (n := 26) (drawD_ok X) (fun _ _ => Go.Proofs.Try.call43 _ _) Go.Proofs.Try.func43 rfl rfl rfl rfl ?_
                        refine w_seq ?_
                        refine w_reg rfl ?_
                        refine v_box (m := 12) (H' := [_, _, _, _, _, _, _, _, _, _, _, _, _]) lay64 rfl rfl rfl ?_
                        refine v_assign (c := .v (.int .i64 0)) rfl ?_
                        refine v_nil ?_
                        refine q_n ?_
                        refine w_seq ?_
                        refine w_reg rfl ?_
                        refine v_fa_pt (off' := 0) lay64 rfl rfl rfl ?_
                        refine v_load_pt (.c _) lay61 rfl rfl rfl rfl ?_
                        refine v_move rfl ?_
                        refine v_mark (H' := [_, _, _, _, _, _, _, _, _, _, _, _, _]) (c74 _ _ (by omega) (by omega)) rfl (sc_flat pe_sc _) (sc_flat pe_sc _) rfl rfl rfl rfl ?_
                        refine v_assign rfl ?_
                        refine v_nil ?_
                        refine q_n ?_
                        refine w_seq ?_
                        refine w_reg rfl ?_
                        refine v_fa_pt (off' := 1) lay64 rfl rfl rfl ?_
                        refine v_load_pt (.c _) lay61 rfl rfl rfl rfl ?_
                        refine v_move rfl ?_
                        refine v_mark (H' := [_, _, _, _, _, _, _, _, _, _, _, _, _]) (c74 _ _ (by omega) (by omega)) rfl (sc_flat pe_sc _) (sc_flat pe_sc _) rfl rfl rfl rfl ?_
                        refine v_assign rfl ?_
                        refine v_nil ?_
                        refine q_n ?_
                        refine w_seq ?_
                        refine w_reg rfl ?_
                        refine v_fa_pt (off' := 2) lay64 rfl rfl rfl ?_
                        refine v_load_pt (.c _) lay61 rfl rfl rfl rfl ?_
                        refine v_move rfl ?_
                        refine v_mark (H' := [_, _, _, _, _, _, _, _, _, _, _, _, _]) (c74 _ _ (by omega) (by omega)) rfl (sc_flat pe_sc _) (sc_flat pe_sc _) rfl rfl rfl rfl ?_
                        refine v_assign rfl ?_
                        refine v_nil ?_
                        refine q_n ?_
                        refine w_seq ?_
                        refine w_reg rfl ?_
                        refine v_fa_pt (off' := 3) lay64 rfl rfl rfl ?_
                        refine v_load_pt (.c _) lay28 rfl rfl rfl rfl ?_
                        refine v_move rfl ?_
                        refine v_mark (H' := [_, _, _, _, _, _, _, _, _, _, _, _, _]) (c35 _ _ (by omega) (by omega)) rfl (sc_flat int_sc _) (sc_flat int_sc _) rfl rfl rfl rfl ?_
                        refine v_assign rfl ?_
                        refine v_nil ?_
                        refine q_n ?_
                        refine w_seq ?_
                        refine w_reg rfl ?_
                        refine v_fa_pt (off' := 4) lay64 rfl rfl rfl ?_
                        refine v_load_pt (.c _) lay62 rfl rfl rfl rfl ?_
                        refine v_move rfl ?_
                        refine v_mark (H' := [_, _, _, _, _, _, _, _, _, _, _, _, _]) (c75 _ _ (by omega) (by omega)) rfl (sc_flat nce_sc _) (sc_flat nce_sc _) rfl rfl rfl rfl ?_
                        refine v_assign rfl ?_
                        refine v_nil ?_
                        refine q_n ?_
                        refine w_seq ?_
                        refine w_reg rfl ?_
                        refine v_move rfl ?_
                        refine v_assign rfl ?_
                        refine v_nil ?_
                        refine q_n ?_
                        refine w_ret ?_
                        refine r_r rfl ?_
                        refine v_assign rfl ?_
                        refine v_nil ?_
                        refine q_n ?_
                        refine w_seq ?_
                        refine w_reg rfl ?_
                        refine v_assign (c := .v (.int .i64 1)) rfl ?_
                        refine v_nil ?_
                        refine q_n ?_
                        refine w_seq ?_
                        refine w_reg rfl ?_
                        refine v_load_pt (.agg [_, _, _, _, _]) lay64 rfl rfl rfl rfl ?_
                        refine v_move rfl ?_
                        refine v_inl (n := 36) (drawD_ok X) (fun _ _ => Go.Proofs.Try.call44 _ _) Go.Proofs.Try.func44 rfl rfl rfl rfl ?_
                        refine w_seq ?_
                        refine w_reg rfl ?_
                        refine v_box (m := 13) (H' := [_, _, _, _, _, _, _, _, _, _, _, _, _, _]) lay64 rfl rfl rfl ?_
                        refine v_assign (c := .v (.int .i64 0)) rfl ?_
                        refine v_nil ?_
                        refine q_n ?_
                        refine w_seq ?_
                        refine w_reg rfl ?_
                        refine v_fa_pt (off' := 0) lay64 rfl rfl rfl ?_
                        refine v_load_pt (.c _) lay61 rfl rfl rfl rfl ?_
                        refine v_move rfl ?_
                        refine v_call (c76 _ _ (by omega) (by omega)) rfl rfl rfl (.cons (vw_mu2 pe_sc pe_len rfl (by first | (simp; done) | (simp; omega))) (.cons vw_v .nil)) ?_
                        refine v_assign rfl ?_
                        refine v_nil ?_
                        refine q_n ?_
                        refine w_seq ?_
                        refine w_seq ?_
                        refine w_reg rfl ?_
                        refine v_move rfl ?_
                        refine v_lss lay3 rfl rfl (fun h12 => ?_) (fun h12 => ?_)
                        · skip
                          exact absurd h12 (by omega)
                        · skip
                          refine v_nil ?_
                          refine q_n ?_
                          refine w_f rfl ?_
                          refine w_skip ?_
                          refine q_n ?_
                          refine w_seq ?_
                          refine w_reg rfl ?_
                          refine v_fa_pt (off' := 1) lay64 rfl rfl rfl ?_
                          refine v_load_pt (.c _) lay61 rfl rfl rfl rfl ?_
                          refine v_move rfl ?_
                          refine v_call (c76 _ _ (by omega) (by omega)) rfl rfl rfl (.cons (vw_mu2 pe_sc pe_len rfl (by first | (simp; done) | (simp; omega))) (.cons vw_v .nil)) ?_
                          refine v_assign rfl ?_
                          refine v_nil ?_
                          refine q_n ?_
                          refine w_seq ?_
                          refine w_seq ?_
                          refine w_reg rfl ?_
                          refine v_move rfl ?_
                          refine v_lss lay3 rfl rfl (fun h13 => ?_) (fun h13 => ?_)
                          · skip
                            exact absurd h13 (by omega)
                          · skip
                            refine v_nil ?_
                            refine q_n ?_
                            refine w_f rfl ?_
                            refine w_skip ?_
                            refine q_n ?_
                            refine w_seq ?_
                            refine w_reg rfl ?_
                            refine v_fa_pt (off' := 2) lay64 rfl rfl rfl ?_
                            refine v_load_pt (.c _) lay61 rfl rfl rfl rfl ?_
                            refine v_move rfl ?_
                            refine v_call (c76 _ _ (by omega) (by omega)) rfl rfl rfl (.cons (vw_mu2 pe_sc pe_len rfl (by first | (simp; done) | (simp; omega))) (.cons vw_v .nil)) ?_
                            refine v_assign rfl ?_
                            refine v_nil ?_
                            refine q_n ?_
                            refine w_seq ?_
                            refine w_seq ?_
                            refine w_reg rfl ?_
                            refine v_move rfl ?_
                            refine v_lss lay3 rfl rfl (fun h14 => ?_) (fun h14 => ?_)
                            · skip
                              exact absurd h14 (by omega)
                            · skip
                              refine v_nil ?_
                              refine q_n ?_
                              refine w_f rfl ?_
                              refine w_skip ?_
                              refine q_n ?_
                              refine w_seq ?_
                              refine w_reg rfl ?_
                              refine v_fa_pt (off' := 3) lay64 rfl rfl rfl ?_
                              refine v_load_pt (.c _) lay28 rfl rfl rfl rfl ?_
                              refine v_move rfl ?_
                              refine v_call (c36 _ _ (by omega) (by omega)) rfl rfl rfl (.cons (vw_mu2 int_sc int_len rfl (by first | (simp; done) | (simp; omega))) (.cons vw_v .nil)) ?_
                              refine v_assign rfl ?_
                              refine v_nil ?_
                              refine q_n ?_
                              refine w_seq ?_
                              refine w_seq ?_
                              refine w_reg rfl ?_
                              refine v_move rfl ?_
                              refine v_lss lay3 rfl rfl (fun h15 => ?_) (fun h15 => ?_)
                              · skip
                                exact absurd h15 (by omega)
                              · skip
                                refine v_nil ?_
                                refine q_n ?_
                                refine w_f rfl ?_
                                refine w_skip ?_
                                refine q_n ?_
                                refine w_seq ?_
                                refine w_reg rfl ?_
                                refine v_fa_pt (off' := 4) lay64 rfl rfl rfl ?_
                                refine v_load_pt (.c _) lay62 rfl rfl rfl rfl ?_
                                refine v_move rfl ?_
                                refine v_call (c77 _ _ (by omega) (by omega)) rfl rfl rfl (.cons (vw_mu2 nce_sc nce_len rfl (by first | (simp; done) | (simp; omega))) (.cons vw_v .nil)) ?_
                                refine v_assign rfl ?_
                                refine v_nil ?_
                                refine q_n ?_
                                refine w_seq ?_
                                refine w_seq ?_
                                refine w_reg rfl ?_
                                refine v_move rfl ?_
                                refine v_lss lay3 rfl rfl (fun h16 => ?_) (fun h16 => ?_)
                                · skip
                                  exact absurd h16 (by omega)
                                · skip
                                  refine v_nil ?_
                                  refine q_n ?_
                                  refine w_f rfl ?_
                                  refine w_skip ?_
                                  refine q_n ?_
                                  refine w_seq ?_
                                  refine w_reg rfl ?_
                                  refine v_move rfl ?_
                                  refine v_assign rfl ?_
                                  refine v_nil ?_
                                  refine q_n ?_
                                  refine w_ret ?_
                                  refine r_r rfl ?_
                                  refine v_assign rfl ?_
                                  refine v_nil ?_
                                  refine q_n ?_
                                  refine w_seq ?_
                                  refine w_seq ?_
                                  refine w_reg rfl ?_
                                  refine v_move rfl ?_
                                  refine v_lss lay3 rfl rfl (fun h17 => ?_) (fun h17 => ?_)
                                  · skip
                                    exact absurd h17 (by omega)
                                  · skip
                                    refine v_nil ?_
                                    refine q_n ?_
                                    refine w_f rfl ?_
                                    refine w_skip ?_
                                    refine q_n ?_
                                    refine w_seq ?_
                                    refine w_seq ?_
                                    refine w_reg rfl ?_
                                    refine v_move rfl ?_
                                    refine v_move rfl ?_
                                    refine v_neq lay3 rfl rfl (fun h18 => ?_) (fun h18 => ?_)
                                    · skip
                                      exact absurd (by omega) h18
                                    · skip
                                      refine v_nil ?_
                                      refine q_n ?_
                                      refine w_f rfl ?_
                                      refine w_skip ?_
                                      refine q_n ?_
                                      refine w_seq ?_
                                      refine w_reg rfl ?_
                                      refine v_load_pt (.agg [_, _]) lay30 rfl rfl rfl rfl ?_
                                      refine v_call (c17 _ _ hx2) rfl rfl rfl (.cons (vw_agg (.cons vw_v (.cons vw_sl .nil))) .nil) ?_
                                      refine v_move rfl ?_
                                      refine v_call (c22 _ (by omega)) rfl rfl rfl (.cons vw_sl .nil) ?_
                                      refine v_call (c41 p fs ds (by omega) (by omega)) rfl rfl rfl (.cons (vw_agg (.cons vw_v (.cons vw_sl .nil))) (.cons vw_sl .nil)) ?_
                                      refine v_move_t rfl ?_
                                      refine v_extract_a rfl rfl ?_
                                      refine v_extract_c rfl rfl ?_
                                      refine v_extract_c rfl rfl ?_
                                      refine v_alloc (m := 14) (H' := [_, _, _, _, _, _, _, _, _, _, _, _, _, _, ⟨[.v _, .v _, .v _, .v _, .v _], 64, true⟩]) lay64 rfl rfl ?_
                                      refine v_store (H' := [_, _, _, _, _, _, _, _, _, _, _, _, _, _, ⟨[_, _, _, _, _], 64, true⟩]) lay64 rfl rfl rfl rfl rfl rfl ?_
                                      refine v_assign rfl ?_
                                      refine v_assign rfl ?_
                                      refine v_nil ?_
                                      refine q_n ?_
                                      refine w_seq ?_
                                      refine w_seq ?_
                                      refine w_reg rfl ?_
                                      refine v_load_pt (.agg [_, _, _, _, _]) lay64 rfl rfl rfl rfl ?_
                                      refine v_load_pt (.agg [_, _, _, _, _]) lay64 rfl rfl rfl rfl ?_
                                      refine v_callb (c42 (boR p fs ds).1 (boR p fs ds).1 (by omega) (by omega) (by omega) (by omega) (by omega)) rfl rfl (.cons (vw_agg (.cons vw_sl (.cons vw_sl (.cons vw_sl (.cons vw_sl (.cons vw_sl .nil)))))) (.cons (vw_agg (.cons vw_sl (.cons vw_sl (.cons vw_sl (.cons vw_sl (.cons vw_sl .nil)))))) .nil)) (fun h19 => ?_) (fun h19 => ?_)
                                      · skip
                                        refine v_not false rfl rfl ?_
                                        refine v_move rfl ?_
                                        refine v_guard_on rfl rfl ?_
                                        refine v_move rfl ?_
                                        refine v_guard_on rfl rfl ?_
                                        refine v_move rfl ?_
                                        refine v_guard_on rfl rfl ?_
                                        refine v_neq lay2 rfl rfl (fun h20 => ?_) (fun h20 => ?_)
                                        · skip
                                          exact absurd rfl h20
                                        · skip
                                          refine v_pick_f rfl rfl ?_
                                          refine v_move rfl ?_
                                          refine v_guard_on rfl rfl ?_
                                          refine v_move rfl ?_
                                          refine v_guard_on rfl rfl ?_
                                          refine v_move rfl ?_
                                          refine v_guard_on rfl rfl ?_
                                          refine v_neq lay2 rfl rfl (fun h21 => ?_) (fun h21 => ?_)
                                          · skip
                                            exact absurd rfl h21
                                          · skip
                                            refine v_pick_f rfl rfl ?_
                                            refine v_nil ?_
                                            refine q_n ?_
                                            refine w_f rfl ?_
                                            refine w_skip ?_
                                            refine q_n ?_
                                            refine w_seq ?_
                                            refine w_reg rfl ?_
                                            refine v_assign (c := .v (.int .i64 1)) rfl ?_
                                            refine v_nil ?_
                                            refine q_n ?_
                                            refine w_seq ?_
                                            refine w_reg rfl ?_
                                            refine v_load_pt (.agg [_, _, _, _, _]) lay64 rfl rfl rfl rfl ?_
                                            refine v_move rfl ?_
                                            refine v_inl (n := 36) (drawD_ok X) (fun _ _ => Go.Proofs.Try.call44 _ _) Go.Proofs.Try.func44 rfl rfl rfl rfl ?_
                                            refine w_seq ?_
                                            refine w_reg rfl ?_
                                            refine v_box (m := 15) (H' := [_, _, _, _, _, _, _, _, _, _, _, _, _, _, _, _]) lay64 rfl rfl rfl ?_
                                            refine v_assign (c := .v (.int .i64 0)) rfl ?_
                                            refine v_nil ?_
                                            refine q_n ?_
                                            refine w_seq ?_
                                            refine w_reg rfl ?_
                                            refine v_fa_pt (off' := 0) lay64 rfl rfl rfl ?_
                                            refine v_load_pt (.c _) lay61 rfl rfl rfl rfl ?_
                                            refine v_move rfl ?_
                                            refine v_call (c76 _ _ (by omega) (by omega)) rfl rfl rfl (.cons (vw_mu2 pe_sc pe_len rfl (by first | (simp; done) | (simp; omega))) (.cons vw_v .nil)) ?_
                                            refine v_assign rfl ?_
                                            refine v_nil ?_
                                            refine q_n ?_
                                            refine w_seq ?_
                                            refine w_seq ?_
                                            refine w_reg rfl ?_
                                            refine v_move rfl ?_
                                            refine v_lss lay3 rfl rfl (fun h22 => ?_) (fun h22 => ?_)
                                            · skip
                                              exact absurd h22 (by omega)
                                            · skip
                                              refine v_nil ?_
                                              refine q_n ?_
                                              refine w_f rfl ?_
                                              refine w_skip ?_
                                              refine q_n ?_
                                              refine w_seq ?_
                                              refine w_reg rfl ?_
                                              refine v_fa_pt (off' := 1) lay64 rfl rfl rfl ?_
                                              refine v_load_pt (.c _) lay61 rfl rfl rfl rfl ?_
                                              refine v_move rfl ?_
                                              refine v_call (c76 _ _ (by omega) (by omega)) rfl rfl rfl (.cons (vw_mu2 pe_sc pe_len rfl (by first | (simp; done) | (simp; omega))) (.cons vw_v .nil)) ?_
                                              refine v_assign rfl ?_
                                              refine v_nil ?_
                                              refine q_n ?_
                                              refine w_seq ?_
                                              refine w_seq ?_
                                              refine w_reg rfl ?_
                                              refine v_move rfl ?_
                                              refine v_lss lay3 rfl rfl (fun h23 => ?_) (fun h23 => ?_)
                                              · skip
                                                exact absurd h23 (by omega)
                                              · skip
                                                refine v_nil ?_
                                                refine q_n ?_
                                                refine w_f rfl ?_
                                                refine w_skip ?_
                                                refine q_n ?_
                                                refine w_seq ?_
                                                refine w_reg rfl ?_
                                                refine v_fa_pt (off' := 2) lay64 rfl rfl rfl ?_
                                                refine v_load_pt (.c _) lay61 rfl rfl rfl rfl ?_
                                                refine v_move rfl ?_
                                                refine v_call (c76 _ _ (by omega) (by omega)) rfl rfl rfl (.cons (vw_mu2 pe_sc pe_len rfl (by first | (simp; done) | (simp; omega))) (.cons vw_v .nil)) ?_
                                                refine v_assign rfl ?_
                                                refine v_nil ?_
                                                refine q_n ?_
                                                refine w_seq ?_
                                                refine w_seq ?_
                                                refine w_reg rfl ?_
                                                refine v_move rfl ?_
                                                refine v_lss lay3 rfl rfl (fun h24 => ?_) (fun h24 => ?_)
                                                · skip
                                                  exact absurd h24 (by omega)
                                                · skip
                                                  refine v_nil ?_
                                                  refine q_n ?_
                                                  refine w_f rfl ?_
                                                  refine w_skip ?_
                                                  refine q_n ?_
                                                  refine w_seq ?_
                                                  refine w_reg rfl ?_
                                                  refine v_fa_pt (off' := 3) lay64 rfl rfl rfl ?_
                                                  refine v_load_pt (.c _) lay28 rfl rfl rfl rfl ?_
                                                  refine v_move rfl ?_
                                                  refine v_call (c36 _ _ (by omega) (by omega)) rfl rfl rfl (.cons (vw_mu2 int_sc int_len rfl (by first | (simp; done) | (simp; omega))) (.cons vw_v .nil)) ?_
                                                  refine v_assign rfl ?_
                                                  refine v_nil ?_
                                                  refine q_n ?_
                                                  refine w_seq ?_
                                                  refine w_seq ?_
                                                  refine w_reg rfl ?_
                                                  refine v_move rfl ?_
                                                  refine v_lss lay3 rfl rfl (fun h25 => ?_) (fun h25 => ?_)
                                                  · skip
                                                    exact absurd h25 (by omega)
                                                  · skip
                                                    refine v_nil ?_
                                                    refine q_n ?_
                                                    refine w_f rfl ?_
                                                    refine w_skip ?_
                                                    refine q_n ?_
                                                    refine w_seq ?_
                                                    refine w_reg rfl ?_
                                                    refine v_fa_pt (off' := 4) lay64 rfl rfl rfl ?_
                                                    refine v_load_pt (.c _) lay62 rfl rfl rfl rfl ?_
                                                    refine v_move rfl ?_
                                                    refine v_call (c77 _ _ (by omega) (by omega)) rfl rfl rfl (.cons (vw_mu2 nce_sc nce_len rfl (by first | (simp; done) | (simp; omega))) (.cons vw_v .nil)) ?_
                                                    refine v_assign rfl ?_
                                                    refine v_nil ?_
                                                    refine q_n ?_
                                                    refine w_seq ?_
                                                    refine w_seq ?_
                                                    refine w_reg rfl ?_
                                                    refine v_move rfl ?_
                                                    refine v_lss lay3 rfl rfl (fun h26 => ?_) (fun h26 => ?_)
                                                    · skip
                                                      exact absurd h26 (by omega)
                                                    · skip
                                                      refine v_nil ?_
                                                      refine q_n ?_
                                                      refine w_f rfl ?_
                                                      refine w_skip ?_
                                                      refine q_n ?_
                                                      refine w_seq ?_
                                                      refine w_reg rfl ?_
                                                      refine v_move rfl ?_
                                                      refine v_assign rfl ?_
                                                      refine v_nil ?_
                                                      refine q_n ?_
                                                      refine w_ret ?_
                                                      refine r_r rfl ?_
                                                      refine v_assign rfl ?_
                                                      refine v_nil ?_
                                                      refine q_n ?_
                                                      refine w_seq ?_
                                                      refine w_seq ?_
                                                      refine w_reg rfl ?_
                                                      refine v_move rfl ?_
                                                      refine v_lss lay3 rfl rfl (fun h27 => ?_) (fun h27 => ?_)
                                                      · skip
                                                        exact absurd h27 (by omega)
                                                      · skip
                                                        refine v_nil ?_
                                                        refine q_n ?_
                                                        refine w_f rfl ?_
                                                        refine w_skip ?_
                                                        refine q_n ?_
                                                        refine w_seq ?_
                                                        refine w_seq ?_
                                                        refine w_reg rfl ?_
                                                        refine v_move rfl ?_
                                                        refine v_move rfl ?_
                                                        refine v_neq lay3 rfl rfl (fun h28 => ?_) (fun h28 => ?_)
                                                        · skip
                                                          exact absurd (by omega) h28
                                                        · skip
                                                          refine v_nil ?_
                                                          refine q_n ?_
                                                          refine w_f rfl ?_
                                                          refine w_skip ?_
                                                          refine q_n ?_
                                                          refine w_seq ?_
                                                          refine w_reg rfl ?_
                                                          refine v_assign (c := .v (.bool true)) rfl ?_
                                                          refine v_nil ?_
                                                          refine q_n ?_
                                                          refine w_ret ?_
                                                          refine r_r rfl ?_
                                                          exact tr_v
                                      · skip
                                        exact absurd rfl h19
                  · skip
                    exact absurd rfl h9
              · skip
                exact absurd rfl h7
            · skip
              exact absurd ⟨rfl, rfl⟩ h6
      · skip
        exact absurd rfl h3
end Go.VL
