/- Texts of one proof, put together: P8, B0. -/
import Derived.Test.YtenaamehifbfeaaM5
import Derived.Test.YtenaamehifbfeaaRows
import Derived.ProofKit
import Derived.Below
import Derived.ChangeSame
import Derived.Handed
import Derived.KernelRfl
namespace Go.VL
open Go.RowKit
set_option maxRecDepth 20000
set_option maxHeartbeats 8000000
theorem c54f (xs : List Tal) (hk : okL xs) (hb : T16 xs) : PureC X 54 [.c (tals false (xs.filter gdB)), .c (.v (.int .i16 20))] (.tup [.c (tals true (xs.filter gdB)), cI 0]) := by
  have h := c54 (xs.filter gdB) (okL_filter hk gdB) (t16_filter hb gdB) (by have := (okL_filter hk gdB).1; omega)
  have e : (xs.filter gdB).filter gdB = xs.filter gdB := by simp
  rwa [e] at h
theorem sm_end {xs : List Tal} {q : Nat} (hi : q + 1 ≤ xs.length ∨ q = 0) (h : ¬ q + 1 < xs.length) : smB xs xs.length = smB xs (q + 1) := by
  by_cases e : xs.length = q + 1
  · rw [e]
  · obtain rfl : q = 0 := by omega
    have e0 : xs.length = 0 := by omega
    rw [e0]
    simp [smB, stk]
theorem tr_bb {H : List Ob} {g : List (Option Nat)} {a b : Bool} (h : a = b) : TrV H g (cB a) (cB b) := by rw [h]; exact tr_v
theorem c13 (code more : List Int) (hc : B8 code) (hm : B8 more) (hl : code.length ≤ maxLen) (hl2 : more.length ≤ maxLen) : PureC X 13 [.c (bys false code), .c (bys false more)] (cB true) := by
  refine PureC.of_body (drawD_ok X) (fun _ _ => Go.Proofs.Try.call13 _ _) Go.Proofs.Try.func13 rfl (n := 263) rfl ?_
  refine w_seq ?_
  refine w_reg rfl ?_
  refine v_assign (c := .v (.bool false)) rfl ?_
  refine v_nil ?_
  refine q_n ?_
  refine w_seq ?_
  refine w_seq ?_
  refine w_reg rfl ?_
  refine v_move rfl ?_
  refine v_callb (c48 _) rfl rfl (.cons vw_sl .nil) (fun h1 => ?_) (fun h1 => ?_)
  · refine v_move rfl ?_
    refine v_guard_off rfl rfl rfl ?_
    refine v_guard_off rfl rfl rfl ?_
    refine v_pick_t (v := .v (.bool true)) rfl rfl ?_
    refine v_nil ?_
    refine q_n ?_
    refine w_t rfl ?_
    refine w_seq ?_
    refine w_reg rfl ?_
    refine v_assign (c := .v (.bool true)) rfl ?_
    refine v_nil ?_
    refine q_n ?_
    refine w_ret (q_r ?_)
    refine r_r rfl ?_
    exact tr_v
  refine v_move rfl ?_
  refine v_guard_on rfl rfl ?_
  refine v_move rfl ?_
  refine v_guard_on rfl rfl ?_
  refine v_callb (c48 _) rfl rfl (.cons vw_sl .nil) (fun h2 => ?_) (fun h2 => ?_)
  · refine v_pick_f rfl rfl ?_
    refine v_nil ?_
    refine q_n ?_
    refine w_t rfl ?_
    refine w_seq ?_
    refine w_reg rfl ?_
    refine v_assign (c := .v (.bool true)) rfl ?_
    refine v_nil ?_
    refine q_n ?_
    refine w_ret (q_r ?_)
    refine r_r rfl ?_
    exact tr_v
  refine v_pick_f rfl rfl ?_
  refine v_nil ?_
  refine q_n ?_
  refine w_f rfl ?_
  refine w_skip ?_
  refine q_n ?_
  refine w_seq ?_
  refine w_reg rfl ?_
  refine v_move rfl ?_
  refine v_callE (c49 code hc (by unfold maxLen at hl hl2; omega)) (by rintro _ ⟨xs, -, rfl⟩; rfl) rfl rfl (.cons vw_sl .nil) ?_
  rintro _ ⟨xs, hd, rfl⟩
  obtain ⟨k1xs, k2xs, k3xs⟩ := hd.ok
  refine v_assign rfl ?_
  refine v_nil ?_
  refine q_n ?_
  refine w_seq ?_
  refine w_reg rfl ?_
  refine v_move rfl ?_
  refine v_callE (c49 more hm (by unfold maxLen at hl hl2; omega)) (by rintro _ ⟨xs, -, rfl⟩; rfl) rfl rfl (.cons vw_sl .nil) ?_
  rintro _ ⟨ys, hd2, rfl⟩
  obtain ⟨k1ys, k2ys, k3ys⟩ := hd2.ok
  refine v_assign rfl ?_
  refine v_nil ?_
  refine q_n ?_
  refine w_seq ?_
  refine w_reg rfl ?_
  refine v_move rfl ?_
  refine v_call (c51 more (3) hm (by omega) (by omega)) rfl rfl rfl (.cons vw_sl (.cons vw_v .nil)) ?_
  have hq1 := dp_rng (code := more) (n := 3) (a := 0) (s := 0) hm
  generalize dpR more (3) 0 0 = q1 at hq1 ⊢
  refine v_add lay2 rfl rfl (i64r (by omega)) ?_
  refine v_assign rfl ?_
  refine v_nil ?_
  refine q_n ?_
  refine w_seq ?_
  refine w_reg rfl ?_
  refine v_move rfl ?_
  refine v_call (c51 code (200) hc (by omega) (by omega)) rfl rfl rfl (.cons vw_sl (.cons vw_v .nil)) ?_
  have hq2 := dp_rng (code := code) (n := 200) (a := 0) (s := 0) hc
  generalize dpR code (200) 0 0 = q2 at hq2 ⊢
  obtain ⟨d, e, hi35, hi34, hde⟩ := inc_ex xs ys hd hd2 q2 (1 + q1) (by omega) (by omega)
  refine v_conv_if lay2 lay22 rfl ?_
  refine v_assign rfl ?_
  refine v_nil ?_
  refine q_n ?_
  refine w_seq ?_
  refine w_reg rfl ?_
  refine v_move rfl ?_
  refine v_move rfl ?_
  refine v_move rfl ?_
  refine v_move rfl ?_
  refine v_call (hi35) rfl rfl rfl (.cons vw_sl (.cons vw_sl (.cons vw_f (.cons vw_f (.cons vw_v .nil))))) ?_
  refine v_move_t rfl ?_
  refine v_extract_c rfl rfl ?_
  refine v_extract_c rfl rfl ?_
  refine v_assign rfl ?_
  refine v_assign rfl ?_
  refine v_nil ?_
  refine q_n ?_
  refine w_seq ?_
  refine w_reg rfl ?_
  refine v_move rfl ?_
  refine v_move rfl ?_
  refine v_move rfl ?_
  refine v_move rfl ?_
  refine v_call (hi34) rfl rfl rfl (.cons vw_sl (.cons vw_sl (.cons vw_f (.cons vw_f (.cons vw_v .nil))))) ?_
  refine v_move_t rfl ?_
  refine v_extract_c rfl rfl ?_
  refine v_extract_c rfl rfl ?_
  refine v_assign rfl ?_
  refine v_assign rfl ?_
  refine v_nil ?_
  refine q_n ?_
  refine w_seq ?_
  refine w_reg rfl ?_
  refine v_move rfl ?_
  refine v_move rfl ?_
  refine v_call (inc_no xs hd) rfl rfl rfl (.cons vw_sl (.cons vw_sl (.cons vw_f (.cons vw_f (.cons vw_v .nil))))) ?_
  refine v_move_t rfl ?_
  refine v_extract_c rfl rfl ?_
  refine v_extract_c rfl rfl ?_
  refine v_assign rfl ?_
  refine v_assign rfl ?_
  refine v_nil ?_
  refine q_n ?_
  refine w_seq ?_
  refine w_seq ?_
  refine w_reg rfl ?_
  refine v_move rfl ?_
  refine v_move rfl ?_
  refine v_neq lay2 rfl rfl (fun h3 => ?_) (fun h3 => ?_)
  · exact absurd rfl h3
  refine v_move rfl ?_
  refine v_guard_on rfl rfl ?_
  refine v_move rfl ?_
  refine v_guard_on rfl rfl ?_
  refine v_move rfl ?_
  refine v_guard_on rfl rfl ?_
  refine v_neq lay2 rfl rfl (fun h4 => ?_) (fun h4 => ?_)
  · exact absurd rfl h4
  refine v_pick_f rfl rfl ?_
  refine v_move rfl ?_
  refine v_guard_on rfl rfl ?_
  refine v_move rfl ?_
  refine v_guard_on rfl rfl ?_
  refine v_neq lay2 rfl rfl (fun h5 => ?_) (fun h5 => ?_)
  · exact absurd (by decide) h5
  refine v_pick_f rfl rfl ?_
  refine v_nil ?_
  refine q_n ?_
  refine w_f rfl ?_
  refine w_skip ?_
  refine q_n ?_
  refine w_seq ?_
  refine w_seq ?_
  refine w_reg rfl ?_
  refine v_move rfl ?_
  refine v_eql lay2 rfl rfl (fun h6 => ?_) (fun h6 => ?_)
  rotate_left
  · have he6 := hde.resolve_right (fun h => h6 h.1)
    refine v_nil ?_
    refine q_n ?_
    refine w_f rfl ?_
    refine w_seq ?_
    refine w_reg rfl ?_
    refine v_move rfl ?_
    refine v_neq lay2 rfl rfl (fun h59 => ?_) (fun h59 => ?_)
    · exact absurd he6 h59
    refine v_nil ?_
    refine q_n ?_
    refine w_f rfl ?_
    refine w_skip ?_
    refine q_n ?_
    refine w_seq ?_
    refine w_reg rfl ?_
    refine v_move rfl ?_
    refine v_call (c52 xs k1xs k2xs (by omega)) rfl rfl rfl (.cons vw_sl (.cons vw_v .nil)) ?_
    refine v_move_t rfl ?_
    refine v_extract_c rfl rfl ?_
    refine v_extract_c rfl rfl ?_
    refine v_assign rfl ?_
    refine v_assign rfl ?_
    refine v_nil ?_
    refine q_n ?_
    refine w_seq ?_
    refine w_reg rfl ?_
    refine v_move rfl ?_
    refine v_call (c53 xs k1xs (by omega)) rfl rfl rfl (.cons vw_sl (.cons vw_v .nil)) ?_
    refine v_move_t rfl ?_
    refine v_extract_c rfl rfl ?_
    refine v_extract_c rfl rfl ?_
    refine v_assign rfl ?_
    refine v_assign rfl ?_
    refine v_nil ?_
    refine q_n ?_
    refine w_seq ?_
    refine w_seq ?_
    refine w_reg rfl ?_
    refine v_move rfl ?_
    refine v_move rfl ?_
    refine v_neq lay2 rfl rfl (fun h60 => ?_) (fun h60 => ?_)
    · exact absurd rfl h60
    refine v_move rfl ?_
    refine v_guard_on rfl rfl ?_
    refine v_move rfl ?_
    refine v_guard_on rfl rfl ?_
    refine v_move rfl ?_
    refine v_guard_on rfl rfl ?_
    refine v_neq lay2 rfl rfl (fun h61 => ?_) (fun h61 => ?_)
    · exact absurd rfl h61
    refine v_pick_f rfl rfl ?_
    refine v_nil ?_
    refine q_n ?_
    refine w_f rfl ?_
    refine w_skip ?_
    refine q_n ?_
    refine w_seq ?_
    refine w_reg rfl ?_
    refine v_assign (c := .v (.bool false)) rfl ?_
    refine v_nil ?_
    refine q_n ?_
    refine w_seq ?_
    refine w_seq ?_
    refine w_reg rfl ?_
    refine v_assign (c := .v (.int .i64 1)) rfl ?_
    refine v_nil ?_
    refine q_n ?_
    refine w_block ?_
    refine w_loop (fun k sl H => ∃ q : Nat, k = xs.length - (q + 1) ∧ (q + 1 ≤ xs.length ∨ q = 0) ∧ sl = sls [(5, .c (tals true xs)), (6, .c (tals true ys)), (20, cI (fsR xs).2), (23, cB (smB xs (q + 1))), (24, cI ((q : Int) + 1))] ∧ H = []) ?_ ?_
    · refine ⟨_, _, _, ?_, 0, rfl, .inr rfl, rfl, rfl⟩
      exact turn0 ⟨tr_sl, tr_sl, tr_v, tr_bb (by simp [smB, stk]), tr_v, trivial⟩
    rintro k sl H ⟨q, rfl, hi, rfl, rfl⟩
    rcases hacc : smB xs (q + 1) with _ | _
    · skip
      refine w_seq ?_
      refine w_seq ?_
      refine w_reg rfl ?_
      refine v_move rfl ?_
      refine v_move rfl ?_
      refine v_len_sl lay40 rfl ?_
      refine v_lss lay3 rfl rfl (fun h62 => ?_) (fun h62 => ?_)
      · have hi1 : q + 1 < xs.length := by omega
        have hq1 : q < xs.length := by omega
        have hk1 := k1xs.at hi1
        refine v_nil ?_
        refine q_n ?_
        refine w_t rfl ?_
        refine w_skip ?_
        refine q_n ?_
        refine w_seq ?_
        refine w_block ?_
        refine w_draw [0, 1, 3, 3, 15, 31, 63, 127, 255, 511, 511, 2047, 4095, 8191, 511, 511, 33279, 115199, 246271, 508415, 1048575, 2097151, 4194303, 8388607, 8388607, 33554431, 67108863, 134217727, 8388607, 8388607, 545259519, 1887436799, 4034920447, 8329887743, 17179869183, 34359738367, 68719476735, 137438953471] [⟨0, 0, []⟩, ⟨1, 0, []⟩, ⟨2, 0, []⟩, ⟨3, 0, []⟩, ⟨4, 0, []⟩, ⟨5, 0, []⟩, ⟨6, 0, []⟩, ⟨7, 0, []⟩, ⟨8, 0, []⟩, ⟨9, 0, []⟩, ⟨10, 0, []⟩, ⟨11, 0, []⟩, ⟨12, 0, []⟩, ⟨13, 0, []⟩, ⟨14, 0, []⟩, ⟨15, 0, []⟩, ⟨16, 0, []⟩, ⟨17, 0, []⟩, ⟨18, 0, []⟩, ⟨19, 0, []⟩, ⟨20, 0, []⟩, ⟨21, 0, []⟩, ⟨22, 0, []⟩, ⟨23, 0, []⟩, ⟨24, 0, []⟩, ⟨25, 0, []⟩, ⟨26, 0, []⟩, ⟨27, 0, []⟩, ⟨28, 0, []⟩, ⟨29, 0, []⟩, ⟨30, 0, []⟩, ⟨31, 0, []⟩, ⟨32, 0, []⟩, ⟨33, 0, []⟩, ⟨34, 0, []⟩, ⟨35, 0, []⟩, ⟨36, 0, []⟩, ⟨37, 0, []⟩] rfl rfl ?_
        refine d_q rfl rfl rfl rfl rfl ?_
        refine v_move rfl ?_
        refine v_nil ?_
        refine d_q rfl rfl rfl rfl rfl ?_
        refine v_move rfl ?_
        refine v_nil ?_
        refine d_q rfl rfl rfl rfl rfl ?_
        refine v_move rfl ?_
        refine v_nil ?_
        refine d_q rfl rfl rfl rfl rfl ?_
        refine v_move rfl ?_
        refine v_nil ?_
        refine d_q rfl rfl rfl rfl rfl ?_
        refine v_idx_e (k := 3) ((q + 1)) te_len lay40 lay27 rfl rfl rfl (rfl) rfl ((by push_cast; rfl)) (hi1) ?_
        refine v_nil ?_
        refine d_q rfl rfl rfl rfl rfl ?_
        refine v_fa_vw (off' := 1) lay27 rfl rfl rfl ?_
        refine v_nil ?_
        refine d_q rfl rfl rfl rfl rfl ?_
        refine v_load_vw (.c (.v _)) lay23 rfl rfl rfl ?_
        refine v_nil ?_
        refine d_q rfl rfl rfl rfl rfl ?_
        refine v_gtr lay23 rfl rfl (fun h64 => ?_) (fun h64 => ?_)
        rotate_left
        · have hs1 := h64
          refine v_nil ?_
          refine d_q rfl rfl rfl rfl rfl ?_
          refine v_move rfl ?_
          refine v_nil ?_
          refine d_off rfl rfl ?_
          refine d_off rfl rfl ?_
          refine d_off rfl rfl ?_
          refine d_off rfl rfl ?_
          refine d_off rfl rfl ?_
          refine d_off rfl rfl ?_
          refine d_off rfl rfl ?_
          refine d_off rfl rfl ?_
          refine d_off rfl rfl ?_
          refine d_off rfl rfl ?_
          refine d_off rfl rfl ?_
          refine d_off rfl rfl ?_
          refine d_q rfl rfl rfl rfl rfl ?_
          refine v_pick_f (v := .v (.bool false)) rfl rfl ?_
          refine v_nil ?_
          refine d_q rfl rfl rfl rfl rfl ?_
          refine v_move rfl ?_
          refine v_nil ?_
          refine d_off rfl rfl ?_
          refine d_off rfl rfl ?_
          refine d_off rfl rfl ?_
          refine d_off rfl rfl ?_
          refine d_off rfl rfl ?_
          refine d_off rfl rfl ?_
          refine d_off rfl rfl ?_
          refine d_off rfl rfl ?_
          refine d_off rfl rfl ?_
          refine d_off rfl rfl ?_
          refine d_off rfl rfl ?_
          refine d_off rfl rfl ?_
          refine d_q rfl rfl rfl rfl rfl ?_
          refine v_pick_f (v := .v (.bool false)) rfl rfl ?_
          refine v_nil ?_
          refine d_q rfl rfl rfl rfl rfl ?_
          refine v_pick_f rfl rfl ?_
          refine v_nil ?_
          refine d_q rfl rfl rfl rfl rfl ?_
          refine v_assign rfl ?_
          refine v_nil ?_
          refine d_nil ?_
          refine q_bn ?_
          refine q_n ?_
          refine w_reg rfl ?_
          refine v_move rfl ?_
          refine v_add lay3 rfl rfl (i64r (by omega)) ?_
          refine v_assign rfl ?_
          refine v_nil ?_
          refine q_n ?_
          refine ⟨_, _, _, ?_, ⟨q + 1, rfl, by omega, rfl, rfl⟩, by omega⟩
          exact turn0 ⟨tr_sl, tr_sl, tr_v, tr_bb (sm_f hacc (stk_z hi1 (by omega))), tr_v, trivial⟩
        have hs1 := h64
        refine v_nil ?_
        refine d_q rfl rfl rfl rfl rfl ?_
        refine v_move rfl ?_
        refine v_nil ?_
        refine d_q rfl rfl rfl rfl rfl ?_
        refine v_move rfl ?_
        refine v_nil ?_
        refine d_q rfl rfl rfl rfl rfl ?_
        refine v_move rfl ?_
        refine v_nil ?_
        refine d_q rfl rfl rfl rfl rfl ?_
        refine v_idx_e (k := 3) ((q + 1)) te_len lay40 lay27 rfl rfl rfl (rfl) rfl ((by push_cast; rfl)) (hi1) ?_
        refine v_nil ?_
        refine d_q rfl rfl rfl rfl rfl ?_
        refine v_fa_vw (off' := 1) lay27 rfl rfl rfl ?_
        refine v_nil ?_
        refine d_q rfl rfl rfl rfl rfl ?_
        refine v_load_vw (.c (.v _)) lay23 rfl rfl rfl ?_
        refine v_nil ?_
        refine d_q rfl rfl rfl rfl rfl ?_
        refine v_move rfl ?_
        refine v_nil ?_
        refine d_q rfl rfl rfl rfl rfl ?_
        refine v_move rfl ?_
        refine v_nil ?_
        refine d_q rfl rfl rfl rfl rfl ?_
        refine v_sub lay3 rfl rfl (i64r (by omega)) ?_
        refine v_nil ?_
        refine d_q rfl rfl rfl rfl rfl ?_
        refine v_idx_e (k := 3) (q) te_len lay40 lay27 rfl rfl rfl (rfl) rfl (by omega) (hq1) ?_
        refine v_nil ?_
        refine d_q rfl rfl rfl rfl rfl ?_
        refine v_fa_vw (off' := 1) lay27 rfl rfl rfl ?_
        refine v_nil ?_
        refine d_q rfl rfl rfl rfl rfl ?_
        refine v_load_vw (.c (.v _)) lay23 rfl rfl rfl ?_
        refine v_nil ?_
        refine d_q rfl rfl rfl rfl rfl ?_
        refine v_eql lay23 rfl rfl (fun h67 => ?_) (fun h67 => ?_)
        rotate_left
        · have hs2 := h67
          refine v_nil ?_
          refine d_q rfl rfl rfl rfl rfl ?_
          refine v_pick_t rfl rfl ?_
          refine v_nil ?_
          refine d_q rfl rfl rfl rfl rfl ?_
          refine v_move rfl ?_
          refine v_nil ?_
          refine d_off rfl rfl ?_
          refine d_off rfl rfl ?_
          refine d_off rfl rfl ?_
          refine d_off rfl rfl ?_
          refine d_off rfl rfl ?_
          refine d_off rfl rfl ?_
          refine d_off rfl rfl ?_
          refine d_off rfl rfl ?_
          refine d_off rfl rfl ?_
          refine d_off rfl rfl ?_
          refine d_off rfl rfl ?_
          refine d_off rfl rfl ?_
          refine d_q rfl rfl rfl rfl rfl ?_
          refine v_pick_f (v := .v (.bool false)) rfl rfl ?_
          refine v_nil ?_
          refine d_q rfl rfl rfl rfl rfl ?_
          refine v_pick_f rfl rfl ?_
          refine v_nil ?_
          refine d_q rfl rfl rfl rfl rfl ?_
          refine v_assign rfl ?_
          refine v_nil ?_
          refine d_nil ?_
          refine q_bn ?_
          refine q_n ?_
          refine w_reg rfl ?_
          refine v_move rfl ?_
          refine v_add lay3 rfl rfl (i64r (by omega)) ?_
          refine v_assign rfl ?_
          refine v_nil ?_
          refine q_n ?_
          refine ⟨_, _, _, ?_, ⟨q + 1, rfl, by omega, rfl, rfl⟩, by omega⟩
          exact turn0 ⟨tr_sl, tr_sl, tr_v, tr_bb (sm_f hacc (stk_c hi1 hq1 (fun h => hs2 h.symm))), tr_v, trivial⟩
        have hs2 := h67
        refine v_nil ?_
        refine d_q rfl rfl rfl rfl rfl ?_
        refine v_pick_t rfl rfl ?_
        refine v_nil ?_
        refine d_q rfl rfl rfl rfl rfl ?_
        refine v_move rfl ?_
        refine v_nil ?_
        refine d_q rfl rfl rfl rfl rfl ?_
        refine v_move rfl ?_
        refine v_nil ?_
        refine d_q rfl rfl rfl rfl rfl ?_
        refine v_move rfl ?_
        refine v_nil ?_
        refine d_q rfl rfl rfl rfl rfl ?_
        refine v_idx_e (k := 3) ((q + 1)) te_len lay40 lay27 rfl rfl rfl (rfl) rfl ((by push_cast; rfl)) (hi1) ?_
        refine v_nil ?_
        refine d_q rfl rfl rfl rfl rfl ?_
        refine v_fa_vw (off' := 2) lay27 rfl rfl rfl ?_
        refine v_nil ?_
        refine d_q rfl rfl rfl rfl rfl ?_
        refine v_load_vw (.c (.v _)) lay23 rfl rfl rfl ?_
        refine v_nil ?_
        refine d_q rfl rfl rfl rfl rfl ?_
        refine v_move rfl ?_
        refine v_nil ?_
        refine d_q rfl rfl rfl rfl rfl ?_
        refine v_move rfl ?_
        refine v_nil ?_
        refine d_q rfl rfl rfl rfl rfl ?_
        refine v_sub lay3 rfl rfl (i64r (by omega)) ?_
        refine v_nil ?_
        refine d_q rfl rfl rfl rfl rfl ?_
        refine v_idx_e (k := 3) (q) te_len lay40 lay27 rfl rfl rfl (rfl) rfl (by omega) (hq1) ?_
        refine v_nil ?_
        refine d_q rfl rfl rfl rfl rfl ?_
        refine v_fa_vw (off' := 2) lay27 rfl rfl rfl ?_
        refine v_nil ?_
        refine d_q rfl rfl rfl rfl rfl ?_
        refine v_load_vw (.c (.v _)) lay23 rfl rfl rfl ?_
        refine v_nil ?_
        refine d_q rfl rfl rfl rfl rfl ?_
        refine v_eql lay23 rfl rfl (fun h70 => ?_) (fun h70 => ?_)
        rotate_left
        · have hs3 := h70
          refine v_nil ?_
          refine d_q rfl rfl rfl rfl rfl ?_
          refine v_pick_t rfl rfl ?_
          refine v_nil ?_
          refine d_q rfl rfl rfl rfl rfl ?_
          refine v_pick_f rfl rfl ?_
          refine v_nil ?_
          refine d_q rfl rfl rfl rfl rfl ?_
          refine v_assign rfl ?_
          refine v_nil ?_
          refine d_nil ?_
          refine q_bn ?_
          refine q_n ?_
          refine w_reg rfl ?_
          refine v_move rfl ?_
          refine v_add lay3 rfl rfl (i64r (by omega)) ?_
          refine v_assign rfl ?_
          refine v_nil ?_
          refine q_n ?_
          refine ⟨_, _, _, ?_, ⟨q + 1, rfl, by omega, rfl, rfl⟩, by omega⟩
          exact turn0 ⟨tr_sl, tr_sl, tr_v, tr_bb (sm_f hacc (stk_f hi1 hq1 (fun h => hs3 h.symm))), tr_v, trivial⟩
        have hs3 := h70
        refine v_nil ?_
        refine d_q rfl rfl rfl rfl rfl ?_
        refine v_pick_t rfl rfl ?_
        refine v_nil ?_
        refine d_q rfl rfl rfl rfl rfl ?_
        refine v_pick_f rfl rfl ?_
        refine v_nil ?_
        refine d_q rfl rfl rfl rfl rfl ?_
        refine v_assign rfl ?_
        refine v_nil ?_
        refine d_nil ?_
        refine q_bn ?_
        refine q_n ?_
        refine w_reg rfl ?_
        refine v_move rfl ?_
        refine v_add lay3 rfl rfl (i64r (by omega)) ?_
        refine v_assign rfl ?_
        refine v_nil ?_
        refine q_n ?_
        refine ⟨_, _, _, ?_, ⟨q + 1, rfl, by omega, rfl, rfl⟩, by omega⟩
        exact turn0 ⟨tr_sl, tr_sl, tr_v, tr_bb (sm_f hacc (stk_t hi1 hq1 (by omega) hs2.symm hs3.symm)), tr_v, trivial⟩
      have hsm := sm_end hi (by omega)
      refine v_nil ?_
      refine q_n ?_
      refine w_f rfl ?_
      refine w_exit ?_
      refine q_e ?_
      refine q_e ?_
      refine q_hit ?_
      refine q_n ?_
      refine w_seq ?_
      refine w_seq ?_
      refine w_reg rfl ?_
      refine v_move rfl ?_
      refine v_move rfl ?_
      refine v_eql lay2 rfl rfl (fun h71 => ?_) (fun h71 => ?_)
      · exact absurd (fs_code.2.1 h71) (by rw [hsm, hacc]; decide)
      refine v_bin (c := .v (.bool false)) lay4 rfl rfl rfl ?_
      refine v_nil ?_
      refine q_n ?_
      refine w_f rfl ?_
      refine w_skip ?_
      refine q_n ?_
      refine w_seq ?_
      refine w_reg rfl ?_
      refine v_move rfl ?_
      refine v_call (c54 xs k1xs k2xs (by omega)) rfl rfl rfl (.cons vw_sl (.cons vw_v .nil)) ?_
      refine v_move_t rfl ?_
      refine v_extract_c rfl rfl ?_
      refine v_extract_c rfl rfl ?_
      refine v_assign rfl ?_
      refine v_assign rfl ?_
      refine v_nil ?_
      refine q_n ?_
      refine w_seq ?_
      refine w_reg rfl ?_
      refine v_move rfl ?_
      refine v_call (c55 xs k1xs (by omega)) rfl rfl rfl (.cons vw_sl (.cons vw_v .nil)) ?_
      refine v_move_t rfl ?_
      refine v_extract_c rfl rfl ?_
      refine v_extract_c rfl rfl ?_
      refine v_assign rfl ?_
      refine v_assign rfl ?_
      refine v_nil ?_
      refine q_n ?_
      refine w_seq ?_
      refine w_reg rfl ?_
      refine v_move rfl ?_
      refine v_call (c54f xs k1xs k2xs) rfl rfl rfl (.cons vw_sl (.cons vw_v .nil)) ?_
      refine v_move_t rfl ?_
      refine v_extract_c rfl rfl ?_
      refine v_extract_c rfl rfl ?_
      refine v_assign rfl ?_
      refine v_assign rfl ?_
      refine v_nil ?_
      refine q_n ?_
      refine w_seq ?_
      refine w_reg rfl ?_
      refine v_move rfl ?_
      refine v_call (c56 xs k1xs k2xs (by omega)) rfl rfl rfl (.cons vw_sl (.cons vw_v .nil)) ?_
      refine v_move_t rfl ?_
      refine v_extract_a rfl rfl ?_
      refine v_extract_c rfl rfl ?_
      refine v_alloc (m := 0) (H' := [⟨[.v _, .v _, .v _, .v _, .v _, .v _, .v _, .v _], 69, true⟩]) lay69 rfl rfl ?_
      refine v_store (H' := [⟨[_, _, _, _, _, _, _, _], 69, true⟩]) lay69 rfl rfl rfl rfl rfl rfl ?_
      refine v_assign rfl ?_
      refine v_nil ?_
      refine q_n ?_
      refine w_seq ?_
      refine w_seq ?_
      refine w_reg rfl ?_
      refine v_move rfl ?_
      refine v_move rfl ?_
      refine v_neq lay2 rfl rfl (fun h72 => ?_) (fun h72 => ?_)
      · exact absurd (by decide) h72
      refine v_move rfl ?_
      refine v_guard_on rfl rfl ?_
      refine v_move rfl ?_
      refine v_guard_on rfl rfl ?_
      refine v_neq lay2 rfl rfl (fun h73 => ?_) (fun h73 => ?_)
      · exact absurd (by decide) h73
      refine v_pick_f rfl rfl ?_
      refine v_move rfl ?_
      refine v_guard_on rfl rfl ?_
      refine v_move rfl ?_
      refine v_guard_on rfl rfl ?_
      refine v_move rfl ?_
      refine v_guard_on rfl rfl ?_
      refine v_callb (c50 (xs.filter gdB) (xs.filter gdB) _ rfl (by have := (okL_filter k1xs gdB).1; omega)) rfl rfl (.cons vw_sl (.cons vw_sl .nil)) (fun h74 => ?_) (fun h74 => ?_)
      rotate_left
      · exact absurd rfl h74
      refine v_guard_on rfl rfl ?_
      refine v_not false rfl rfl ?_
      refine v_pick_f rfl rfl ?_
      refine v_move rfl ?_
      refine v_guard_on rfl rfl ?_
      refine v_move rfl ?_
      refine v_guard_on rfl rfl ?_
      refine v_neq lay2 rfl rfl (fun h75 => ?_) (fun h75 => ?_)
      · exact absurd (by decide) h75
      refine v_pick_f rfl rfl ?_
      refine v_move rfl ?_
      refine v_guard_on rfl rfl ?_
      refine v_move rfl ?_
      refine v_guard_on rfl rfl ?_
      refine v_move rfl ?_
      refine v_guard_on rfl rfl ?_
      refine v_callb (c50 (xs.filter gdB) (xs.filter gdB) _ rfl (by have := (okL_filter k1xs gdB).1; omega)) rfl rfl (.cons vw_sl (.cons vw_sl .nil)) (fun h76 => ?_) (fun h76 => ?_)
      rotate_left
      · exact absurd rfl h76
      refine v_guard_on rfl rfl ?_
      refine v_not false rfl rfl ?_
      refine v_pick_f rfl rfl ?_
      refine v_move rfl ?_
      refine v_guard_on rfl rfl ?_
      refine v_move rfl ?_
      refine v_guard_on rfl rfl ?_
      refine v_neq lay2 rfl rfl (fun h77 => ?_) (fun h77 => ?_)
      · exact absurd (by decide) h77
      refine v_pick_f rfl rfl ?_
      refine v_nil ?_
      refine q_n ?_
      refine w_f rfl ?_
      refine w_skip ?_
      refine q_n ?_
      refine w_seq ?_
      refine w_seq ?_
      refine w_reg rfl ?_
      refine v_assign (c := .v (.int .i64 0)) rfl ?_
      refine v_nil ?_
      refine q_n ?_
      refine w_block ?_
      refine w_loop (fun k sl H => ∃ i : Nat, k = 8 - i ∧ i ≤ 8 ∧ sl = sls [(5, .c (tals true xs)), (27, .c (tals true (xs.filter gdB))), (31, .c (.pt 0 0)), (33, cI i)] ∧ H = [⟨flat bo (pl (gN xs xs.length)), 69, true⟩]) ?_ ?_
      · refine ⟨_, _, _, ?_, 0, rfl, Nat.zero_le _, rfl, rfl⟩
        exact turn [some 0] rfl rfl rfl ⟨⟨_, rfl, trc_flat bo_sc rfl⟩, trivial⟩ ⟨tr_sl, tr_sl, tr_pt rfl, tr_v, trivial⟩
      rintro k sl H ⟨i, rfl, hi, rfl, rfl⟩
      refine w_seq ?_
      refine w_seq ?_
      refine w_reg rfl ?_
      refine v_move rfl ?_
      refine v_lss lay3 rfl rfl (fun h78 => ?_) (fun h78 => ?_)
      rotate_left
      · refine v_nil ?_
        refine q_n ?_
        refine w_f rfl ?_
        refine w_exit ?_
        refine q_e ?_
        refine q_e ?_
        refine q_hit ?_
        refine q_n ?_
        refine w_seq ?_
        refine w_reg rfl ?_
        refine v_move rfl ?_
        refine v_len_sl lay40 rfl ?_
        refine v_move rfl ?_
        refine v_len_sl lay40 rfl ?_
        refine v_leq lay3 rfl rfl (fun h86 => ?_) (fun h86 => ?_)
        rotate_left
        · exact absurd (by have := List.length_filter_le gdB xs; omega) h86
        refine v_assign rfl ?_
        refine v_nil ?_
        refine q_n ?_
        refine w_ret ?_
        refine r_r rfl ?_
        exact tr_v
      have h8 : i < 8 := by omega
      refine v_nil ?_
      refine q_n ?_
      refine w_t rfl ?_
      refine w_skip ?_
      refine q_n ?_
      refine w_seq ?_
      refine w_block ?_
      refine w_seq ?_
      refine w_draw [0, 1, 3, 0, 0, 16, 56, 120, 248, 248, 1016, 2040, 4088, 8184, 16376, 32767] [⟨0, 0, []⟩, ⟨1, 0, []⟩, ⟨2, 0, []⟩, ⟨3, 0, []⟩, ⟨4, 0, []⟩, ⟨5, 0, []⟩, ⟨6, 0, []⟩, ⟨7, 0, []⟩, ⟨8, 0, []⟩, ⟨9, 0, []⟩, ⟨10, 0, []⟩, ⟨11, 0, []⟩, ⟨12, 0, []⟩, ⟨13, 0, []⟩, ⟨14, 0, []⟩, ⟨15, 0, []⟩] rfl rfl ?_
      refine d_q rfl rfl rfl rfl rfl ?_
      refine v_move rfl ?_
      refine v_nil ?_
      refine d_q rfl rfl rfl rfl rfl ?_
      refine v_idx_arr_e (k := 1) (i) lay69 lay4 rfl rfl rfl (rfl) (h8) ?_
      refine v_nil ?_
      refine d_q rfl rfl rfl rfl rfl ?_
      refine v_load_flatb (enc := bo) (ys := pl (gN xs xs.length)) i 0 bo_len lay4 rfl rfl (by omega) h8 (by decide) (pl_ld _ h8 _) (fun h79 => ?_) (fun h79 => ?_)
      · have hA := h79
        refine v_nil ?_
        refine d_q rfl rfl rfl rfl rfl ?_
        refine v_move rfl ?_
        refine v_nil ?_
        refine d_q rfl rfl rfl rfl rfl ?_
        refine v_move rfl ?_
        refine v_nil ?_
        refine d_q rfl rfl rfl rfl rfl ?_
        refine v_len_sl lay40 rfl ?_
        refine v_nil ?_
        refine d_q rfl rfl rfl rfl rfl ?_
        refine v_lss lay3 rfl rfl (fun h80 => ?_) (fun h80 => ?_)
        rotate_left
        · exact absurd (show (i : Int) < xs.length from by have := (gN_t hA).1; omega) h80
        have hi1 : i < xs.length := by omega
        refine v_nil ?_
        refine d_q rfl rfl rfl rfl rfl ?_
        refine v_move rfl ?_
        refine v_nil ?_
        refine d_q rfl rfl rfl rfl rfl ?_
        refine v_move rfl ?_
        refine v_nil ?_
        refine d_q rfl rfl rfl rfl rfl ?_
        refine v_move rfl ?_
        refine v_nil ?_
        refine d_q rfl rfl rfl rfl rfl ?_
        refine v_idx_e (k := 3) (i) te_len lay40 lay27 rfl rfl rfl (rfl) rfl (rfl) (hi1) ?_
        refine v_nil ?_
        refine d_q rfl rfl rfl rfl rfl ?_
        refine v_fa_vw (off' := 1) lay27 rfl rfl rfl ?_
        refine v_nil ?_
        refine d_q rfl rfl rfl rfl rfl ?_
        refine v_load_vw (.c (.v _)) lay23 rfl rfl rfl ?_
        refine v_nil ?_
        refine d_q rfl rfl rfl rfl rfl ?_
        refine v_geq lay23 rfl rfl (fun h82 => ?_) (fun h82 => ?_)
        rotate_left
        · exact absurd (show 10 ≤ xs[i].2.1 from by have := (gN_t hA).2; rw [ta, getD_at hi1] at this; exact this) h82
        refine v_nil ?_
        refine d_q rfl rfl rfl rfl rfl ?_
        refine v_pick_t rfl rfl ?_
        refine v_nil ?_
        refine d_q rfl rfl rfl rfl rfl ?_
        refine v_bin (c := .v (.bool false)) lay4 rfl rfl rfl ?_
        refine v_nil ?_
        refine d_nil ?_
        refine q_n ?_
        refine w_f rfl ?_
        refine w_skip ?_
        refine q_bn ?_
        refine q_n ?_
        refine w_reg rfl ?_
        refine v_move rfl ?_
        refine v_add lay3 rfl rfl (i64r (by omega)) ?_
        refine v_assign rfl ?_
        refine v_nil ?_
        refine q_n ?_
        refine ⟨_, _, _, ?_, ⟨i + 1, rfl, by omega, rfl, rfl⟩, by omega⟩
        exact turn [some 0] rfl rfl rfl ⟨⟨_, rfl, trc_flat bo_sc rfl⟩, trivial⟩ ⟨tr_sl, tr_sl, tr_pt rfl, tr_v, trivial⟩
      have hA := h79
      refine v_nil ?_
      refine d_q rfl rfl rfl rfl rfl ?_
      refine v_move rfl ?_
      refine v_nil ?_
      refine d_q rfl rfl rfl rfl rfl ?_
      refine v_move rfl ?_
      refine v_nil ?_
      refine d_q rfl rfl rfl rfl rfl ?_
      refine v_len_sl lay40 rfl ?_
      refine v_nil ?_
      refine d_q rfl rfl rfl rfl rfl ?_
      refine v_lss lay3 rfl rfl (fun h83 => ?_) (fun h83 => ?_)
      rotate_left
      · refine v_nil ?_
        refine d_q rfl rfl rfl rfl rfl ?_
        refine v_move rfl ?_
        refine v_nil ?_
        refine d_off rfl rfl ?_
        refine d_off rfl rfl ?_
        refine d_off rfl rfl ?_
        refine d_off rfl rfl ?_
        refine d_off rfl rfl ?_
        refine d_off rfl rfl ?_
        refine d_q rfl rfl rfl rfl rfl ?_
        refine v_pick_f (v := .v (.bool false)) rfl rfl ?_
        refine v_nil ?_
        refine d_q rfl rfl rfl rfl rfl ?_
        refine v_bin (c := .v (.bool false)) lay4 rfl rfl rfl ?_
        refine v_nil ?_
        refine d_nil ?_
        refine q_n ?_
        refine w_f rfl ?_
        refine w_skip ?_
        refine q_bn ?_
        refine q_n ?_
        refine w_reg rfl ?_
        refine v_move rfl ?_
        refine v_add lay3 rfl rfl (i64r (by omega)) ?_
        refine v_assign rfl ?_
        refine v_nil ?_
        refine q_n ?_
        refine ⟨_, _, _, ?_, ⟨i + 1, rfl, by omega, rfl, rfl⟩, by omega⟩
        exact turn [some 0] rfl rfl rfl ⟨⟨_, rfl, trc_flat bo_sc rfl⟩, trivial⟩ ⟨tr_sl, tr_sl, tr_pt rfl, tr_v, trivial⟩
      have hi1 : i < xs.length := by omega
      refine v_nil ?_
      refine d_q rfl rfl rfl rfl rfl ?_
      refine v_move rfl ?_
      refine v_nil ?_
      refine d_q rfl rfl rfl rfl rfl ?_
      refine v_move rfl ?_
      refine v_nil ?_
      refine d_q rfl rfl rfl rfl rfl ?_
      refine v_move rfl ?_
      refine v_nil ?_
      refine d_q rfl rfl rfl rfl rfl ?_
      refine v_idx_e (k := 3) (i) te_len lay40 lay27 rfl rfl rfl (rfl) rfl (rfl) (hi1) ?_
      refine v_nil ?_
      refine d_q rfl rfl rfl rfl rfl ?_
      refine v_fa_vw (off' := 1) lay27 rfl rfl rfl ?_
      refine v_nil ?_
      refine d_q rfl rfl rfl rfl rfl ?_
      refine v_load_vw (.c (.v _)) lay23 rfl rfl rfl ?_
      refine v_nil ?_
      refine d_q rfl rfl rfl rfl rfl ?_
      refine v_geq lay23 rfl rfl (fun h85 => ?_) (fun h85 => ?_)
      · exact absurd ⟨hi1, show 10 ≤ (ta xs i).2.1 from by rw [ta, getD_at hi1]; exact h85⟩ (gN_f hA)
      refine v_nil ?_
      refine d_q rfl rfl rfl rfl rfl ?_
      refine v_pick_t rfl rfl ?_
      refine v_nil ?_
      refine d_q rfl rfl rfl rfl rfl ?_
      refine v_bin (c := .v (.bool false)) lay4 rfl rfl rfl ?_
      refine v_nil ?_
      refine d_nil ?_
      refine q_n ?_
      refine w_f rfl ?_
      refine w_skip ?_
      refine q_bn ?_
      refine q_n ?_
      refine w_reg rfl ?_
      refine v_move rfl ?_
      refine v_add lay3 rfl rfl (i64r (by omega)) ?_
      refine v_assign rfl ?_
      refine v_nil ?_
      refine q_n ?_
      refine ⟨_, _, _, ?_, ⟨i + 1, rfl, by omega, rfl, rfl⟩, by omega⟩
      exact turn [some 0] rfl rfl rfl ⟨⟨_, rfl, trc_flat bo_sc rfl⟩, trivial⟩ ⟨tr_sl, tr_sl, tr_pt rfl, tr_v, trivial⟩
    · skip
      refine w_seq ?_
      refine w_seq ?_
      refine w_reg rfl ?_
      refine v_move rfl ?_
      refine v_move rfl ?_
      refine v_len_sl lay40 rfl ?_
      refine v_lss lay3 rfl rfl (fun h87 => ?_) (fun h87 => ?_)
      · have hi1 : q + 1 < xs.length := by omega
        have hq1 : q < xs.length := by omega
        have hk1 := k1xs.at hi1
        refine v_nil ?_
        refine q_n ?_
        refine w_t rfl ?_
        refine w_skip ?_
        refine q_n ?_
        refine w_seq ?_
        refine w_block ?_
        refine w_draw [0, 1, 3, 3, 15, 31, 63, 127, 255, 511, 511, 2047, 4095, 8191, 511, 511, 33279, 115199, 246271, 508415, 1048575, 2097151, 4194303, 8388607, 8388607, 33554431, 67108863, 134217727, 8388607, 8388607, 545259519, 1887436799, 4034920447, 8329887743, 17179869183, 34359738367, 68719476735, 137438953471] [⟨0, 0, []⟩, ⟨1, 0, []⟩, ⟨2, 0, []⟩, ⟨3, 0, []⟩, ⟨4, 0, []⟩, ⟨5, 0, []⟩, ⟨6, 0, []⟩, ⟨7, 0, []⟩, ⟨8, 0, []⟩, ⟨9, 0, []⟩, ⟨10, 0, []⟩, ⟨11, 0, []⟩, ⟨12, 0, []⟩, ⟨13, 0, []⟩, ⟨14, 0, []⟩, ⟨15, 0, []⟩, ⟨16, 0, []⟩, ⟨17, 0, []⟩, ⟨18, 0, []⟩, ⟨19, 0, []⟩, ⟨20, 0, []⟩, ⟨21, 0, []⟩, ⟨22, 0, []⟩, ⟨23, 0, []⟩, ⟨24, 0, []⟩, ⟨25, 0, []⟩, ⟨26, 0, []⟩, ⟨27, 0, []⟩, ⟨28, 0, []⟩, ⟨29, 0, []⟩, ⟨30, 0, []⟩, ⟨31, 0, []⟩, ⟨32, 0, []⟩, ⟨33, 0, []⟩, ⟨34, 0, []⟩, ⟨35, 0, []⟩, ⟨36, 0, []⟩, ⟨37, 0, []⟩] rfl rfl ?_
        refine d_q rfl rfl rfl rfl rfl ?_
        refine v_move rfl ?_
        refine v_nil ?_
        refine d_q rfl rfl rfl rfl rfl ?_
        refine v_move rfl ?_
        refine v_nil ?_
        refine d_off rfl rfl ?_
        refine d_off rfl rfl ?_
        refine d_off rfl rfl ?_
        refine d_off rfl rfl ?_
        refine d_off rfl rfl ?_
        refine d_off rfl rfl ?_
        refine d_off rfl rfl ?_
        refine d_off rfl rfl ?_
        refine d_off rfl rfl ?_
        refine d_off rfl rfl ?_
        refine d_off rfl rfl ?_
        refine d_off rfl rfl ?_
        refine d_off rfl rfl ?_
        refine d_off rfl rfl ?_
        refine d_off rfl rfl ?_
        refine d_off rfl rfl ?_
        refine d_off rfl rfl ?_
        refine d_off rfl rfl ?_
        refine d_off rfl rfl ?_
        refine d_off rfl rfl ?_
        refine d_off rfl rfl ?_
        refine d_off rfl rfl ?_
        refine d_off rfl rfl ?_
        refine d_off rfl rfl ?_
        refine d_off rfl rfl ?_
        refine d_off rfl rfl ?_
        refine d_off rfl rfl ?_
        refine d_off rfl rfl ?_
        refine d_off rfl rfl ?_
        refine d_off rfl rfl ?_
        refine d_off rfl rfl ?_
        refine d_off rfl rfl ?_
        refine d_off rfl rfl ?_
        refine d_off rfl rfl ?_
        refine d_q rfl rfl rfl rfl rfl ?_
        refine v_pick_t (v := .v (.bool true)) rfl rfl ?_
        refine v_nil ?_
        refine d_q rfl rfl rfl rfl rfl ?_
        refine v_assign rfl ?_
        refine v_nil ?_
        refine d_nil ?_
        refine q_bn ?_
        refine q_n ?_
        refine w_reg rfl ?_
        refine v_move rfl ?_
        refine v_add lay3 rfl rfl (i64r (by omega)) ?_
        refine v_assign rfl ?_
        refine v_nil ?_
        refine q_n ?_
        refine ⟨_, _, _, ?_, ⟨q + 1, rfl, by omega, rfl, rfl⟩, by omega⟩
        exact turn0 ⟨tr_sl, tr_sl, tr_v, tr_bb (sm_t hacc), tr_v, trivial⟩
      have hsm := sm_end hi (by omega)
      refine v_nil ?_
      refine q_n ?_
      refine w_f rfl ?_
      refine w_exit ?_
      refine q_e ?_
      refine q_e ?_
      refine q_hit ?_
      refine q_n ?_
      refine w_seq ?_
      refine w_seq ?_
      refine w_reg rfl ?_
      refine v_move rfl ?_
      refine v_move rfl ?_
      refine v_eql lay2 rfl rfl (fun h88 => ?_) (fun h88 => ?_)
      rotate_left
      · exact absurd (fs_code.2.2 (hsm.trans hacc)) h88
      refine v_bin (c := .v (.bool false)) lay4 rfl rfl rfl ?_
      refine v_nil ?_
      refine q_n ?_
      refine w_f rfl ?_
      refine w_skip ?_
      refine q_n ?_
      refine w_seq ?_
      refine w_reg rfl ?_
      refine v_move rfl ?_
      refine v_call (c54 xs k1xs k2xs (by omega)) rfl rfl rfl (.cons vw_sl (.cons vw_v .nil)) ?_
      refine v_move_t rfl ?_
      refine v_extract_c rfl rfl ?_
      refine v_extract_c rfl rfl ?_
      refine v_assign rfl ?_
      refine v_assign rfl ?_
      refine v_nil ?_
      refine q_n ?_
      refine w_seq ?_
      refine w_reg rfl ?_
      refine v_move rfl ?_
      refine v_call (c55 xs k1xs (by omega)) rfl rfl rfl (.cons vw_sl (.cons vw_v .nil)) ?_
      refine v_move_t rfl ?_
      refine v_extract_c rfl rfl ?_
      refine v_extract_c rfl rfl ?_
      refine v_assign rfl ?_
      refine v_assign rfl ?_
      refine v_nil ?_
      refine q_n ?_
      refine w_seq ?_
      refine w_reg rfl ?_
      refine v_move rfl ?_
      refine v_call (c54f xs k1xs k2xs) rfl rfl rfl (.cons vw_sl (.cons vw_v .nil)) ?_
      refine v_move_t rfl ?_
      refine v_extract_c rfl rfl ?_
      refine v_extract_c rfl rfl ?_
      refine v_assign rfl ?_
      refine v_assign rfl ?_
      refine v_nil ?_
      refine q_n ?_
      refine w_seq ?_
      refine w_reg rfl ?_
      refine v_move rfl ?_
      refine v_call (c56 xs k1xs k2xs (by omega)) rfl rfl rfl (.cons vw_sl (.cons vw_v .nil)) ?_
      refine v_move_t rfl ?_
      refine v_extract_a rfl rfl ?_
      refine v_extract_c rfl rfl ?_
      refine v_alloc (m := 0) (H' := [⟨[.v _, .v _, .v _, .v _, .v _, .v _, .v _, .v _], 69, true⟩]) lay69 rfl rfl ?_
      refine v_store (H' := [⟨[_, _, _, _, _, _, _, _], 69, true⟩]) lay69 rfl rfl rfl rfl rfl rfl ?_
      refine v_assign rfl ?_
      refine v_nil ?_
      refine q_n ?_
      refine w_seq ?_
      refine w_seq ?_
      refine w_reg rfl ?_
      refine v_move rfl ?_
      refine v_move rfl ?_
      refine v_neq lay2 rfl rfl (fun h89 => ?_) (fun h89 => ?_)
      · exact absurd (by decide) h89
      refine v_move rfl ?_
      refine v_guard_on rfl rfl ?_
      refine v_move rfl ?_
      refine v_guard_on rfl rfl ?_
      refine v_neq lay2 rfl rfl (fun h90 => ?_) (fun h90 => ?_)
      · exact absurd (by decide) h90
      refine v_pick_f rfl rfl ?_
      refine v_move rfl ?_
      refine v_guard_on rfl rfl ?_
      refine v_move rfl ?_
      refine v_guard_on rfl rfl ?_
      refine v_move rfl ?_
      refine v_guard_on rfl rfl ?_
      refine v_callb (c50 (xs.filter gdB) (xs.filter gdB) _ rfl (by have := (okL_filter k1xs gdB).1; omega)) rfl rfl (.cons vw_sl (.cons vw_sl .nil)) (fun h91 => ?_) (fun h91 => ?_)
      rotate_left
      · exact absurd rfl h91
      refine v_guard_on rfl rfl ?_
      refine v_not false rfl rfl ?_
      refine v_pick_f rfl rfl ?_
      refine v_move rfl ?_
      refine v_guard_on rfl rfl ?_
      refine v_move rfl ?_
      refine v_guard_on rfl rfl ?_
      refine v_neq lay2 rfl rfl (fun h92 => ?_) (fun h92 => ?_)
      · exact absurd (by decide) h92
      refine v_pick_f rfl rfl ?_
      refine v_move rfl ?_
      refine v_guard_on rfl rfl ?_
      refine v_move rfl ?_
      refine v_guard_on rfl rfl ?_
      refine v_move rfl ?_
      refine v_guard_on rfl rfl ?_
      refine v_callb (c50 (xs.filter gdB) (xs.filter gdB) _ rfl (by have := (okL_filter k1xs gdB).1; omega)) rfl rfl (.cons vw_sl (.cons vw_sl .nil)) (fun h93 => ?_) (fun h93 => ?_)
      rotate_left
      · exact absurd rfl h93
      refine v_guard_on rfl rfl ?_
      refine v_not false rfl rfl ?_
      refine v_pick_f rfl rfl ?_
      refine v_move rfl ?_
      refine v_guard_on rfl rfl ?_
      refine v_move rfl ?_
      refine v_guard_on rfl rfl ?_
      refine v_neq lay2 rfl rfl (fun h94 => ?_) (fun h94 => ?_)
      · exact absurd (by decide) h94
      refine v_pick_f rfl rfl ?_
      refine v_nil ?_
      refine q_n ?_
      refine w_f rfl ?_
      refine w_skip ?_
      refine q_n ?_
      refine w_seq ?_
      refine w_seq ?_
      refine w_reg rfl ?_
      refine v_assign (c := .v (.int .i64 0)) rfl ?_
      refine v_nil ?_
      refine q_n ?_
      refine w_block ?_
      refine w_loop (fun k sl H => ∃ i : Nat, k = 8 - i ∧ i ≤ 8 ∧ sl = sls [(5, .c (tals true xs)), (27, .c (tals true (xs.filter gdB))), (31, .c (.pt 0 0)), (33, cI i)] ∧ H = [⟨flat bo (pl (gN xs xs.length)), 69, true⟩]) ?_ ?_
      · refine ⟨_, _, _, ?_, 0, rfl, Nat.zero_le _, rfl, rfl⟩
        exact turn [some 0] rfl rfl rfl ⟨⟨_, rfl, trc_flat bo_sc rfl⟩, trivial⟩ ⟨tr_sl, tr_sl, tr_pt rfl, tr_v, trivial⟩
      rintro k sl H ⟨i, rfl, hi, rfl, rfl⟩
      refine w_seq ?_
      refine w_seq ?_
      refine w_reg rfl ?_
      refine v_move rfl ?_
      refine v_lss lay3 rfl rfl (fun h95 => ?_) (fun h95 => ?_)
      rotate_left
      · refine v_nil ?_
        refine q_n ?_
        refine w_f rfl ?_
        refine w_exit ?_
        refine q_e ?_
        refine q_e ?_
        refine q_hit ?_
        refine q_n ?_
        refine w_seq ?_
        refine w_reg rfl ?_
        refine v_move rfl ?_
        refine v_len_sl lay40 rfl ?_
        refine v_move rfl ?_
        refine v_len_sl lay40 rfl ?_
        refine v_leq lay3 rfl rfl (fun h103 => ?_) (fun h103 => ?_)
        rotate_left
        · exact absurd (by have := List.length_filter_le gdB xs; omega) h103
        refine v_assign rfl ?_
        refine v_nil ?_
        refine q_n ?_
        refine w_ret ?_
        refine r_r rfl ?_
        exact tr_v
      have h8 : i < 8 := by omega
      refine v_nil ?_
      refine q_n ?_
      refine w_t rfl ?_
      refine w_skip ?_
      refine q_n ?_
      refine w_seq ?_
      refine w_block ?_
      refine w_seq ?_
      refine w_draw [0, 1, 3, 0, 0, 16, 56, 120, 248, 248, 1016, 2040, 4088, 8184, 16376, 32767] [⟨0, 0, []⟩, ⟨1, 0, []⟩, ⟨2, 0, []⟩, ⟨3, 0, []⟩, ⟨4, 0, []⟩, ⟨5, 0, []⟩, ⟨6, 0, []⟩, ⟨7, 0, []⟩, ⟨8, 0, []⟩, ⟨9, 0, []⟩, ⟨10, 0, []⟩, ⟨11, 0, []⟩, ⟨12, 0, []⟩, ⟨13, 0, []⟩, ⟨14, 0, []⟩, ⟨15, 0, []⟩] rfl rfl ?_
      refine d_q rfl rfl rfl rfl rfl ?_
      refine v_move rfl ?_
      refine v_nil ?_
      refine d_q rfl rfl rfl rfl rfl ?_
      refine v_idx_arr_e (k := 1) (i) lay69 lay4 rfl rfl rfl (rfl) (h8) ?_
      refine v_nil ?_
      refine d_q rfl rfl rfl rfl rfl ?_
      refine v_load_flatb (enc := bo) (ys := pl (gN xs xs.length)) i 0 bo_len lay4 rfl rfl (by omega) h8 (by decide) (pl_ld _ h8 _) (fun h96 => ?_) (fun h96 => ?_)
      · have hA := h96
        refine v_nil ?_
        refine d_q rfl rfl rfl rfl rfl ?_
        refine v_move rfl ?_
        refine v_nil ?_
        refine d_q rfl rfl rfl rfl rfl ?_
        refine v_move rfl ?_
        refine v_nil ?_
        refine d_q rfl rfl rfl rfl rfl ?_
        refine v_len_sl lay40 rfl ?_
        refine v_nil ?_
        refine d_q rfl rfl rfl rfl rfl ?_
        refine v_lss lay3 rfl rfl (fun h97 => ?_) (fun h97 => ?_)
        rotate_left
        · exact absurd (show (i : Int) < xs.length from by have := (gN_t hA).1; omega) h97
        have hi1 : i < xs.length := by omega
        refine v_nil ?_
        refine d_q rfl rfl rfl rfl rfl ?_
        refine v_move rfl ?_
        refine v_nil ?_
        refine d_q rfl rfl rfl rfl rfl ?_
        refine v_move rfl ?_
        refine v_nil ?_
        refine d_q rfl rfl rfl rfl rfl ?_
        refine v_move rfl ?_
        refine v_nil ?_
        refine d_q rfl rfl rfl rfl rfl ?_
        refine v_idx_e (k := 3) (i) te_len lay40 lay27 rfl rfl rfl (rfl) rfl (rfl) (hi1) ?_
        refine v_nil ?_
        refine d_q rfl rfl rfl rfl rfl ?_
        refine v_fa_vw (off' := 1) lay27 rfl rfl rfl ?_
        refine v_nil ?_
        refine d_q rfl rfl rfl rfl rfl ?_
        refine v_load_vw (.c (.v _)) lay23 rfl rfl rfl ?_
        refine v_nil ?_
        refine d_q rfl rfl rfl rfl rfl ?_
        refine v_geq lay23 rfl rfl (fun h99 => ?_) (fun h99 => ?_)
        rotate_left
        · exact absurd (show 10 ≤ xs[i].2.1 from by have := (gN_t hA).2; rw [ta, getD_at hi1] at this; exact this) h99
        refine v_nil ?_
        refine d_q rfl rfl rfl rfl rfl ?_
        refine v_pick_t rfl rfl ?_
        refine v_nil ?_
        refine d_q rfl rfl rfl rfl rfl ?_
        refine v_bin (c := .v (.bool false)) lay4 rfl rfl rfl ?_
        refine v_nil ?_
        refine d_nil ?_
        refine q_n ?_
        refine w_f rfl ?_
        refine w_skip ?_
        refine q_bn ?_
        refine q_n ?_
        refine w_reg rfl ?_
        refine v_move rfl ?_
        refine v_add lay3 rfl rfl (i64r (by omega)) ?_
        refine v_assign rfl ?_
        refine v_nil ?_
        refine q_n ?_
        refine ⟨_, _, _, ?_, ⟨i + 1, rfl, by omega, rfl, rfl⟩, by omega⟩
        exact turn [some 0] rfl rfl rfl ⟨⟨_, rfl, trc_flat bo_sc rfl⟩, trivial⟩ ⟨tr_sl, tr_sl, tr_pt rfl, tr_v, trivial⟩
      have hA := h96
      refine v_nil ?_
      refine d_q rfl rfl rfl rfl rfl ?_
      refine v_move rfl ?_
      refine v_nil ?_
      refine d_q rfl rfl rfl rfl rfl ?_
      refine v_move rfl ?_
      refine v_nil ?_
      refine d_q rfl rfl rfl rfl rfl ?_
      refine v_len_sl lay40 rfl ?_
      refine v_nil ?_
      refine d_q rfl rfl rfl rfl rfl ?_
      refine v_lss lay3 rfl rfl (fun h100 => ?_) (fun h100 => ?_)
      rotate_left
      · refine v_nil ?_
        refine d_q rfl rfl rfl rfl rfl ?_
        refine v_move rfl ?_
        refine v_nil ?_
        refine d_off rfl rfl ?_
        refine d_off rfl rfl ?_
        refine d_off rfl rfl ?_
        refine d_off rfl rfl ?_
        refine d_off rfl rfl ?_
        refine d_off rfl rfl ?_
        refine d_q rfl rfl rfl rfl rfl ?_
        refine v_pick_f (v := .v (.bool false)) rfl rfl ?_
        refine v_nil ?_
        refine d_q rfl rfl rfl rfl rfl ?_
        refine v_bin (c := .v (.bool false)) lay4 rfl rfl rfl ?_
        refine v_nil ?_
        refine d_nil ?_
        refine q_n ?_
        refine w_f rfl ?_
        refine w_skip ?_
        refine q_bn ?_
        refine q_n ?_
        refine w_reg rfl ?_
        refine v_move rfl ?_
        refine v_add lay3 rfl rfl (i64r (by omega)) ?_
        refine v_assign rfl ?_
        refine v_nil ?_
        refine q_n ?_
        refine ⟨_, _, _, ?_, ⟨i + 1, rfl, by omega, rfl, rfl⟩, by omega⟩
        exact turn [some 0] rfl rfl rfl ⟨⟨_, rfl, trc_flat bo_sc rfl⟩, trivial⟩ ⟨tr_sl, tr_sl, tr_pt rfl, tr_v, trivial⟩
      have hi1 : i < xs.length := by omega
      refine v_nil ?_
      refine d_q rfl rfl rfl rfl rfl ?_
      refine v_move rfl ?_
      refine v_nil ?_
      refine d_q rfl rfl rfl rfl rfl ?_
      refine v_move rfl ?_
      refine v_nil ?_
      refine d_q rfl rfl rfl rfl rfl ?_
      refine v_move rfl ?_
      refine v_nil ?_
      refine d_q rfl rfl rfl rfl rfl ?_
      refine v_idx_e (k := 3) (i) te_len lay40 lay27 rfl rfl rfl (rfl) rfl (rfl) (hi1) ?_
      refine v_nil ?_
      refine d_q rfl rfl rfl rfl rfl ?_
      refine v_fa_vw (off' := 1) lay27 rfl rfl rfl ?_
      refine v_nil ?_
      refine d_q rfl rfl rfl rfl rfl ?_
      refine v_load_vw (.c (.v _)) lay23 rfl rfl rfl ?_
      refine v_nil ?_
      refine d_q rfl rfl rfl rfl rfl ?_
      refine v_geq lay23 rfl rfl (fun h102 => ?_) (fun h102 => ?_)
      · exact absurd ⟨hi1, show 10 ≤ (ta xs i).2.1 from by rw [ta, getD_at hi1]; exact h102⟩ (gN_f hA)
      refine v_nil ?_
      refine d_q rfl rfl rfl rfl rfl ?_
      refine v_pick_t rfl rfl ?_
      refine v_nil ?_
      refine d_q rfl rfl rfl rfl rfl ?_
      refine v_bin (c := .v (.bool false)) lay4 rfl rfl rfl ?_
      refine v_nil ?_
      refine d_nil ?_
      refine q_n ?_
      refine w_f rfl ?_
      refine w_skip ?_
      refine q_bn ?_
      refine q_n ?_
      refine w_reg rfl ?_
      refine v_move rfl ?_
      refine v_add lay3 rfl rfl (i64r (by omega)) ?_
      refine v_assign rfl ?_
      refine v_nil ?_
      refine q_n ?_
      refine ⟨_, _, _, ?_, ⟨i + 1, rfl, by omega, rfl, rfl⟩, by omega⟩
      exact turn [some 0] rfl rfl rfl ⟨⟨_, rfl, trc_flat bo_sc rfl⟩, trivial⟩ ⟨tr_sl, tr_sl, tr_pt rfl, tr_v, trivial⟩
  have hde2 := hde.resolve_left (by omega)
  refine v_nil ?_
  refine q_n ?_
  refine w_t rfl ?_
  refine w_seq ?_
  refine w_reg rfl ?_
  refine v_assign (c := .v (.bool false)) rfl ?_
  refine v_nil ?_
  refine q_n ?_
  refine w_seq ?_
  refine w_reg rfl ?_
  refine v_assign (c := .v (.bool false)) rfl ?_
  refine v_nil ?_
  refine q_n ?_
  refine w_seq ?_
  refine w_seq ?_
  refine w_reg rfl ?_
  refine v_assign (c := .v (.int .i64 0)) rfl ?_
  refine v_nil ?_
  refine q_n ?_
  refine w_block ?_
  refine w_loop (fun k sl H => ∃ i : Nat, k = xs.length - i ∧ i ≤ xs.length ∧ sl = sls [(0, .c (bys false code)), (1, .c (bys false more)), (5, .c (tals true xs)), (6, .c (tals true ys)), (10, cI e), (11, cI d), (15, cB (exT xs d i)), (16, cB false), (17, cI i)] ∧ H = []) ?_ ?_
  · refine ⟨_, _, _, ?_, 0, rfl, Nat.zero_le _, rfl, rfl⟩
    exact turn0 ⟨tr_sl, tr_sl, tr_sl, tr_sl, tr_v, tr_v, tr_v, tr_v, tr_v, trivial⟩
  rintro k sl H ⟨i, rfl, hi, rfl, rfl⟩
  rcases hacc : exT xs d i with _ | _
  · skip
    refine w_seq ?_
    refine w_seq ?_
    refine w_reg rfl ?_
    refine v_move rfl ?_
    refine v_move rfl ?_
    refine v_len_sl lay40 rfl ?_
    refine v_lss lay3 rfl rfl (fun h7 => ?_) (fun h7 => ?_)
    rotate_left
    · exfalso
      obtain rfl : i = xs.length := by omega
      rw [ex_mem hde2.2.1] at hacc
      exact absurd hacc (by decide)
    have hi1 : i < xs.length := by omega
    refine v_nil ?_
    refine q_n ?_
    refine w_t rfl ?_
    refine w_skip ?_
    refine q_n ?_
    refine w_seq ?_
    refine w_block ?_
    refine w_reg rfl ?_
    refine v_move rfl ?_
    refine v_move rfl ?_
    refine v_guard_on rfl rfl ?_
    refine v_move rfl ?_
    refine v_guard_on rfl rfl ?_
    refine v_move rfl ?_
    refine v_guard_on rfl rfl ?_
    refine v_idx_e (k := 3) (i) te_len lay40 lay27 rfl rfl rfl (rfl) rfl (rfl) (hi1) ?_
    refine v_guard_on rfl rfl ?_
    refine v_fa_vw (off' := 0) lay27 rfl rfl rfl ?_
    refine v_guard_on rfl rfl ?_
    refine v_load_vw (.c (.v _)) lay2 rfl rfl rfl ?_
    refine v_guard_on rfl rfl ?_
    refine v_move rfl ?_
    refine v_guard_on rfl rfl ?_
    refine v_eql lay2 rfl rfl (fun h9 => ?_) (fun h9 => ?_)
    · have hq := h9
      refine v_pick_f rfl rfl ?_
      refine v_assign rfl ?_
      refine v_nil ?_
      refine q_bn ?_
      refine q_n ?_
      refine w_reg rfl ?_
      refine v_move rfl ?_
      refine v_add lay3 rfl rfl (i64r (by omega)) ?_
      refine v_assign rfl ?_
      refine v_nil ?_
      refine q_n ?_
      refine ⟨_, _, _, ?_, ⟨i + 1, rfl, by omega, rfl, rfl⟩, by omega⟩
      exact turn0 ⟨tr_sl, tr_sl, tr_sl, tr_sl, tr_v, tr_v, tr_bb (ex_y hi1 hacc hq), tr_v, tr_v, trivial⟩
    have hq := h9
    refine v_pick_f rfl rfl ?_
    refine v_assign rfl ?_
    refine v_nil ?_
    refine q_bn ?_
    refine q_n ?_
    refine w_reg rfl ?_
    refine v_move rfl ?_
    refine v_add lay3 rfl rfl (i64r (by omega)) ?_
    refine v_assign rfl ?_
    refine v_nil ?_
    refine q_n ?_
    refine ⟨_, _, _, ?_, ⟨i + 1, rfl, by omega, rfl, rfl⟩, by omega⟩
    exact turn0 ⟨tr_sl, tr_sl, tr_sl, tr_sl, tr_v, tr_v, tr_bb (ex_n hi1 hacc hq), tr_v, tr_v, trivial⟩
  · skip
    refine w_seq ?_
    refine w_seq ?_
    refine w_reg rfl ?_
    refine v_move rfl ?_
    refine v_move rfl ?_
    refine v_len_sl lay40 rfl ?_
    refine v_lss lay3 rfl rfl (fun h10 => ?_) (fun h10 => ?_)
    · have hi1 : i < xs.length := by omega
      refine v_nil ?_
      refine q_n ?_
      refine w_t rfl ?_
      refine w_skip ?_
      refine q_n ?_
      refine w_seq ?_
      refine w_block ?_
      refine w_reg rfl ?_
      refine v_move rfl ?_
      refine v_move rfl ?_
      refine v_guard_off rfl rfl rfl ?_
      refine v_guard_off rfl rfl rfl ?_
      refine v_guard_off rfl rfl rfl ?_
      refine v_guard_off rfl rfl rfl ?_
      refine v_guard_off rfl rfl rfl ?_
      refine v_guard_off rfl rfl rfl ?_
      refine v_guard_off rfl rfl rfl ?_
      refine v_pick_t (v := .v (.bool true)) rfl rfl ?_
      refine v_assign rfl ?_
      refine v_nil ?_
      refine q_bn ?_
      refine q_n ?_
      refine w_reg rfl ?_
      refine v_move rfl ?_
      refine v_add lay3 rfl rfl (i64r (by omega)) ?_
      refine v_assign rfl ?_
      refine v_nil ?_
      refine q_n ?_
      refine ⟨_, _, _, ?_, ⟨i + 1, rfl, by omega, rfl, rfl⟩, by omega⟩
      exact turn0 ⟨tr_sl, tr_sl, tr_sl, tr_sl, tr_v, tr_v, tr_bb (ex_t hacc), tr_v, tr_v, trivial⟩
    refine v_nil ?_
    refine q_n ?_
    refine w_f rfl ?_
    refine w_exit ?_
    refine q_e ?_
    refine q_e ?_
    refine q_hit ?_
    refine q_n ?_
    refine w_seq ?_
    refine w_seq ?_
    refine w_reg rfl ?_
    refine v_assign (c := .v (.int .i64 0)) rfl ?_
    refine v_nil ?_
    refine q_n ?_
    refine w_block ?_
    refine w_loop (fun k sl H => ∃ i : Nat, k = ys.length - i ∧ i ≤ ys.length ∧ sl = sls [(0, .c (bys false code)), (1, .c (bys false more)), (5, .c (tals true xs)), (6, .c (tals true ys)), (10, cI e), (11, cI d), (15, cB true), (16, cB (exT ys d i)), (18, cI i)] ∧ H = []) ?_ ?_
    · refine ⟨_, _, _, ?_, 0, rfl, Nat.zero_le _, rfl, rfl⟩
      exact turn0 ⟨tr_sl, tr_sl, tr_sl, tr_sl, tr_v, tr_v, tr_v, tr_v, tr_v, trivial⟩
    rintro k sl H ⟨i, rfl, hi, rfl, rfl⟩
    rcases hacc : exT ys d i with _ | _
    · skip
      refine w_seq ?_
      refine w_seq ?_
      refine w_reg rfl ?_
      refine v_move rfl ?_
      refine v_move rfl ?_
      refine v_len_sl lay40 rfl ?_
      refine v_lss lay3 rfl rfl (fun h11 => ?_) (fun h11 => ?_)
      rotate_left
      · exfalso
        obtain rfl : i = ys.length := by omega
        rw [ex_mem hde2.2.2] at hacc
        exact absurd hacc (by decide)
      have hi1 : i < ys.length := by omega
      refine v_nil ?_
      refine q_n ?_
      refine w_t rfl ?_
      refine w_skip ?_
      refine q_n ?_
      refine w_seq ?_
      refine w_block ?_
      refine w_reg rfl ?_
      refine v_move rfl ?_
      refine v_move rfl ?_
      refine v_guard_on rfl rfl ?_
      refine v_move rfl ?_
      refine v_guard_on rfl rfl ?_
      refine v_move rfl ?_
      refine v_guard_on rfl rfl ?_
      refine v_idx_e (k := 3) (i) te_len lay40 lay27 rfl rfl rfl (rfl) rfl (rfl) (hi1) ?_
      refine v_guard_on rfl rfl ?_
      refine v_fa_vw (off' := 0) lay27 rfl rfl rfl ?_
      refine v_guard_on rfl rfl ?_
      refine v_load_vw (.c (.v _)) lay2 rfl rfl rfl ?_
      refine v_guard_on rfl rfl ?_
      refine v_move rfl ?_
      refine v_guard_on rfl rfl ?_
      refine v_eql lay2 rfl rfl (fun h13 => ?_) (fun h13 => ?_)
      · have hq := h13
        refine v_pick_f rfl rfl ?_
        refine v_assign rfl ?_
        refine v_nil ?_
        refine q_bn ?_
        refine q_n ?_
        refine w_reg rfl ?_
        refine v_move rfl ?_
        refine v_add lay3 rfl rfl (i64r (by omega)) ?_
        refine v_assign rfl ?_
        refine v_nil ?_
        refine q_n ?_
        refine ⟨_, _, _, ?_, ⟨i + 1, rfl, by omega, rfl, rfl⟩, by omega⟩
        exact turn0 ⟨tr_sl, tr_sl, tr_sl, tr_sl, tr_v, tr_v, tr_v, tr_bb (ex_y hi1 hacc hq), tr_v, trivial⟩
      have hq := h13
      refine v_pick_f rfl rfl ?_
      refine v_assign rfl ?_
      refine v_nil ?_
      refine q_bn ?_
      refine q_n ?_
      refine w_reg rfl ?_
      refine v_move rfl ?_
      refine v_add lay3 rfl rfl (i64r (by omega)) ?_
      refine v_assign rfl ?_
      refine v_nil ?_
      refine q_n ?_
      refine ⟨_, _, _, ?_, ⟨i + 1, rfl, by omega, rfl, rfl⟩, by omega⟩
      exact turn0 ⟨tr_sl, tr_sl, tr_sl, tr_sl, tr_v, tr_v, tr_v, tr_bb (ex_n hi1 hacc hq), tr_v, trivial⟩
    · skip
      refine w_seq ?_
      refine w_seq ?_
      refine w_reg rfl ?_
      refine v_move rfl ?_
      refine v_move rfl ?_
      refine v_len_sl lay40 rfl ?_
      refine v_lss lay3 rfl rfl (fun h14 => ?_) (fun h14 => ?_)
      · have hi1 : i < ys.length := by omega
        refine v_nil ?_
        refine q_n ?_
        refine w_t rfl ?_
        refine w_skip ?_
        refine q_n ?_
        refine w_seq ?_
        refine w_block ?_
        refine w_reg rfl ?_
        refine v_move rfl ?_
        refine v_move rfl ?_
        refine v_guard_off rfl rfl rfl ?_
        refine v_guard_off rfl rfl rfl ?_
        refine v_guard_off rfl rfl rfl ?_
        refine v_guard_off rfl rfl rfl ?_
        refine v_guard_off rfl rfl rfl ?_
        refine v_guard_off rfl rfl rfl ?_
        refine v_guard_off rfl rfl rfl ?_
        refine v_pick_t (v := .v (.bool true)) rfl rfl ?_
        refine v_assign rfl ?_
        refine v_nil ?_
        refine q_bn ?_
        refine q_n ?_
        refine w_reg rfl ?_
        refine v_move rfl ?_
        refine v_add lay3 rfl rfl (i64r (by omega)) ?_
        refine v_assign rfl ?_
        refine v_nil ?_
        refine q_n ?_
        refine ⟨_, _, _, ?_, ⟨i + 1, rfl, by omega, rfl, rfl⟩, by omega⟩
        exact turn0 ⟨tr_sl, tr_sl, tr_sl, tr_sl, tr_v, tr_v, tr_v, tr_bb (ex_t hacc), tr_v, trivial⟩
      refine v_nil ?_
      refine q_n ?_
      refine w_f rfl ?_
      refine w_exit ?_
      refine q_e ?_
      refine q_e ?_
      refine q_hit ?_
      refine q_n ?_
      refine w_seq ?_
      refine w_reg rfl ?_
      refine v_move rfl ?_
      refine v_not false rfl rfl ?_
      refine v_move rfl ?_
      refine v_guard_on rfl rfl ?_
      refine v_move rfl ?_
      refine v_guard_on rfl rfl ?_
      refine v_not false rfl rfl ?_
      refine v_pick_f rfl rfl ?_
      refine v_nil ?_
      refine q_n ?_
      refine w_f rfl ?_
      refine w_skip ?_
      refine q_n ?_
      refine w_seq ?_
      refine w_reg rfl ?_
      refine v_move rfl ?_
      refine v_call (c52 xs k1xs k2xs (by omega)) rfl rfl rfl (.cons vw_sl (.cons vw_v .nil)) ?_
      refine v_move_t rfl ?_
      refine v_extract_c rfl rfl ?_
      refine v_extract_c rfl rfl ?_
      refine v_assign rfl ?_
      refine v_assign rfl ?_
      refine v_nil ?_
      refine q_n ?_
      refine w_seq ?_
      refine w_reg rfl ?_
      refine v_move rfl ?_
      refine v_call (c53 xs k1xs (by omega)) rfl rfl rfl (.cons vw_sl (.cons vw_v .nil)) ?_
      refine v_move_t rfl ?_
      refine v_extract_c rfl rfl ?_
      refine v_extract_c rfl rfl ?_
      refine v_assign rfl ?_
      refine v_assign rfl ?_
      refine v_nil ?_
      refine q_n ?_
      refine w_seq ?_
      refine w_seq ?_
      refine w_reg rfl ?_
      refine v_move rfl ?_
      refine v_move rfl ?_
      refine v_neq lay2 rfl rfl (fun h15 => ?_) (fun h15 => ?_)
      · exact absurd rfl h15
      refine v_move rfl ?_
      refine v_guard_on rfl rfl ?_
      refine v_move rfl ?_
      refine v_guard_on rfl rfl ?_
      refine v_move rfl ?_
      refine v_guard_on rfl rfl ?_
      refine v_neq lay2 rfl rfl (fun h16 => ?_) (fun h16 => ?_)
      · exact absurd rfl h16
      refine v_pick_f rfl rfl ?_
      refine v_nil ?_
      refine q_n ?_
      refine w_f rfl ?_
      refine w_skip ?_
      refine q_n ?_
      refine w_seq ?_
      refine w_reg rfl ?_
      refine v_assign (c := .v (.bool false)) rfl ?_
      refine v_nil ?_
      refine q_n ?_
      refine w_seq ?_
      refine w_seq ?_
      refine w_reg rfl ?_
      refine v_assign (c := .v (.int .i64 1)) rfl ?_
      refine v_nil ?_
      refine q_n ?_
      refine w_block ?_
      refine w_loop (fun k sl H => ∃ q : Nat, k = xs.length - (q + 1) ∧ (q + 1 ≤ xs.length ∨ q = 0) ∧ sl = sls [(5, .c (tals true xs)), (6, .c (tals true ys)), (20, cI (fsR xs).2), (23, cB (smB xs (q + 1))), (24, cI ((q : Int) + 1))] ∧ H = []) ?_ ?_
      · refine ⟨_, _, _, ?_, 0, rfl, .inr rfl, rfl, rfl⟩
        exact turn0 ⟨tr_sl, tr_sl, tr_v, tr_bb (by simp [smB, stk]), tr_v, trivial⟩
      rintro k sl H ⟨q, rfl, hi, rfl, rfl⟩
      rcases hacc : smB xs (q + 1) with _ | _
      · skip
        refine w_seq ?_
        refine w_seq ?_
        refine w_reg rfl ?_
        refine v_move rfl ?_
        refine v_move rfl ?_
        refine v_len_sl lay40 rfl ?_
        refine v_lss lay3 rfl rfl (fun h17 => ?_) (fun h17 => ?_)
        · have hi1 : q + 1 < xs.length := by omega
          have hq1 : q < xs.length := by omega
          have hk1 := k1xs.at hi1
          refine v_nil ?_
          refine q_n ?_
          refine w_t rfl ?_
          refine w_skip ?_
          refine q_n ?_
          refine w_seq ?_
          refine w_block ?_
          refine w_draw [0, 1, 3, 3, 15, 31, 63, 127, 255, 511, 511, 2047, 4095, 8191, 511, 511, 33279, 115199, 246271, 508415, 1048575, 2097151, 4194303, 8388607, 8388607, 33554431, 67108863, 134217727, 8388607, 8388607, 545259519, 1887436799, 4034920447, 8329887743, 17179869183, 34359738367, 68719476735, 137438953471] [⟨0, 0, []⟩, ⟨1, 0, []⟩, ⟨2, 0, []⟩, ⟨3, 0, []⟩, ⟨4, 0, []⟩, ⟨5, 0, []⟩, ⟨6, 0, []⟩, ⟨7, 0, []⟩, ⟨8, 0, []⟩, ⟨9, 0, []⟩, ⟨10, 0, []⟩, ⟨11, 0, []⟩, ⟨12, 0, []⟩, ⟨13, 0, []⟩, ⟨14, 0, []⟩, ⟨15, 0, []⟩, ⟨16, 0, []⟩, ⟨17, 0, []⟩, ⟨18, 0, []⟩, ⟨19, 0, []⟩, ⟨20, 0, []⟩, ⟨21, 0, []⟩, ⟨22, 0, []⟩, ⟨23, 0, []⟩, ⟨24, 0, []⟩, ⟨25, 0, []⟩, ⟨26, 0, []⟩, ⟨27, 0, []⟩, ⟨28, 0, []⟩, ⟨29, 0, []⟩, ⟨30, 0, []⟩, ⟨31, 0, []⟩, ⟨32, 0, []⟩, ⟨33, 0, []⟩, ⟨34, 0, []⟩, ⟨35, 0, []⟩, ⟨36, 0, []⟩, ⟨37, 0, []⟩] rfl rfl ?_
          refine d_q rfl rfl rfl rfl rfl ?_
          refine v_move rfl ?_
          refine v_nil ?_
          refine d_q rfl rfl rfl rfl rfl ?_
          refine v_move rfl ?_
          refine v_nil ?_
          refine d_q rfl rfl rfl rfl rfl ?_
          refine v_move rfl ?_
          refine v_nil ?_
          refine d_q rfl rfl rfl rfl rfl ?_
          refine v_move rfl ?_
          refine v_nil ?_
          refine d_q rfl rfl rfl rfl rfl ?_
          refine v_idx_e (k := 3) ((q + 1)) te_len lay40 lay27 rfl rfl rfl (rfl) rfl ((by push_cast; rfl)) (hi1) ?_
          refine v_nil ?_
          refine d_q rfl rfl rfl rfl rfl ?_
          refine v_fa_vw (off' := 1) lay27 rfl rfl rfl ?_
          refine v_nil ?_
          refine d_q rfl rfl rfl rfl rfl ?_
          refine v_load_vw (.c (.v _)) lay23 rfl rfl rfl ?_
          refine v_nil ?_
          refine d_q rfl rfl rfl rfl rfl ?_
          refine v_gtr lay23 rfl rfl (fun h19 => ?_) (fun h19 => ?_)
          rotate_left
          · have hs1 := h19
            refine v_nil ?_
            refine d_q rfl rfl rfl rfl rfl ?_
            refine v_move rfl ?_
            refine v_nil ?_
            refine d_off rfl rfl ?_
            refine d_off rfl rfl ?_
            refine d_off rfl rfl ?_
            refine d_off rfl rfl ?_
            refine d_off rfl rfl ?_
            refine d_off rfl rfl ?_
            refine d_off rfl rfl ?_
            refine d_off rfl rfl ?_
            refine d_off rfl rfl ?_
            refine d_off rfl rfl ?_
            refine d_off rfl rfl ?_
            refine d_off rfl rfl ?_
            refine d_q rfl rfl rfl rfl rfl ?_
            refine v_pick_f (v := .v (.bool false)) rfl rfl ?_
            refine v_nil ?_
            refine d_q rfl rfl rfl rfl rfl ?_
            refine v_move rfl ?_
            refine v_nil ?_
            refine d_off rfl rfl ?_
            refine d_off rfl rfl ?_
            refine d_off rfl rfl ?_
            refine d_off rfl rfl ?_
            refine d_off rfl rfl ?_
            refine d_off rfl rfl ?_
            refine d_off rfl rfl ?_
            refine d_off rfl rfl ?_
            refine d_off rfl rfl ?_
            refine d_off rfl rfl ?_
            refine d_off rfl rfl ?_
            refine d_off rfl rfl ?_
            refine d_q rfl rfl rfl rfl rfl ?_
            refine v_pick_f (v := .v (.bool false)) rfl rfl ?_
            refine v_nil ?_
            refine d_q rfl rfl rfl rfl rfl ?_
            refine v_pick_f rfl rfl ?_
            refine v_nil ?_
            refine d_q rfl rfl rfl rfl rfl ?_
            refine v_assign rfl ?_
            refine v_nil ?_
            refine d_nil ?_
            refine q_bn ?_
            refine q_n ?_
            refine w_reg rfl ?_
            refine v_move rfl ?_
            refine v_add lay3 rfl rfl (i64r (by omega)) ?_
            refine v_assign rfl ?_
            refine v_nil ?_
            refine q_n ?_
            refine ⟨_, _, _, ?_, ⟨q + 1, rfl, by omega, rfl, rfl⟩, by omega⟩
            exact turn0 ⟨tr_sl, tr_sl, tr_v, tr_bb (sm_f hacc (stk_z hi1 (by omega))), tr_v, trivial⟩
          have hs1 := h19
          refine v_nil ?_
          refine d_q rfl rfl rfl rfl rfl ?_
          refine v_move rfl ?_
          refine v_nil ?_
          refine d_q rfl rfl rfl rfl rfl ?_
          refine v_move rfl ?_
          refine v_nil ?_
          refine d_q rfl rfl rfl rfl rfl ?_
          refine v_move rfl ?_
          refine v_nil ?_
          refine d_q rfl rfl rfl rfl rfl ?_
          refine v_idx_e (k := 3) ((q + 1)) te_len lay40 lay27 rfl rfl rfl (rfl) rfl ((by push_cast; rfl)) (hi1) ?_
          refine v_nil ?_
          refine d_q rfl rfl rfl rfl rfl ?_
          refine v_fa_vw (off' := 1) lay27 rfl rfl rfl ?_
          refine v_nil ?_
          refine d_q rfl rfl rfl rfl rfl ?_
          refine v_load_vw (.c (.v _)) lay23 rfl rfl rfl ?_
          refine v_nil ?_
          refine d_q rfl rfl rfl rfl rfl ?_
          refine v_move rfl ?_
          refine v_nil ?_
          refine d_q rfl rfl rfl rfl rfl ?_
          refine v_move rfl ?_
          refine v_nil ?_
          refine d_q rfl rfl rfl rfl rfl ?_
          refine v_sub lay3 rfl rfl (i64r (by omega)) ?_
          refine v_nil ?_
          refine d_q rfl rfl rfl rfl rfl ?_
          refine v_idx_e (k := 3) (q) te_len lay40 lay27 rfl rfl rfl (rfl) rfl (by omega) (hq1) ?_
          refine v_nil ?_
          refine d_q rfl rfl rfl rfl rfl ?_
          refine v_fa_vw (off' := 1) lay27 rfl rfl rfl ?_
          refine v_nil ?_
          refine d_q rfl rfl rfl rfl rfl ?_
          refine v_load_vw (.c (.v _)) lay23 rfl rfl rfl ?_
          refine v_nil ?_
          refine d_q rfl rfl rfl rfl rfl ?_
          refine v_eql lay23 rfl rfl (fun h22 => ?_) (fun h22 => ?_)
          rotate_left
          · have hs2 := h22
            refine v_nil ?_
            refine d_q rfl rfl rfl rfl rfl ?_
            refine v_pick_t rfl rfl ?_
            refine v_nil ?_
            refine d_q rfl rfl rfl rfl rfl ?_
            refine v_move rfl ?_
            refine v_nil ?_
            refine d_off rfl rfl ?_
            refine d_off rfl rfl ?_
            refine d_off rfl rfl ?_
            refine d_off rfl rfl ?_
            refine d_off rfl rfl ?_
            refine d_off rfl rfl ?_
            refine d_off rfl rfl ?_
            refine d_off rfl rfl ?_
            refine d_off rfl rfl ?_
            refine d_off rfl rfl ?_
            refine d_off rfl rfl ?_
            refine d_off rfl rfl ?_
            refine d_q rfl rfl rfl rfl rfl ?_
            refine v_pick_f (v := .v (.bool false)) rfl rfl ?_
            refine v_nil ?_
            refine d_q rfl rfl rfl rfl rfl ?_
            refine v_pick_f rfl rfl ?_
            refine v_nil ?_
            refine d_q rfl rfl rfl rfl rfl ?_
            refine v_assign rfl ?_
            refine v_nil ?_
            refine d_nil ?_
            refine q_bn ?_
            refine q_n ?_
            refine w_reg rfl ?_
            refine v_move rfl ?_
            refine v_add lay3 rfl rfl (i64r (by omega)) ?_
            refine v_assign rfl ?_
            refine v_nil ?_
            refine q_n ?_
            refine ⟨_, _, _, ?_, ⟨q + 1, rfl, by omega, rfl, rfl⟩, by omega⟩
            exact turn0 ⟨tr_sl, tr_sl, tr_v, tr_bb (sm_f hacc (stk_c hi1 hq1 (fun h => hs2 h.symm))), tr_v, trivial⟩
          have hs2 := h22
          refine v_nil ?_
          refine d_q rfl rfl rfl rfl rfl ?_
          refine v_pick_t rfl rfl ?_
          refine v_nil ?_
          refine d_q rfl rfl rfl rfl rfl ?_
          refine v_move rfl ?_
          refine v_nil ?_
          refine d_q rfl rfl rfl rfl rfl ?_
          refine v_move rfl ?_
          refine v_nil ?_
          refine d_q rfl rfl rfl rfl rfl ?_
          refine v_move rfl ?_
          refine v_nil ?_
          refine d_q rfl rfl rfl rfl rfl ?_
          refine v_idx_e (k := 3) ((q + 1)) te_len lay40 lay27 rfl rfl rfl (rfl) rfl ((by push_cast; rfl)) (hi1) ?_
          refine v_nil ?_
          refine d_q rfl rfl rfl rfl rfl ?_
          refine v_fa_vw (off' := 2) lay27 rfl rfl rfl ?_
          refine v_nil ?_
          refine d_q rfl rfl rfl rfl rfl ?_
          refine v_load_vw (.c (.v _)) lay23 rfl rfl rfl ?_
          refine v_nil ?_
          refine d_q rfl rfl rfl rfl rfl ?_
          refine v_move rfl ?_
          refine v_nil ?_
          refine d_q rfl rfl rfl rfl rfl ?_
          refine v_move rfl ?_
          refine v_nil ?_
          refine d_q rfl rfl rfl rfl rfl ?_
          refine v_sub lay3 rfl rfl (i64r (by omega)) ?_
          refine v_nil ?_
          refine d_q rfl rfl rfl rfl rfl ?_
          refine v_idx_e (k := 3) (q) te_len lay40 lay27 rfl rfl rfl (rfl) rfl (by omega) (hq1) ?_
          refine v_nil ?_
          refine d_q rfl rfl rfl rfl rfl ?_
          refine v_fa_vw (off' := 2) lay27 rfl rfl rfl ?_
          refine v_nil ?_
          refine d_q rfl rfl rfl rfl rfl ?_
          refine v_load_vw (.c (.v _)) lay23 rfl rfl rfl ?_
          refine v_nil ?_
          refine d_q rfl rfl rfl rfl rfl ?_
          refine v_eql lay23 rfl rfl (fun h25 => ?_) (fun h25 => ?_)
          rotate_left
          · have hs3 := h25
            refine v_nil ?_
            refine d_q rfl rfl rfl rfl rfl ?_
            refine v_pick_t rfl rfl ?_
            refine v_nil ?_
            refine d_q rfl rfl rfl rfl rfl ?_
            refine v_pick_f rfl rfl ?_
            refine v_nil ?_
            refine d_q rfl rfl rfl rfl rfl ?_
            refine v_assign rfl ?_
            refine v_nil ?_
            refine d_nil ?_
            refine q_bn ?_
            refine q_n ?_
            refine w_reg rfl ?_
            refine v_move rfl ?_
            refine v_add lay3 rfl rfl (i64r (by omega)) ?_
            refine v_assign rfl ?_
            refine v_nil ?_
            refine q_n ?_
            refine ⟨_, _, _, ?_, ⟨q + 1, rfl, by omega, rfl, rfl⟩, by omega⟩
            exact turn0 ⟨tr_sl, tr_sl, tr_v, tr_bb (sm_f hacc (stk_f hi1 hq1 (fun h => hs3 h.symm))), tr_v, trivial⟩
          have hs3 := h25
          refine v_nil ?_
          refine d_q rfl rfl rfl rfl rfl ?_
          refine v_pick_t rfl rfl ?_
          refine v_nil ?_
          refine d_q rfl rfl rfl rfl rfl ?_
          refine v_pick_f rfl rfl ?_
          refine v_nil ?_
          refine d_q rfl rfl rfl rfl rfl ?_
          refine v_assign rfl ?_
          refine v_nil ?_
          refine d_nil ?_
          refine q_bn ?_
          refine q_n ?_
          refine w_reg rfl ?_
          refine v_move rfl ?_
          refine v_add lay3 rfl rfl (i64r (by omega)) ?_
          refine v_assign rfl ?_
          refine v_nil ?_
          refine q_n ?_
          refine ⟨_, _, _, ?_, ⟨q + 1, rfl, by omega, rfl, rfl⟩, by omega⟩
          exact turn0 ⟨tr_sl, tr_sl, tr_v, tr_bb (sm_f hacc (stk_t hi1 hq1 (by omega) hs2.symm hs3.symm)), tr_v, trivial⟩
        have hsm := sm_end hi (by omega)
        refine v_nil ?_
        refine q_n ?_
        refine w_f rfl ?_
        refine w_exit ?_
        refine q_e ?_
        refine q_e ?_
        refine q_hit ?_
        refine q_n ?_
        refine w_seq ?_
        refine w_seq ?_
        refine w_reg rfl ?_
        refine v_move rfl ?_
        refine v_move rfl ?_
        refine v_eql lay2 rfl rfl (fun h26 => ?_) (fun h26 => ?_)
        · exact absurd (fs_code.2.1 h26) (by rw [hsm, hacc]; decide)
        refine v_bin (c := .v (.bool false)) lay4 rfl rfl rfl ?_
        refine v_nil ?_
        refine q_n ?_
        refine w_f rfl ?_
        refine w_skip ?_
        refine q_n ?_
        refine w_seq ?_
        refine w_reg rfl ?_
        refine v_move rfl ?_
        refine v_call (c54 xs k1xs k2xs (by omega)) rfl rfl rfl (.cons vw_sl (.cons vw_v .nil)) ?_
        refine v_move_t rfl ?_
        refine v_extract_c rfl rfl ?_
        refine v_extract_c rfl rfl ?_
        refine v_assign rfl ?_
        refine v_assign rfl ?_
        refine v_nil ?_
        refine q_n ?_
        refine w_seq ?_
        refine w_reg rfl ?_
        refine v_move rfl ?_
        refine v_call (c55 xs k1xs (by omega)) rfl rfl rfl (.cons vw_sl (.cons vw_v .nil)) ?_
        refine v_move_t rfl ?_
        refine v_extract_c rfl rfl ?_
        refine v_extract_c rfl rfl ?_
        refine v_assign rfl ?_
        refine v_assign rfl ?_
        refine v_nil ?_
        refine q_n ?_
        refine w_seq ?_
        refine w_reg rfl ?_
        refine v_move rfl ?_
        refine v_call (c54f xs k1xs k2xs) rfl rfl rfl (.cons vw_sl (.cons vw_v .nil)) ?_
        refine v_move_t rfl ?_
        refine v_extract_c rfl rfl ?_
        refine v_extract_c rfl rfl ?_
        refine v_assign rfl ?_
        refine v_assign rfl ?_
        refine v_nil ?_
        refine q_n ?_
        refine w_seq ?_
        refine w_reg rfl ?_
        refine v_move rfl ?_
        refine v_call (c56 xs k1xs k2xs (by omega)) rfl rfl rfl (.cons vw_sl (.cons vw_v .nil)) ?_
        refine v_move_t rfl ?_
        refine v_extract_a rfl rfl ?_
        refine v_extract_c rfl rfl ?_
        refine v_alloc (m := 0) (H' := [⟨[.v _, .v _, .v _, .v _, .v _, .v _, .v _, .v _], 69, true⟩]) lay69 rfl rfl ?_
        refine v_store (H' := [⟨[_, _, _, _, _, _, _, _], 69, true⟩]) lay69 rfl rfl rfl rfl rfl rfl ?_
        refine v_assign rfl ?_
        refine v_nil ?_
        refine q_n ?_
        refine w_seq ?_
        refine w_seq ?_
        refine w_reg rfl ?_
        refine v_move rfl ?_
        refine v_move rfl ?_
        refine v_neq lay2 rfl rfl (fun h27 => ?_) (fun h27 => ?_)
        · exact absurd (by decide) h27
        refine v_move rfl ?_
        refine v_guard_on rfl rfl ?_
        refine v_move rfl ?_
        refine v_guard_on rfl rfl ?_
        refine v_neq lay2 rfl rfl (fun h28 => ?_) (fun h28 => ?_)
        · exact absurd (by decide) h28
        refine v_pick_f rfl rfl ?_
        refine v_move rfl ?_
        refine v_guard_on rfl rfl ?_
        refine v_move rfl ?_
        refine v_guard_on rfl rfl ?_
        refine v_move rfl ?_
        refine v_guard_on rfl rfl ?_
        refine v_callb (c50 (xs.filter gdB) (xs.filter gdB) _ rfl (by have := (okL_filter k1xs gdB).1; omega)) rfl rfl (.cons vw_sl (.cons vw_sl .nil)) (fun h29 => ?_) (fun h29 => ?_)
        rotate_left
        · exact absurd rfl h29
        refine v_guard_on rfl rfl ?_
        refine v_not false rfl rfl ?_
        refine v_pick_f rfl rfl ?_
        refine v_move rfl ?_
        refine v_guard_on rfl rfl ?_
        refine v_move rfl ?_
        refine v_guard_on rfl rfl ?_
        refine v_neq lay2 rfl rfl (fun h30 => ?_) (fun h30 => ?_)
        · exact absurd (by decide) h30
        refine v_pick_f rfl rfl ?_
        refine v_move rfl ?_
        refine v_guard_on rfl rfl ?_
        refine v_move rfl ?_
        refine v_guard_on rfl rfl ?_
        refine v_move rfl ?_
        refine v_guard_on rfl rfl ?_
        refine v_callb (c50 (xs.filter gdB) (xs.filter gdB) _ rfl (by have := (okL_filter k1xs gdB).1; omega)) rfl rfl (.cons vw_sl (.cons vw_sl .nil)) (fun h31 => ?_) (fun h31 => ?_)
        rotate_left
        · exact absurd rfl h31
        refine v_guard_on rfl rfl ?_
        refine v_not false rfl rfl ?_
        refine v_pick_f rfl rfl ?_
        refine v_move rfl ?_
        refine v_guard_on rfl rfl ?_
        refine v_move rfl ?_
        refine v_guard_on rfl rfl ?_
        refine v_neq lay2 rfl rfl (fun h32 => ?_) (fun h32 => ?_)
        · exact absurd (by decide) h32
        refine v_pick_f rfl rfl ?_
        refine v_nil ?_
        refine q_n ?_
        refine w_f rfl ?_
        refine w_skip ?_
        refine q_n ?_
        refine w_seq ?_
        refine w_seq ?_
        refine w_reg rfl ?_
        refine v_assign (c := .v (.int .i64 0)) rfl ?_
        refine v_nil ?_
        refine q_n ?_
        refine w_block ?_
        refine w_loop (fun k sl H => ∃ i : Nat, k = 8 - i ∧ i ≤ 8 ∧ sl = sls [(5, .c (tals true xs)), (27, .c (tals true (xs.filter gdB))), (31, .c (.pt 0 0)), (33, cI i)] ∧ H = [⟨flat bo (pl (gN xs xs.length)), 69, true⟩]) ?_ ?_
        · refine ⟨_, _, _, ?_, 0, rfl, Nat.zero_le _, rfl, rfl⟩
          exact turn [some 0] rfl rfl rfl ⟨⟨_, rfl, trc_flat bo_sc rfl⟩, trivial⟩ ⟨tr_sl, tr_sl, tr_pt rfl, tr_v, trivial⟩
        rintro k sl H ⟨i, rfl, hi, rfl, rfl⟩
        refine w_seq ?_
        refine w_seq ?_
        refine w_reg rfl ?_
        refine v_move rfl ?_
        refine v_lss lay3 rfl rfl (fun h33 => ?_) (fun h33 => ?_)
        rotate_left
        · refine v_nil ?_
          refine q_n ?_
          refine w_f rfl ?_
          refine w_exit ?_
          refine q_e ?_
          refine q_e ?_
          refine q_hit ?_
          refine q_n ?_
          refine w_seq ?_
          refine w_reg rfl ?_
          refine v_move rfl ?_
          refine v_len_sl lay40 rfl ?_
          refine v_move rfl ?_
          refine v_len_sl lay40 rfl ?_
          refine v_leq lay3 rfl rfl (fun h41 => ?_) (fun h41 => ?_)
          rotate_left
          · exact absurd (by have := List.length_filter_le gdB xs; omega) h41
          refine v_assign rfl ?_
          refine v_nil ?_
          refine q_n ?_
          refine w_ret ?_
          refine r_r rfl ?_
          exact tr_v
        have h8 : i < 8 := by omega
        refine v_nil ?_
        refine q_n ?_
        refine w_t rfl ?_
        refine w_skip ?_
        refine q_n ?_
        refine w_seq ?_
        refine w_block ?_
        refine w_seq ?_
        refine w_draw [0, 1, 3, 0, 0, 16, 56, 120, 248, 248, 1016, 2040, 4088, 8184, 16376, 32767] [⟨0, 0, []⟩, ⟨1, 0, []⟩, ⟨2, 0, []⟩, ⟨3, 0, []⟩, ⟨4, 0, []⟩, ⟨5, 0, []⟩, ⟨6, 0, []⟩, ⟨7, 0, []⟩, ⟨8, 0, []⟩, ⟨9, 0, []⟩, ⟨10, 0, []⟩, ⟨11, 0, []⟩, ⟨12, 0, []⟩, ⟨13, 0, []⟩, ⟨14, 0, []⟩, ⟨15, 0, []⟩] rfl rfl ?_
        refine d_q rfl rfl rfl rfl rfl ?_
        refine v_move rfl ?_
        refine v_nil ?_
        refine d_q rfl rfl rfl rfl rfl ?_
        refine v_idx_arr_e (k := 1) (i) lay69 lay4 rfl rfl rfl (rfl) (h8) ?_
        refine v_nil ?_
        refine d_q rfl rfl rfl rfl rfl ?_
        refine v_load_flatb (enc := bo) (ys := pl (gN xs xs.length)) i 0 bo_len lay4 rfl rfl (by omega) h8 (by decide) (pl_ld _ h8 _) (fun h34 => ?_) (fun h34 => ?_)
        · have hA := h34
          refine v_nil ?_
          refine d_q rfl rfl rfl rfl rfl ?_
          refine v_move rfl ?_
          refine v_nil ?_
          refine d_q rfl rfl rfl rfl rfl ?_
          refine v_move rfl ?_
          refine v_nil ?_
          refine d_q rfl rfl rfl rfl rfl ?_
          refine v_len_sl lay40 rfl ?_
          refine v_nil ?_
          refine d_q rfl rfl rfl rfl rfl ?_
          refine v_lss lay3 rfl rfl (fun h35 => ?_) (fun h35 => ?_)
          rotate_left
          · exact absurd (show (i : Int) < xs.length from by have := (gN_t hA).1; omega) h35
          have hi1 : i < xs.length := by omega
          refine v_nil ?_
          refine d_q rfl rfl rfl rfl rfl ?_
          refine v_move rfl ?_
          refine v_nil ?_
          refine d_q rfl rfl rfl rfl rfl ?_
          refine v_move rfl ?_
          refine v_nil ?_
          refine d_q rfl rfl rfl rfl rfl ?_
          refine v_move rfl ?_
          refine v_nil ?_
          refine d_q rfl rfl rfl rfl rfl ?_
          refine v_idx_e (k := 3) (i) te_len lay40 lay27 rfl rfl rfl (rfl) rfl (rfl) (hi1) ?_
          refine v_nil ?_
          refine d_q rfl rfl rfl rfl rfl ?_
          refine v_fa_vw (off' := 1) lay27 rfl rfl rfl ?_
          refine v_nil ?_
          refine d_q rfl rfl rfl rfl rfl ?_
          refine v_load_vw (.c (.v _)) lay23 rfl rfl rfl ?_
          refine v_nil ?_
          refine d_q rfl rfl rfl rfl rfl ?_
          refine v_geq lay23 rfl rfl (fun h37 => ?_) (fun h37 => ?_)
          rotate_left
          · exact absurd (show 10 ≤ xs[i].2.1 from by have := (gN_t hA).2; rw [ta, getD_at hi1] at this; exact this) h37
          refine v_nil ?_
          refine d_q rfl rfl rfl rfl rfl ?_
          refine v_pick_t rfl rfl ?_
          refine v_nil ?_
          refine d_q rfl rfl rfl rfl rfl ?_
          refine v_bin (c := .v (.bool false)) lay4 rfl rfl rfl ?_
          refine v_nil ?_
          refine d_nil ?_
          refine q_n ?_
          refine w_f rfl ?_
          refine w_skip ?_
          refine q_bn ?_
          refine q_n ?_
          refine w_reg rfl ?_
          refine v_move rfl ?_
          refine v_add lay3 rfl rfl (i64r (by omega)) ?_
          refine v_assign rfl ?_
          refine v_nil ?_
          refine q_n ?_
          refine ⟨_, _, _, ?_, ⟨i + 1, rfl, by omega, rfl, rfl⟩, by omega⟩
          exact turn [some 0] rfl rfl rfl ⟨⟨_, rfl, trc_flat bo_sc rfl⟩, trivial⟩ ⟨tr_sl, tr_sl, tr_pt rfl, tr_v, trivial⟩
        have hA := h34
        refine v_nil ?_
        refine d_q rfl rfl rfl rfl rfl ?_
        refine v_move rfl ?_
        refine v_nil ?_
        refine d_q rfl rfl rfl rfl rfl ?_
        refine v_move rfl ?_
        refine v_nil ?_
        refine d_q rfl rfl rfl rfl rfl ?_
        refine v_len_sl lay40 rfl ?_
        refine v_nil ?_
        refine d_q rfl rfl rfl rfl rfl ?_
        refine v_lss lay3 rfl rfl (fun h38 => ?_) (fun h38 => ?_)
        rotate_left
        · refine v_nil ?_
          refine d_q rfl rfl rfl rfl rfl ?_
          refine v_move rfl ?_
          refine v_nil ?_
          refine d_off rfl rfl ?_
          refine d_off rfl rfl ?_
          refine d_off rfl rfl ?_
          refine d_off rfl rfl ?_
          refine d_off rfl rfl ?_
          refine d_off rfl rfl ?_
          refine d_q rfl rfl rfl rfl rfl ?_
          refine v_pick_f (v := .v (.bool false)) rfl rfl ?_
          refine v_nil ?_
          refine d_q rfl rfl rfl rfl rfl ?_
          refine v_bin (c := .v (.bool false)) lay4 rfl rfl rfl ?_
          refine v_nil ?_
          refine d_nil ?_
          refine q_n ?_
          refine w_f rfl ?_
          refine w_skip ?_
          refine q_bn ?_
          refine q_n ?_
          refine w_reg rfl ?_
          refine v_move rfl ?_
          refine v_add lay3 rfl rfl (i64r (by omega)) ?_
          refine v_assign rfl ?_
          refine v_nil ?_
          refine q_n ?_
          refine ⟨_, _, _, ?_, ⟨i + 1, rfl, by omega, rfl, rfl⟩, by omega⟩
          exact turn [some 0] rfl rfl rfl ⟨⟨_, rfl, trc_flat bo_sc rfl⟩, trivial⟩ ⟨tr_sl, tr_sl, tr_pt rfl, tr_v, trivial⟩
        have hi1 : i < xs.length := by omega
        refine v_nil ?_
        refine d_q rfl rfl rfl rfl rfl ?_
        refine v_move rfl ?_
        refine v_nil ?_
        refine d_q rfl rfl rfl rfl rfl ?_
        refine v_move rfl ?_
        refine v_nil ?_
        refine d_q rfl rfl rfl rfl rfl ?_
        refine v_move rfl ?_
        refine v_nil ?_
        refine d_q rfl rfl rfl rfl rfl ?_
        refine v_idx_e (k := 3) (i) te_len lay40 lay27 rfl rfl rfl (rfl) rfl (rfl) (hi1) ?_
        refine v_nil ?_
        refine d_q rfl rfl rfl rfl rfl ?_
        refine v_fa_vw (off' := 1) lay27 rfl rfl rfl ?_
        refine v_nil ?_
        refine d_q rfl rfl rfl rfl rfl ?_
        refine v_load_vw (.c (.v _)) lay23 rfl rfl rfl ?_
        refine v_nil ?_
        refine d_q rfl rfl rfl rfl rfl ?_
        refine v_geq lay23 rfl rfl (fun h40 => ?_) (fun h40 => ?_)
        · exact absurd ⟨hi1, show 10 ≤ (ta xs i).2.1 from by rw [ta, getD_at hi1]; exact h40⟩ (gN_f hA)
        refine v_nil ?_
        refine d_q rfl rfl rfl rfl rfl ?_
        refine v_pick_t rfl rfl ?_
        refine v_nil ?_
        refine d_q rfl rfl rfl rfl rfl ?_
        refine v_bin (c := .v (.bool false)) lay4 rfl rfl rfl ?_
        refine v_nil ?_
        refine d_nil ?_
        refine q_n ?_
        refine w_f rfl ?_
        refine w_skip ?_
        refine q_bn ?_
        refine q_n ?_
        refine w_reg rfl ?_
        refine v_move rfl ?_
        refine v_add lay3 rfl rfl (i64r (by omega)) ?_
        refine v_assign rfl ?_
        refine v_nil ?_
        refine q_n ?_
        refine ⟨_, _, _, ?_, ⟨i + 1, rfl, by omega, rfl, rfl⟩, by omega⟩
        exact turn [some 0] rfl rfl rfl ⟨⟨_, rfl, trc_flat bo_sc rfl⟩, trivial⟩ ⟨tr_sl, tr_sl, tr_pt rfl, tr_v, trivial⟩
      · skip
        refine w_seq ?_
        refine w_seq ?_
        refine w_reg rfl ?_
        refine v_move rfl ?_
        refine v_move rfl ?_
        refine v_len_sl lay40 rfl ?_
        refine v_lss lay3 rfl rfl (fun h42 => ?_) (fun h42 => ?_)
        · have hi1 : q + 1 < xs.length := by omega
          have hq1 : q < xs.length := by omega
          have hk1 := k1xs.at hi1
          refine v_nil ?_
          refine q_n ?_
          refine w_t rfl ?_
          refine w_skip ?_
          refine q_n ?_
          refine w_seq ?_
          refine w_block ?_
          refine w_draw [0, 1, 3, 3, 15, 31, 63, 127, 255, 511, 511, 2047, 4095, 8191, 511, 511, 33279, 115199, 246271, 508415, 1048575, 2097151, 4194303, 8388607, 8388607, 33554431, 67108863, 134217727, 8388607, 8388607, 545259519, 1887436799, 4034920447, 8329887743, 17179869183, 34359738367, 68719476735, 137438953471] [⟨0, 0, []⟩, ⟨1, 0, []⟩, ⟨2, 0, []⟩, ⟨3, 0, []⟩, ⟨4, 0, []⟩, ⟨5, 0, []⟩, ⟨6, 0, []⟩, ⟨7, 0, []⟩, ⟨8, 0, []⟩, ⟨9, 0, []⟩, ⟨10, 0, []⟩, ⟨11, 0, []⟩, ⟨12, 0, []⟩, ⟨13, 0, []⟩, ⟨14, 0, []⟩, ⟨15, 0, []⟩, ⟨16, 0, []⟩, ⟨17, 0, []⟩, ⟨18, 0, []⟩, ⟨19, 0, []⟩, ⟨20, 0, []⟩, ⟨21, 0, []⟩, ⟨22, 0, []⟩, ⟨23, 0, []⟩, ⟨24, 0, []⟩, ⟨25, 0, []⟩, ⟨26, 0, []⟩, ⟨27, 0, []⟩, ⟨28, 0, []⟩, ⟨29, 0, []⟩, ⟨30, 0, []⟩, ⟨31, 0, []⟩, ⟨32, 0, []⟩, ⟨33, 0, []⟩, ⟨34, 0, []⟩, ⟨35, 0, []⟩, ⟨36, 0, []⟩, ⟨37, 0, []⟩] rfl rfl ?_
          refine d_q rfl rfl rfl rfl rfl ?_
          refine v_move rfl ?_
          refine v_nil ?_
          refine d_q rfl rfl rfl rfl rfl ?_
          refine v_move rfl ?_
          refine v_nil ?_
          refine d_off rfl rfl ?_
          refine d_off rfl rfl ?_
          refine d_off rfl rfl ?_
          refine d_off rfl rfl ?_
          refine d_off rfl rfl ?_
          refine d_off rfl rfl ?_
          refine d_off rfl rfl ?_
          refine d_off rfl rfl ?_
          refine d_off rfl rfl ?_
          refine d_off rfl rfl ?_
          refine d_off rfl rfl ?_
          refine d_off rfl rfl ?_
          refine d_off rfl rfl ?_
          refine d_off rfl rfl ?_
          refine d_off rfl rfl ?_
          refine d_off rfl rfl ?_
          refine d_off rfl rfl ?_
          refine d_off rfl rfl ?_
          refine d_off rfl rfl ?_
          refine d_off rfl rfl ?_
          refine d_off rfl rfl ?_
          refine d_off rfl rfl ?_
          refine d_off rfl rfl ?_
          refine d_off rfl rfl ?_
          refine d_off rfl rfl ?_
          refine d_off rfl rfl ?_
          refine d_off rfl rfl ?_
          refine d_off rfl rfl ?_
          refine d_off rfl rfl ?_
          refine d_off rfl rfl ?_
          refine d_off rfl rfl ?_
          refine d_off rfl rfl ?_
          refine d_off rfl rfl ?_
          refine d_off rfl rfl ?_
          refine d_q rfl rfl rfl rfl rfl ?_
          refine v_pick_t (v := .v (.bool true)) rfl rfl ?_
          refine v_nil ?_
          refine d_q rfl rfl rfl rfl rfl ?_
          refine v_assign rfl ?_
          refine v_nil ?_
          refine d_nil ?_
          refine q_bn ?_
          refine q_n ?_
          refine w_reg rfl ?_
          refine v_move rfl ?_
          refine v_add lay3 rfl rfl (i64r (by omega)) ?_
          refine v_assign rfl ?_
          refine v_nil ?_
          refine q_n ?_
          refine ⟨_, _, _, ?_, ⟨q + 1, rfl, by omega, rfl, rfl⟩, by omega⟩
          exact turn0 ⟨tr_sl, tr_sl, tr_v, tr_bb (sm_t hacc), tr_v, trivial⟩
        have hsm := sm_end hi (by omega)
        refine v_nil ?_
        refine q_n ?_
        refine w_f rfl ?_
        refine w_exit ?_
        refine q_e ?_
        refine q_e ?_
        refine q_hit ?_
        refine q_n ?_
        refine w_seq ?_
        refine w_seq ?_
        refine w_reg rfl ?_
        refine v_move rfl ?_
        refine v_move rfl ?_
        refine v_eql lay2 rfl rfl (fun h43 => ?_) (fun h43 => ?_)
        rotate_left
        · exact absurd (fs_code.2.2 (hsm.trans hacc)) h43
        refine v_bin (c := .v (.bool false)) lay4 rfl rfl rfl ?_
        refine v_nil ?_
        refine q_n ?_
        refine w_f rfl ?_
        refine w_skip ?_
        refine q_n ?_
        refine w_seq ?_
        refine w_reg rfl ?_
        refine v_move rfl ?_
        refine v_call (c54 xs k1xs k2xs (by omega)) rfl rfl rfl (.cons vw_sl (.cons vw_v .nil)) ?_
        refine v_move_t rfl ?_
        refine v_extract_c rfl rfl ?_
        refine v_extract_c rfl rfl ?_
        refine v_assign rfl ?_
        refine v_assign rfl ?_
        refine v_nil ?_
        refine q_n ?_
        refine w_seq ?_
        refine w_reg rfl ?_
        refine v_move rfl ?_
        refine v_call (c55 xs k1xs (by omega)) rfl rfl rfl (.cons vw_sl (.cons vw_v .nil)) ?_
        refine v_move_t rfl ?_
        refine v_extract_c rfl rfl ?_
        refine v_extract_c rfl rfl ?_
        refine v_assign rfl ?_
        refine v_assign rfl ?_
        refine v_nil ?_
        refine q_n ?_
        refine w_seq ?_
        refine w_reg rfl ?_
        refine v_move rfl ?_
        refine v_call (c54f xs k1xs k2xs) rfl rfl rfl (.cons vw_sl (.cons vw_v .nil)) ?_
        refine v_move_t rfl ?_
        refine v_extract_c rfl rfl ?_
        refine v_extract_c rfl rfl ?_
        refine v_assign rfl ?_
        refine v_assign rfl ?_
        refine v_nil ?_
        refine q_n ?_
        refine w_seq ?_
        refine w_reg rfl ?_
        refine v_move rfl ?_
        refine v_call (c56 xs k1xs k2xs (by omega)) rfl rfl rfl (.cons vw_sl (.cons vw_v .nil)) ?_
        refine v_move_t rfl ?_
        refine v_extract_a rfl rfl ?_
        refine v_extract_c rfl rfl ?_
        refine v_alloc (m := 0) (H' := [⟨[.v _, .v _, .v _, .v _, .v _, .v _, .v _, .v _], 69, true⟩]) lay69 rfl rfl ?_
        refine v_store (H' := [⟨[_, _, _, _, _, _, _, _], 69, true⟩]) lay69 rfl rfl rfl rfl rfl rfl ?_
        refine v_assign rfl ?_
        refine v_nil ?_
        refine q_n ?_
        refine w_seq ?_
        refine w_seq ?_
        refine w_reg rfl ?_
        refine v_move rfl ?_
        refine v_move rfl ?_
        refine v_neq lay2 rfl rfl (fun h44 => ?_) (fun h44 => ?_)
        · exact absurd (by decide) h44
        refine v_move rfl ?_
        refine v_guard_on rfl rfl ?_
        refine v_move rfl ?_
        refine v_guard_on rfl rfl ?_
        refine v_neq lay2 rfl rfl (fun h45 => ?_) (fun h45 => ?_)
        · exact absurd (by decide) h45
        refine v_pick_f rfl rfl ?_
        refine v_move rfl ?_
        refine v_guard_on rfl rfl ?_
        refine v_move rfl ?_
        refine v_guard_on rfl rfl ?_
        refine v_move rfl ?_
        refine v_guard_on rfl rfl ?_
        refine v_callb (c50 (xs.filter gdB) (xs.filter gdB) _ rfl (by have := (okL_filter k1xs gdB).1; omega)) rfl rfl (.cons vw_sl (.cons vw_sl .nil)) (fun h46 => ?_) (fun h46 => ?_)
        rotate_left
        · exact absurd rfl h46
        refine v_guard_on rfl rfl ?_
        refine v_not false rfl rfl ?_
        refine v_pick_f rfl rfl ?_
        refine v_move rfl ?_
        refine v_guard_on rfl rfl ?_
        refine v_move rfl ?_
        refine v_guard_on rfl rfl ?_
        refine v_neq lay2 rfl rfl (fun h47 => ?_) (fun h47 => ?_)
        · exact absurd (by decide) h47
        refine v_pick_f rfl rfl ?_
        refine v_move rfl ?_
        refine v_guard_on rfl rfl ?_
        refine v_move rfl ?_
        refine v_guard_on rfl rfl ?_
        refine v_move rfl ?_
        refine v_guard_on rfl rfl ?_
        refine v_callb (c50 (xs.filter gdB) (xs.filter gdB) _ rfl (by have := (okL_filter k1xs gdB).1; omega)) rfl rfl (.cons vw_sl (.cons vw_sl .nil)) (fun h48 => ?_) (fun h48 => ?_)
        rotate_left
        · exact absurd rfl h48
        refine v_guard_on rfl rfl ?_
        refine v_not false rfl rfl ?_
        refine v_pick_f rfl rfl ?_
        refine v_move rfl ?_
        refine v_guard_on rfl rfl ?_
        refine v_move rfl ?_
        refine v_guard_on rfl rfl ?_
        refine v_neq lay2 rfl rfl (fun h49 => ?_) (fun h49 => ?_)
        · exact absurd (by decide) h49
        refine v_pick_f rfl rfl ?_
        refine v_nil ?_
        refine q_n ?_
        refine w_f rfl ?_
        refine w_skip ?_
        refine q_n ?_
        refine w_seq ?_
        refine w_seq ?_
        refine w_reg rfl ?_
        refine v_assign (c := .v (.int .i64 0)) rfl ?_
        refine v_nil ?_
        refine q_n ?_
        refine w_block ?_
        refine w_loop (fun k sl H => ∃ i : Nat, k = 8 - i ∧ i ≤ 8 ∧ sl = sls [(5, .c (tals true xs)), (27, .c (tals true (xs.filter gdB))), (31, .c (.pt 0 0)), (33, cI i)] ∧ H = [⟨flat bo (pl (gN xs xs.length)), 69, true⟩]) ?_ ?_
        · refine ⟨_, _, _, ?_, 0, rfl, Nat.zero_le _, rfl, rfl⟩
          exact turn [some 0] rfl rfl rfl ⟨⟨_, rfl, trc_flat bo_sc rfl⟩, trivial⟩ ⟨tr_sl, tr_sl, tr_pt rfl, tr_v, trivial⟩
        rintro k sl H ⟨i, rfl, hi, rfl, rfl⟩
        refine w_seq ?_
        refine w_seq ?_
        refine w_reg rfl ?_
        refine v_move rfl ?_
        refine v_lss lay3 rfl rfl (fun h50 => ?_) (fun h50 => ?_)
        rotate_left
        · refine v_nil ?_
          refine q_n ?_
          refine w_f rfl ?_
          refine w_exit ?_
          refine q_e ?_
          refine q_e ?_
          refine q_hit ?_
          refine q_n ?_
          refine w_seq ?_
          refine w_reg rfl ?_
          refine v_move rfl ?_
          refine v_len_sl lay40 rfl ?_
          refine v_move rfl ?_
          refine v_len_sl lay40 rfl ?_
          refine v_leq lay3 rfl rfl (fun h58 => ?_) (fun h58 => ?_)
          rotate_left
          · exact absurd (by have := List.length_filter_le gdB xs; omega) h58
          refine v_assign rfl ?_
          refine v_nil ?_
          refine q_n ?_
          refine w_ret ?_
          refine r_r rfl ?_
          exact tr_v
        have h8 : i < 8 := by omega
        refine v_nil ?_
        refine q_n ?_
        refine w_t rfl ?_
        refine w_skip ?_
        refine q_n ?_
        refine w_seq ?_
        refine w_block ?_
        refine w_seq ?_
        refine w_draw [0, 1, 3, 0, 0, 16, 56, 120, 248, 248, 1016, 2040, 4088, 8184, 16376, 32767] [⟨0, 0, []⟩, ⟨1, 0, []⟩, ⟨2, 0, []⟩, ⟨3, 0, []⟩, ⟨4, 0, []⟩, ⟨5, 0, []⟩, ⟨6, 0, []⟩, ⟨7, 0, []⟩, ⟨8, 0, []⟩, ⟨9, 0, []⟩, ⟨10, 0, []⟩, ⟨11, 0, []⟩, ⟨12, 0, []⟩, ⟨13, 0, []⟩, ⟨14, 0, []⟩, ⟨15, 0, []⟩] rfl rfl ?_
        refine d_q rfl rfl rfl rfl rfl ?_
        refine v_move rfl ?_
        refine v_nil ?_
        refine d_q rfl rfl rfl rfl rfl ?_
        refine v_idx_arr_e (k := 1) (i) lay69 lay4 rfl rfl rfl (rfl) (h8) ?_
        refine v_nil ?_
        refine d_q rfl rfl rfl rfl rfl ?_
        refine v_load_flatb (enc := bo) (ys := pl (gN xs xs.length)) i 0 bo_len lay4 rfl rfl (by omega) h8 (by decide) (pl_ld _ h8 _) (fun h51 => ?_) (fun h51 => ?_)
        · have hA := h51
          refine v_nil ?_
          refine d_q rfl rfl rfl rfl rfl ?_
          refine v_move rfl ?_
          refine v_nil ?_
          refine d_q rfl rfl rfl rfl rfl ?_
          refine v_move rfl ?_
          refine v_nil ?_
          refine d_q rfl rfl rfl rfl rfl ?_
          refine v_len_sl lay40 rfl ?_
          refine v_nil ?_
          refine d_q rfl rfl rfl rfl rfl ?_
          refine v_lss lay3 rfl rfl (fun h52 => ?_) (fun h52 => ?_)
          rotate_left
          · exact absurd (show (i : Int) < xs.length from by have := (gN_t hA).1; omega) h52
          have hi1 : i < xs.length := by omega
          refine v_nil ?_
          refine d_q rfl rfl rfl rfl rfl ?_
          refine v_move rfl ?_
          refine v_nil ?_
          refine d_q rfl rfl rfl rfl rfl ?_
          refine v_move rfl ?_
          refine v_nil ?_
          refine d_q rfl rfl rfl rfl rfl ?_
          refine v_move rfl ?_
          refine v_nil ?_
          refine d_q rfl rfl rfl rfl rfl ?_
          refine v_idx_e (k := 3) (i) te_len lay40 lay27 rfl rfl rfl (rfl) rfl (rfl) (hi1) ?_
          refine v_nil ?_
          refine d_q rfl rfl rfl rfl rfl ?_
          refine v_fa_vw (off' := 1) lay27 rfl rfl rfl ?_
          refine v_nil ?_
          refine d_q rfl rfl rfl rfl rfl ?_
          refine v_load_vw (.c (.v _)) lay23 rfl rfl rfl ?_
          refine v_nil ?_
          refine d_q rfl rfl rfl rfl rfl ?_
          refine v_geq lay23 rfl rfl (fun h54 => ?_) (fun h54 => ?_)
          rotate_left
          · exact absurd (show 10 ≤ xs[i].2.1 from by have := (gN_t hA).2; rw [ta, getD_at hi1] at this; exact this) h54
          refine v_nil ?_
          refine d_q rfl rfl rfl rfl rfl ?_
          refine v_pick_t rfl rfl ?_
          refine v_nil ?_
          refine d_q rfl rfl rfl rfl rfl ?_
          refine v_bin (c := .v (.bool false)) lay4 rfl rfl rfl ?_
          refine v_nil ?_
          refine d_nil ?_
          refine q_n ?_
          refine w_f rfl ?_
          refine w_skip ?_
          refine q_bn ?_
          refine q_n ?_
          refine w_reg rfl ?_
          refine v_move rfl ?_
          refine v_add lay3 rfl rfl (i64r (by omega)) ?_
          refine v_assign rfl ?_
          refine v_nil ?_
          refine q_n ?_
          refine ⟨_, _, _, ?_, ⟨i + 1, rfl, by omega, rfl, rfl⟩, by omega⟩
          exact turn [some 0] rfl rfl rfl ⟨⟨_, rfl, trc_flat bo_sc rfl⟩, trivial⟩ ⟨tr_sl, tr_sl, tr_pt rfl, tr_v, trivial⟩
        have hA := h51
        refine v_nil ?_
        refine d_q rfl rfl rfl rfl rfl ?_
        refine v_move rfl ?_
        refine v_nil ?_
        refine d_q rfl rfl rfl rfl rfl ?_
        refine v_move rfl ?_
        refine v_nil ?_
        refine d_q rfl rfl rfl rfl rfl ?_
        refine v_len_sl lay40 rfl ?_
        refine v_nil ?_
        refine d_q rfl rfl rfl rfl rfl ?_
        refine v_lss lay3 rfl rfl (fun h55 => ?_) (fun h55 => ?_)
        rotate_left
        · refine v_nil ?_
          refine d_q rfl rfl rfl rfl rfl ?_
          refine v_move rfl ?_
          refine v_nil ?_
          refine d_off rfl rfl ?_
          refine d_off rfl rfl ?_
          refine d_off rfl rfl ?_
          refine d_off rfl rfl ?_
          refine d_off rfl rfl ?_
          refine d_off rfl rfl ?_
          refine d_q rfl rfl rfl rfl rfl ?_
          refine v_pick_f (v := .v (.bool false)) rfl rfl ?_
          refine v_nil ?_
          refine d_q rfl rfl rfl rfl rfl ?_
          refine v_bin (c := .v (.bool false)) lay4 rfl rfl rfl ?_
          refine v_nil ?_
          refine d_nil ?_
          refine q_n ?_
          refine w_f rfl ?_
          refine w_skip ?_
          refine q_bn ?_
          refine q_n ?_
          refine w_reg rfl ?_
          refine v_move rfl ?_
          refine v_add lay3 rfl rfl (i64r (by omega)) ?_
          refine v_assign rfl ?_
          refine v_nil ?_
          refine q_n ?_
          refine ⟨_, _, _, ?_, ⟨i + 1, rfl, by omega, rfl, rfl⟩, by omega⟩
          exact turn [some 0] rfl rfl rfl ⟨⟨_, rfl, trc_flat bo_sc rfl⟩, trivial⟩ ⟨tr_sl, tr_sl, tr_pt rfl, tr_v, trivial⟩
        have hi1 : i < xs.length := by omega
        refine v_nil ?_
        refine d_q rfl rfl rfl rfl rfl ?_
        refine v_move rfl ?_
        refine v_nil ?_
        refine d_q rfl rfl rfl rfl rfl ?_
        refine v_move rfl ?_
        refine v_nil ?_
        refine d_q rfl rfl rfl rfl rfl ?_
        refine v_move rfl ?_
        refine v_nil ?_
        refine d_q rfl rfl rfl rfl rfl ?_
        refine v_idx_e (k := 3) (i) te_len lay40 lay27 rfl rfl rfl (rfl) rfl (rfl) (hi1) ?_
        refine v_nil ?_
        refine d_q rfl rfl rfl rfl rfl ?_
        refine v_fa_vw (off' := 1) lay27 rfl rfl rfl ?_
        refine v_nil ?_
        refine d_q rfl rfl rfl rfl rfl ?_
        refine v_load_vw (.c (.v _)) lay23 rfl rfl rfl ?_
        refine v_nil ?_
        refine d_q rfl rfl rfl rfl rfl ?_
        refine v_geq lay23 rfl rfl (fun h57 => ?_) (fun h57 => ?_)
        · exact absurd ⟨hi1, show 10 ≤ (ta xs i).2.1 from by rw [ta, getD_at hi1]; exact h57⟩ (gN_f hA)
        refine v_nil ?_
        refine d_q rfl rfl rfl rfl rfl ?_
        refine v_pick_t rfl rfl ?_
        refine v_nil ?_
        refine d_q rfl rfl rfl rfl rfl ?_
        refine v_bin (c := .v (.bool false)) lay4 rfl rfl rfl ?_
        refine v_nil ?_
        refine d_nil ?_
        refine q_n ?_
        refine w_f rfl ?_
        refine w_skip ?_
        refine q_bn ?_
        refine q_n ?_
        refine w_reg rfl ?_
        refine v_move rfl ?_
        refine v_add lay3 rfl rfl (i64r (by omega)) ?_
        refine v_assign rfl ?_
        refine v_nil ?_
        refine q_n ?_
        refine ⟨_, _, _, ?_, ⟨i + 1, rfl, by omega, rfl, rfl⟩, by omega⟩
        exact turn [some 0] rfl rfl rfl ⟨⟨_, rfl, trc_flat bo_sc rfl⟩, trivial⟩ ⟨tr_sl, tr_sl, tr_pt rfl, tr_v, trivial⟩
end Go.VL
namespace Go.Proofs.Ytenaamehifbfeaa
namespace B0
open Go.RowKit Go.WideShapes Go.ChangeShapes Go.ChangeAt
section
variable {H : Type} {enc : TypeId × Value → H} {P : Program}

theorem post_of_below {f : Func} {s : ChangeSpec} {apart fresh handsOn again : Bool} {W W' : World} {args : Array Value} {v : Value} {ds gs : List (DataW H)} {before pa pv : List MemPlace}
    (hW : DataW.Whole enc P f.params.toList s.vars apart W args.toList ds gs before)
    (hres : ∀ (b : Nat) (sp : Nat → Bool) (hd : Bool), DataW.TrodAll enc P W' b sp hd f.resultTypes.toList (v.resultList f.resultTypes.size) (s.fn H (ds ++ gs)).results [])
    (hargs : ∀ sp : Nat → Bool, (∀ p ∈ before, sp p.block = true) → DataW.TrodAll enc P W' 0 sp true f.params.toList args.toList (s.fn H (ds ++ gs)).args pa)
    (hvars : ∀ sp : Nat → Bool, (∀ p ∈ before, sp p.block = true) → DataW.TrodVars enc P W' sp s.vars (s.fn H (ds ++ gs)).vars pv)
    (hps : before = pa ++ pv) (hb : Below W.heap.size W W')
    (hok : ∀ (j : Nat) (t : TypeId) (r : Value), f.resultTypes[j]? = some t → (v.resultList f.resultTypes.size)[j]? = some r → Value.okWide P W' .any 0 t r) :
    s.post enc P f apart fresh handsOn again W args v W' := by
  have hlt : ∀ p ∈ before, p.block < W.heap.size := fun p hp => hW.lt p hp
  have hold : ∀ p ∈ before, (fun b => decide (b < W.heap.size)) p.block = true := fun p hp => by simpa using hlt p hp
  refine ⟨ds, gs, before, [], pa, pv, hW, hres _ _ _, hargs _ hold, hvars _ hold, World.keptBut_mono (fun p hp => ⟨hp, ?_⟩) (hb.frame (· ∈ before)), fun _ => ?_⟩
  · rw [hps, List.mem_append] at hp
    exact Or.inr hp
  · obtain ⟨_, _, _, _, _, hz, hn⟩ := hW
    refine ⟨hok, _, _, ([] ++ pa) ++ pv, ⟨[] ++ pa, pv, trodAll_append (hargs _ (fun _ _ => rfl)) (hres _ _ _), hvars _ (fun _ _ => rfl), rfl, ?_, ?_⟩, ?_⟩
    · intro b off hp
      have hin : MemPlace.cell b off ∈ before := by rw [hps]; simpa using hp
      rw [hb.frozen (hlt _ hin)]
      exact hz b off hin
    · intro ha
      have := hn ha
      rw [hps] at this
      simpa using this
    · intro p hp _
      rw [hps]
      simpa using hp

theorem trodAll_stays (hl : laidOutB P = true) {W W' : World} {sp' : Nat → Bool} : ∀ {ts : List TypeId} {vs : List Value} {ds : List (DataW H)} {ps : List MemPlace},
    (∀ t ∈ ts, P.readableRec t = true ∧ t < P.types.size) → DataW.TrodAll enc P W 0 (fun _ => true) true ts vs ds ps → (∀ p ∈ ps, W.sameAt W' p) → (∀ p ∈ ps, sp' p.block = true) →
    DataW.TrodAll enc P W' 0 sp' true ts vs ds ps
  | [], vs, ds, ps, _, h, _, _ => by
    obtain ⟨rfl, rfl, rfl⟩ := trodAll_nil h
    exact rfl
  | t :: ts, vs, ds, ps, ht, h, hsame, hsp => by
    obtain ⟨v, vs', d, ds', p, q, rfl, rfl, rfl, h0, h1⟩ := trodAll_cons h
    exact ⟨p, q, Go.WideElems.Trod_stays hl (ht t (by simp)).1 (ht t (by simp)).2 h0 (fun x hx => hsame x (by simp [hx])) (fun x hx => hsp x (by simp [hx])),
      trodAll_stays hl (fun u hu => ht u (by simp [hu])) h1 (fun x hx => hsame x (by simp [hx])) (fun x hx => hsp x (by simp [hx])), rfl⟩

/-- A law: whatever the arguments, the call returns true and turns nothing that was there. -/
theorem lift {C : Checked} {os : Os} {f : FuncId} {fn : Func} {s : ChangeSpec} {conds : List PathCond} {tb : TypeId}
    (own : ownKnob C.prog.godebug = none) (started : os.Started) (noInit : C.prog.inits.idxOf? f = none) (hfn : C.prog.funcs[f]? = some fn)
    (witness : ∃ (w : World) (tape : Tape) (i : Input), w.os = os ∧ (w.forCall tape i).Shaped C.prog ∧ i.vars = [] ∧ Input.okWide C.prog (w.forCall tape i) .any w.heap.size f i ∧
      s.pre6 enc C.prog fn conds false (w.forCall tape i).memory i.args ∧ ({} : Assume).holds C.prog (lone (Frame.enter C.prog f i.args .normal) [] (w.forCall tape i)))
    (hl : laidOutB C.prog = true) (hp : (fn.params.toList.all fun t => C.prog.readableRec t && decide (t < C.prog.types.size)) = true)
    (hv : s.vars = []) (hr : fn.resultTypes = #[tb]) (htb : C.prog.underlying tb = some .bool)
    (hs : ∀ ds : List (DataW H), ds.length = fn.params.toList.length → s.fn H ds = { results := [.lit (.bool true)], args := ds })
    (contract : ∀ (W : World) (base : Nat) (args : Array Value) (ds : List (DataW H)) (p : List MemPlace),
      (∀ (j : Nat) t v, fn.params[j]? = some t → args[j]? = some v → Value.okWide C.prog W .any base t v) →
      DataW.TrodAll enc C.prog W 0 (fun _ => true) true fn.params.toList args.toList ds p →
      Calls C.prog f args W fun e W' => e = .returned (.bool true) ∧ Below W.heap.size W W') :
    ReturnsInHanded {} C os f .any (s.pre6 enc C.prog fn conds false) (s.post enc C.prog fn false true false false) := by
  refine returnsInHanded_of_change own started noInit hfn witness ?_
  intro W base args ds gs before hval hW _ _
  have hW' := hW
  obtain ⟨p, q, hA, hV, rfl, hfz, hnd⟩ := hW
  rw [hv] at hV
  obtain ⟨rfl, rfl⟩ := trodVars_none hV
  have hlen : ∀ {ts : List TypeId} {vs : List Value} {ds : List (DataW H)} {ps : List MemPlace}, DataW.TrodAll enc C.prog W 0 (fun _ => true) true ts vs ds ps → ds.length = ts.length := by
    intro ts
    induction ts with
    | nil => intro vs ds ps h; obtain ⟨rfl, rfl, rfl⟩ := trodAll_nil h; rfl
    | cons t ts ih => intro vs ds ps h; obtain ⟨v, vs', d, ds', p, q, rfl, rfl, rfl, h0, h1⟩ := trodAll_cons h; simp [ih h1]
  have hsd : s.fn H (ds ++ []) = { results := [.lit (.bool true)], args := ds } := by rw [List.append_nil]; exact hs ds (hlen hA)
  have hp' : ∀ t ∈ fn.params.toList, C.prog.readableRec t = true ∧ t < C.prog.types.size := fun t ht => by simpa using List.all_eq_true.1 hp t ht
  refine (contract W base args ds p hval hA).mono fun e W' ⟨he, hb⟩ => ?_
  refine ⟨.bool true, he, post_of_below (pa := p) (pv := []) hW' ?_ ?_ ?_ rfl hb ?_⟩
  · intro b sp hd
    rw [hsd, hr]
    exact trodAll_mk1 ⟨1, by simp [DataW.trod, Value.cells, htb]⟩
  · intro sp hsp
    rw [hsd]
    exact trodAll_stays hl hp' hA (fun x hx => hb.same (hW'.lt x (by simp [hx]))) (fun x hx => hsp x (by simp [hx]))
  · intro sp hsp
    rw [hsd, hv]
    exact rfl
  · exact ok_one hr rfl (okWide_bool_mk htb true)
end
end B0
end Go.Proofs.Ytenaamehifbfeaa
