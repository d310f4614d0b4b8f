/- The law of refused deeds, walked. -/
import Derived.Test.YtbejolinihbokaaC5
namespace Go.VL
open Go.RowKit
set_option maxRecDepth 20000
set_option maxHeartbeats 8000000
theorem c5 (p : Int) (fs : List Int) (ds : List De) (hx : fs.length ≤ maxLen) (hd : ds.length ≤ maxLen) : PureC X 5 [.agg (cen false p fs), .c (dcs false ds)] (cB true) := by
  refine PureC.of_body (drawD_ok X) (fun _ _ => Go.Proofs.Try.call5 _ _) Go.Proofs.Try.func5 rfl (n := 67) rfl ?_
  refine w_seq ?_
  refine w_reg rfl ?_
  refine v_box (m := 0) (H' := [_]) lay30 rfl rfl rfl ?_
  refine v_assign (c := .v (.bool false)) rfl ?_
  refine v_nil ?_
  refine q_n ?_
  refine w_seq ?_
  refine w_reg rfl ?_
  refine v_assign (c := .v (.int .i64 1048576)) rfl ?_
  refine v_nil ?_
  refine q_n ?_
  refine w_seq ?_
  refine w_reg rfl ?_
  refine v_load_pt (.agg [_, _]) lay30 rfl rfl rfl rfl ?_
  refine v_move rfl ?_
  refine v_call (c15 _ _ _ (by omega) hx) rfl rfl rfl (.cons (vw_agg (.cons vw_v (.cons vw_sl .nil))) (.cons vw_v .nil)) ?_
  refine v_assign rfl ?_
  refine v_nil ?_
  refine q_n ?_
  refine w_seq ?_
  refine w_seq ?_
  refine w_reg rfl ?_
  refine v_move rfl ?_
  refine v_lss lay3 rfl rfl (fun h1 => ?_) (fun h1 => ?_)
  · skip
    refine v_nil ?_
    refine q_n ?_
    refine w_t rfl ?_
    refine w_seq ?_
    refine w_reg rfl ?_
    refine v_assign (c := .v (.bool true)) rfl ?_
    refine v_nil ?_
    refine q_n ?_
    refine w_ret (q_r ?_)
    refine r_r rfl ?_
    first | exact tr_v | (exfalso; simp_all; done)
  · skip
    have hx2 : fs.length ≤ 2 ^ 40 := by unfold szr at h1; split at h1 <;> omega
    have hl0 : 0 ≤ szr fs.length 1048576 ∧ szr fs.length 1048576 ≤ 2 ^ 20 := ⟨by omega, by unfold szr; split <;> omega⟩
    refine v_nil ?_
    refine q_n ?_
    refine w_f rfl ?_
    refine w_skip ?_
    refine q_n ?_
    refine w_seq ?_
    refine w_reg rfl ?_
    refine v_move rfl ?_
    refine v_move rfl ?_
    refine v_call (c20 _ _ (by omega) (by assumption)) rfl rfl rfl (.cons vw_sl (.cons vw_v .nil)) ?_
    refine v_assign rfl ?_
    refine v_nil ?_
    refine q_n ?_
    refine w_seq ?_
    refine w_seq ?_
    refine w_reg rfl ?_
    refine v_move rfl ?_
    refine v_lss lay3 rfl rfl (fun h2 => ?_) (fun h2 => ?_)
    · skip
      refine v_nil ?_
      refine q_n ?_
      refine w_t rfl ?_
      refine w_seq ?_
      refine w_reg rfl ?_
      refine v_assign (c := .v (.bool true)) rfl ?_
      refine v_nil ?_
      refine q_n ?_
      refine w_ret (q_r ?_)
      refine r_r rfl ?_
      first | exact tr_v | (exfalso; simp_all; done)
    · skip
      have hd2 : ds.length ≤ 2 ^ 40 := by unfold szr at h2 hl0; split at h2 <;> omega
      refine v_nil ?_
      refine q_n ?_
      refine w_f rfl ?_
      refine w_skip ?_
      refine q_n ?_
      refine w_seq ?_
      refine w_reg rfl ?_
      refine v_load_pt (.agg [_, _]) lay30 rfl rfl rfl rfl ?_
      refine v_call (c17 _ _ hx2) rfl rfl rfl (.cons (vw_agg (.cons vw_v (.cons vw_sl .nil))) .nil) ?_
      refine v_move rfl ?_
      refine v_call (c22 _ (by omega)) rfl rfl rfl (.cons vw_sl .nil) ?_
      refine v_call (c21 _ _ _ (by omega) (by omega)) rfl rfl rfl (.cons (vw_agg (.cons vw_v (.cons vw_sl .nil))) (.cons vw_sl .nil)) ?_
      refine v_move_t rfl ?_
      refine v_extract_c rfl rfl ?_
      refine v_extract_c rfl rfl ?_
      refine v_extract_c rfl rfl ?_
      refine v_assign rfl ?_
      refine v_assign rfl ?_
      refine v_assign rfl ?_
      refine v_nil ?_
      refine q_n ?_
      refine w_seq ?_
      refine w_reg rfl ?_
      refine v_load_pt (.agg [_, _]) lay30 rfl rfl rfl rfl ?_
      refine v_call (c17 _ _ hx2) rfl rfl rfl (.cons (vw_agg (.cons vw_v (.cons vw_sl .nil))) .nil) ?_
      refine v_alloc (m := 1) (H' := [_, ⟨[.v _, .v _], 33, true⟩]) lay33 rfl rfl ?_
      refine v_store (H' := [_, ⟨[_, _], 33, true⟩]) lay33 rfl rfl rfl rfl rfl rfl ?_
      refine v_nil ?_
      refine q_n ?_
      refine w_seq ?_
      refine w_reg rfl ?_
      refine v_move rfl ?_
      refine v_call (c22 _ (by omega)) rfl rfl rfl (.cons vw_sl .nil) ?_
      refine v_assign rfl ?_
      refine v_nil ?_
      refine q_n ?_
      refine w_seq ?_
      refine w_reg rfl ?_
      refine v_load_pt (.agg [_, _]) lay33 rfl rfl rfl rfl ?_
      refine v_move rfl ?_
      refine v_call (c23 _ _ _ (by omega) (by omega)) rfl rfl rfl (.cons (vw_agg (.cons vw_v (.cons vw_sl .nil))) (.cons vw_sl .nil)) ?_
      refine v_move_t rfl ?_
      refine v_extract_c rfl rfl ?_
      refine v_extract_c rfl rfl ?_
      refine v_extract_c rfl rfl ?_
      refine v_assign rfl ?_
      refine v_assign rfl ?_
      refine v_assign rfl ?_
      refine v_nil ?_
      refine q_n ?_
      refine w_seq ?_
      refine w_seq ?_
      refine w_reg rfl ?_
      refine v_move rfl ?_
      refine v_move rfl ?_
      refine v_neq lay2 rfl rfl (fun h3 => ?_) (fun h3 => ?_)
      · skip
        refine v_move rfl ?_
        refine v_guard_off rfl rfl rfl ?_
        refine v_guard_off rfl rfl rfl ?_
        refine v_guard_off rfl rfl rfl ?_
        refine v_pick_t (v := .v (.bool true)) rfl rfl ?_
        refine v_move rfl ?_
        refine v_guard_off rfl rfl rfl ?_
        refine v_guard_off rfl rfl rfl ?_
        refine v_guard_off rfl rfl rfl ?_
        refine v_pick_t (v := .v (.bool true)) rfl rfl ?_
        refine v_nil ?_
        refine q_n ?_
        refine w_t rfl ?_
        refine w_seq ?_
        refine w_reg rfl ?_
        refine v_assign (c := .v (.bool false)) rfl ?_
        refine v_nil ?_
        refine q_n ?_
        refine w_ret (q_r ?_)
        refine r_r rfl ?_
        first | exact tr_v | (exfalso; simp_all; done)
      · skip
        refine v_move rfl ?_
        refine v_guard_on rfl rfl ?_
        refine v_move rfl ?_
        refine v_guard_on rfl rfl ?_
        refine v_move rfl ?_
        refine v_guard_on rfl rfl ?_
        refine v_neq lay2 rfl rfl (fun h4 => ?_) (fun h4 => ?_)
        · skip
          refine v_pick_f rfl rfl ?_
          refine v_move rfl ?_
          refine v_guard_off rfl rfl rfl ?_
          refine v_guard_off rfl rfl rfl ?_
          refine v_guard_off rfl rfl rfl ?_
          refine v_pick_t (v := .v (.bool true)) rfl rfl ?_
          refine v_nil ?_
          refine q_n ?_
          refine w_t rfl ?_
          refine w_seq ?_
          refine w_reg rfl ?_
          refine v_assign (c := .v (.bool false)) rfl ?_
          refine v_nil ?_
          refine q_n ?_
          refine w_ret (q_r ?_)
          refine r_r rfl ?_
          first | exact tr_v | (exfalso; simp_all; done)
        · skip
          refine v_pick_f rfl rfl ?_
          refine v_move rfl ?_
          refine v_guard_on rfl rfl ?_
          refine v_move rfl ?_
          refine v_guard_on rfl rfl ?_
          refine v_move rfl ?_
          refine v_guard_on rfl rfl ?_
          refine v_neq lay2 rfl rfl (fun h5 => ?_) (fun h5 => ?_)
          · skip
            refine v_pick_f rfl rfl ?_
            refine v_nil ?_
            refine q_n ?_
            refine w_t rfl ?_
            refine w_seq ?_
            refine w_reg rfl ?_
            refine v_assign (c := .v (.bool false)) rfl ?_
            refine v_nil ?_
            refine q_n ?_
            refine w_ret (q_r ?_)
            refine r_r rfl ?_
            first | exact tr_v | (exfalso; simp_all; done)
          · skip
            refine v_pick_f rfl rfl ?_
            refine v_nil ?_
            refine q_n ?_
            refine w_f rfl ?_
            refine w_skip ?_
            refine q_n ?_
            refine w_seq ?_
            refine w_seq ?_
            refine w_draw [0, 0, 2, 7, 15] [⟨0, 0, []⟩, ⟨1, 0, []⟩, ⟨2, 0, []⟩, ⟨3, 0, []⟩, ⟨4, 0, []⟩] rfl rfl ?_
            refine d_q rfl rfl rfl rfl rfl ?_
            refine v_load_pt (.agg [_, _]) lay33 rfl rfl rfl rfl ?_
            refine v_nil ?_
            refine d_q rfl rfl rfl rfl rfl ?_
            refine v_load_pt (.agg [_, _]) lay30 rfl rfl rfl rfl ?_
            refine v_nil ?_
            refine d_call (c17 _ _ hx2) rfl rfl rfl rfl rfl (.cons (vw_agg (.cons vw_v (.cons vw_sl .nil))) .nil) ?_
            refine d_callb (c19 _ _ _ _ hx2) rfl rfl rfl rfl (.cons (vw_agg (.cons vw_v (.cons vw_sl .nil))) (.cons (vw_agg (.cons vw_v (.cons vw_sl .nil))) .nil)) (fun h6 => ?_) (fun h6 => ?_)
            · skip
              refine d_q rfl rfl rfl rfl rfl ?_
              refine v_not false rfl rfl ?_
              refine v_nil ?_
              refine d_nil ?_
              refine q_n ?_
              refine w_f rfl ?_
              refine w_skip ?_
              refine q_n ?_
              refine w_seq ?_
              refine w_seq ?_
              refine w_reg rfl ?_
              refine v_move rfl ?_
              refine v_move rfl ?_
              refine v_call (c22 _ (by omega)) rfl rfl rfl (.cons vw_sl .nil) ?_
              refine v_callb (c24 _ _ (by omega)) rfl rfl (.cons vw_sl (.cons vw_sl .nil)) (fun h7 => ?_) (fun h7 => ?_)
              · skip
                refine v_not false rfl rfl ?_
                refine v_nil ?_
                refine q_n ?_
                refine w_f rfl ?_
                refine w_skip ?_
                refine q_n ?_
                refine w_seq ?_
                refine w_reg rfl ?_
                refine v_assign (c := .v (.bool true)) rfl ?_
                refine v_nil ?_
                refine q_n ?_
                refine w_ret ?_
                refine r_r rfl ?_
                first | exact tr_v | (exfalso; simp_all; done)
              · skip
                refine v_not true rfl rfl ?_
                refine v_nil ?_
                refine q_n ?_
                refine w_t rfl ?_
                refine w_seq ?_
                refine w_reg rfl ?_
                refine v_assign (c := .v (.bool false)) rfl ?_
                refine v_nil ?_
                refine q_n ?_
                refine w_ret (q_r ?_)
                refine r_r rfl ?_
                first | exact tr_v | (exfalso; simp_all; done)
            · skip
              refine d_q rfl rfl rfl rfl rfl ?_
              refine v_not true rfl rfl ?_
              refine v_nil ?_
              refine d_nil ?_
              refine q_n ?_
              refine w_t rfl ?_
              refine w_seq ?_
              refine w_reg rfl ?_
              refine v_assign (c := .v (.bool false)) rfl ?_
              refine v_nil ?_
              refine q_n ?_
              refine w_ret (q_r ?_)
              refine r_r rfl ?_
              first | exact tr_v | (exfalso; simp_all; done)
end Go.VL
