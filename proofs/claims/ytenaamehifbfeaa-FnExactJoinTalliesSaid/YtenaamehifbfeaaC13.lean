/- Walks: lists of tallies, joined (the reference). -/
import Derived.Test.YtenaamehifbfeaaC12
import Derived.Test.YtenaamehifbfeaaC5
import Derived.Test.YtenaamehifbfeaaV33
namespace Go.VL
open Go.RowKit
set_option maxRecDepth 20000
set_option maxHeartbeats 4000000
theorem c44 (xs ys : List Tal) (hx : xs.length ≤ 2 ^ 30) (hy : ys.length ≤ 2 ^ 30) : PureC X 44 [.c (tals false xs), .c (tals false ys)] (.tup [.c (tals true (jnR xs ys).1), cI (jnR xs ys).2]) := by
  refine PureC.of_body (drawD_ok X) (fun _ _ => Go.Proofs.Try.call44 _ _) Go.Proofs.Try.func44 rfl (n := 139) rfl ?_
  refine w_seq ?_
  refine w_reg rfl ?_
  refine v_assign rfl ?_
  refine v_assign (c := .v (.int .i64 0)) rfl ?_
  refine v_nil ?_
  refine q_n ?_
  refine w_seq ?_
  refine w_seq ?_
  refine w_reg rfl ?_
  refine v_move rfl ?_
  refine v_callb (c70 _ (by omega)) rfl rfl (.cons vw_sl .nil) (fun h1 => ?_) (fun h1 => ?_)
  · skip
    refine v_not false rfl rfl ?_
    refine v_move rfl ?_
    refine v_guard_on rfl rfl ?_
    refine v_move rfl ?_
    refine v_guard_on rfl rfl ?_
    refine v_callb (c70 _ (by omega)) rfl rfl (.cons vw_sl .nil) (fun h2 => ?_) (fun h2 => ?_)
    · skip
      refine v_guard_on rfl rfl ?_
      refine v_not false rfl rfl ?_
      refine v_pick_f rfl rfl ?_
      refine v_nil ?_
      refine q_n ?_
      refine w_f rfl ?_
      refine w_skip ?_
      refine q_n ?_
      refine w_seq ?_
      refine w_reg rfl ?_
      refine v_lit (flat te []) (H' := [_]) lay40 lay27 rfl rfl ⟨by decide, by decide⟩ rfl rfl ?_
      refine v_assign rfl ?_
      refine v_nil ?_
      refine q_n ?_
      refine w_seq ?_
      refine w_reg rfl ?_
      refine v_assign (c := .v (.int .i64 0)) rfl ?_
      refine v_nil ?_
      refine q_n ?_
      refine w_seq ?_
      refine w_reg rfl ?_
      refine v_assign (c := .v (.int .i64 0)) rfl ?_
      refine v_nil ?_
      refine q_n ?_
      refine w_seq ?_
      refine w_block ?_
      refine w_loop (fun k sl H => ∃ (i j : Nat) (out : List Tal), k = xs.length + ys.length - i - j ∧ i ≤ xs.length ∧ j ≤ ys.length ∧ out ++ mg (xs.drop i) (ys.drop j) = mg xs ys ∧ out.length ≤ i + j ∧ sl = sls [(0, .c (tals false xs)), (1, .c (tals false ys)), (6, .c (.mu 0 0 out.length 3)), (7, cI i), (8, cI j)] ∧ H = [⟨flat te out, 27, true⟩]) ?_ ?_
      · refine ⟨_, _, _, ?_, 0, 0, [], rfl, Nat.zero_le _, Nat.zero_le _, rfl, Nat.zero_le _, rfl, rfl⟩
        exact turn [some 0] rfl rfl rfl ⟨⟨_, rfl, trc_flat te_sc rfl⟩, trivial⟩ ⟨tr_sl, tr_sl, tr_mun rfl rfl, tr_v, tr_v, trivial⟩
      · rintro k sl H ⟨i, j, out, rfl, hi, hj, hp, ho, rfl, rfl⟩
        refine w_seq ?_
        refine w_seq ?_
        refine w_reg rfl ?_
        refine v_move rfl ?_
        refine v_move rfl ?_
        refine v_len_sl lay40 rfl ?_
        refine v_lss lay3 rfl rfl (fun h3 => ?_) (fun h3 => ?_)
        · skip
          refine v_move rfl ?_
          refine v_guard_off rfl rfl rfl ?_
          refine v_guard_off rfl rfl rfl ?_
          refine v_guard_off rfl rfl rfl ?_
          refine v_guard_off rfl rfl rfl ?_
          refine v_pick_t (v := .v (.bool true)) rfl rfl ?_
          refine v_nil ?_
          refine q_n ?_
          refine w_t rfl ?_
          refine w_skip ?_
          refine q_n ?_
          refine w_block ?_
          refine w_block ?_
          refine w_seq ?_
          refine w_draw [0, 0, 2, 7, 15, 31, 31, 95, 255, 511, 1023, 1023, 4095, 8191, 16383, 1023, 1023, 99327, 230399, 492543, 1048575, 2097151, 4194303, 8388607] [⟨0, 0, []⟩, ⟨1, 0, []⟩, ⟨2, 0, []⟩, ⟨3, 0, []⟩, ⟨4, 0, []⟩, ⟨5, 0, []⟩, ⟨6, 0, []⟩, ⟨7, 0, []⟩, ⟨8, 0, []⟩, ⟨9, 0, []⟩, ⟨10, 0, []⟩, ⟨11, 0, []⟩, ⟨12, 0, []⟩, ⟨13, 0, []⟩, ⟨14, 0, []⟩, ⟨15, 0, []⟩, ⟨16, 0, []⟩, ⟨17, 0, []⟩, ⟨18, 0, []⟩, ⟨19, 0, []⟩, ⟨20, 0, []⟩, ⟨21, 0, []⟩, ⟨22, 0, []⟩, ⟨23, 0, []⟩] rfl rfl ?_
          refine d_q rfl rfl rfl rfl rfl ?_
          refine v_move rfl ?_
          refine v_nil ?_
          refine d_q rfl rfl rfl rfl rfl ?_
          refine v_move rfl ?_
          refine v_nil ?_
          refine d_q rfl rfl rfl rfl rfl ?_
          refine v_len_sl lay40 rfl ?_
          refine v_nil ?_
          refine d_q rfl rfl rfl rfl rfl ?_
          refine v_eql lay3 rfl rfl (fun h4 => ?_) (fun h4 => ?_)
          · skip
            refine v_nil ?_
            refine d_q rfl rfl rfl rfl rfl ?_
            refine v_move rfl ?_
            refine v_nil ?_
            refine d_off rfl rfl ?_
            refine d_off rfl rfl ?_
            refine d_off rfl rfl ?_
            refine d_off rfl rfl ?_
            refine d_off rfl rfl ?_
            refine d_off rfl rfl ?_
            refine d_off rfl rfl ?_
            refine d_off rfl rfl ?_
            refine d_off rfl rfl ?_
            refine d_off rfl rfl ?_
            refine d_off rfl rfl ?_
            refine d_off rfl rfl ?_
            refine d_off rfl rfl ?_
            refine d_off rfl rfl ?_
            refine d_off rfl rfl ?_
            refine d_off rfl rfl ?_
            refine d_off rfl rfl ?_
            refine d_q rfl rfl rfl rfl rfl ?_
            refine v_pick_t (v := .v (.bool true)) rfl rfl ?_
            refine v_nil ?_
            refine d_q rfl rfl rfl rfl rfl ?_
            refine v_assign rfl ?_
            refine v_nil ?_
            refine d_nil ?_
            refine q_n ?_
            refine w_t rfl ?_
            refine w_seq ?_
            refine w_reg rfl ?_
            refine v_move rfl ?_
            refine v_move rfl ?_
            refine v_move rfl ?_
            have hq5 : i < _ := (by omega : i < xs.length)
            refine v_idx_n (k := 3) i te_len lay40 lay27 rfl rfl rfl (rfl) rfl hq5 ?_
            refine v_load_vw (.agg [.v _, .v _, .v _]) lay27 rfl rfl rfl ?_
            refine v_lit (flat te [xs[i]]) (H' := [_, _]) lay40 lay27 rfl rfl ⟨by decide, by decide⟩ rfl rfl ?_
            refine v_app_flat (H' := [_, _, _]) te_sc te_len lay40 lay27 rfl rfl (by simp) rfl rfl (by simp) rfl rfl (by unfold maxLen; simp only []; omega) rfl rfl ?_
            refine v_assign rfl ?_
            refine v_nil ?_
            refine q_n ?_
            refine w_reg rfl ?_
            refine v_move rfl ?_
            refine v_add lay3 rfl rfl (i64r (by omega)) ?_
            refine v_assign rfl ?_
            refine v_nil ?_
            refine q_bn ?_
            refine q_bn ?_
            refine q_n ?_
            refine ⟨_, _, _, ?_, ⟨i + 1, j, out ++ [xs[i]], rfl, by omega, by omega, ?_, by simp; omega, rfl, rfl⟩, by omega⟩
            · exact turn [some 2] rfl rfl rfl ⟨⟨_, rfl, trc_flat te_sc rfl⟩, trivial⟩ ⟨tr_sl, tr_sl, tr_mun rfl (by simp), tr_v, tr_v, trivial⟩
            · rw [← hp, mg_l (k := j) hq5 (.inl (by omega)), List.append_assoc]; rfl
          · skip
            refine v_nil ?_
            refine d_q rfl rfl rfl rfl rfl ?_
            refine v_move rfl ?_
            refine v_nil ?_
            refine d_q rfl rfl rfl rfl rfl ?_
            refine v_move rfl ?_
            refine v_nil ?_
            refine d_q rfl rfl rfl rfl rfl ?_
            refine v_move rfl ?_
            refine v_nil ?_
            refine d_q rfl rfl rfl rfl rfl ?_
            refine v_len_sl lay40 rfl ?_
            refine v_nil ?_
            refine d_q rfl rfl rfl rfl rfl ?_
            refine v_lss lay3 rfl rfl (fun h6 => ?_) (fun h6 => ?_)
            · skip
              refine v_nil ?_
              refine d_q rfl rfl rfl rfl rfl ?_
              refine v_move rfl ?_
              refine v_nil ?_
              refine d_q rfl rfl rfl rfl rfl ?_
              refine v_move rfl ?_
              refine v_nil ?_
              refine d_q rfl rfl rfl rfl rfl ?_
              refine v_move rfl ?_
              refine v_nil ?_
              refine d_q rfl rfl rfl rfl rfl ?_
              have hq7 : i < _ := (by omega : i < xs.length)
              refine v_idx_n (k := 3) i te_len lay40 lay27 rfl rfl rfl (rfl) rfl hq7 ?_
              refine v_nil ?_
              refine d_q rfl rfl rfl rfl rfl ?_
              refine v_fa_vw (off' := 0) lay27 rfl rfl rfl ?_
              refine v_nil ?_
              refine d_q rfl rfl rfl rfl rfl ?_
              refine v_load_vw (.c (.v _)) lay2 rfl rfl rfl ?_
              refine v_nil ?_
              refine d_q rfl rfl rfl rfl rfl ?_
              refine v_move rfl ?_
              refine v_nil ?_
              refine d_q rfl rfl rfl rfl rfl ?_
              refine v_move rfl ?_
              refine v_nil ?_
              refine d_q rfl rfl rfl rfl rfl ?_
              have hq8 : j < _ := (by omega : j < ys.length)
              refine v_idx_n (k := 3) j te_len lay40 lay27 rfl rfl rfl (rfl) rfl hq8 ?_
              refine v_nil ?_
              refine d_q rfl rfl rfl rfl rfl ?_
              refine v_fa_vw (off' := 0) lay27 rfl rfl rfl ?_
              refine v_nil ?_
              refine d_q rfl rfl rfl rfl rfl ?_
              refine v_load_vw (.c (.v _)) lay2 rfl rfl rfl ?_
              refine v_nil ?_
              refine d_q rfl rfl rfl rfl rfl ?_
              refine v_lss lay2 rfl rfl (fun h9 => ?_) (fun h9 => ?_)
              · skip
                refine v_nil ?_
                refine d_q rfl rfl rfl rfl rfl ?_
                refine v_pick_t rfl rfl ?_
                refine v_nil ?_
                refine d_q rfl rfl rfl rfl rfl ?_
                refine v_pick_f rfl rfl ?_
                refine v_nil ?_
                refine d_q rfl rfl rfl rfl rfl ?_
                refine v_assign rfl ?_
                refine v_nil ?_
                refine d_nil ?_
                refine q_n ?_
                refine w_t rfl ?_
                refine w_seq ?_
                refine w_reg rfl ?_
                refine v_move rfl ?_
                refine v_move rfl ?_
                refine v_move rfl ?_
                have hq10 : i < _ := (by omega : i < xs.length)
                refine v_idx_n (k := 3) i te_len lay40 lay27 rfl rfl rfl (rfl) rfl hq10 ?_
                refine v_load_vw (.agg [.v _, .v _, .v _]) lay27 rfl rfl rfl ?_
                refine v_lit (flat te [xs[i]]) (H' := [_, _]) lay40 lay27 rfl rfl ⟨by decide, by decide⟩ rfl rfl ?_
                refine v_app_flat (H' := [_, _, _]) te_sc te_len lay40 lay27 rfl rfl (by simp) rfl rfl (by simp) rfl rfl (by unfold maxLen; simp only []; omega) rfl rfl ?_
                refine v_assign rfl ?_
                refine v_nil ?_
                refine q_n ?_
                refine w_reg rfl ?_
                refine v_move rfl ?_
                refine v_add lay3 rfl rfl (i64r (by omega)) ?_
                refine v_assign rfl ?_
                refine v_nil ?_
                refine q_bn ?_
                refine q_bn ?_
                refine q_n ?_
                refine ⟨_, _, _, ?_, ⟨i + 1, j, out ++ [xs[i]], rfl, by omega, by omega, ?_, by simp; omega, rfl, rfl⟩, by omega⟩
                · exact turn [some 2] rfl rfl rfl ⟨⟨_, rfl, trc_flat te_sc rfl⟩, trivial⟩ ⟨tr_sl, tr_sl, tr_mun rfl (by simp), tr_v, tr_v, trivial⟩
                · rw [← hp, mg_l (k := j) hq7 (.inr ⟨hq8, h9⟩), List.append_assoc]; rfl
              · skip
                refine v_nil ?_
                refine d_q rfl rfl rfl rfl rfl ?_
                refine v_pick_t rfl rfl ?_
                refine v_nil ?_
                refine d_q rfl rfl rfl rfl rfl ?_
                refine v_pick_f rfl rfl ?_
                refine v_nil ?_
                refine d_q rfl rfl rfl rfl rfl ?_
                refine v_assign rfl ?_
                refine v_nil ?_
                refine d_nil ?_
                refine q_n ?_
                refine w_f rfl ?_
                refine w_seq ?_
                refine w_draw [0, 0, 2, 7, 15, 31, 31, 127, 255, 511, 31, 31, 3103, 7199, 15391, 32767, 65535, 131071] [⟨0, 0, []⟩, ⟨1, 0, []⟩, ⟨2, 0, []⟩, ⟨3, 0, []⟩, ⟨4, 0, []⟩, ⟨5, 0, []⟩, ⟨6, 0, []⟩, ⟨7, 0, []⟩, ⟨8, 0, []⟩, ⟨9, 0, []⟩, ⟨10, 0, []⟩, ⟨11, 0, []⟩, ⟨12, 0, []⟩, ⟨13, 0, []⟩, ⟨14, 0, []⟩, ⟨15, 0, []⟩, ⟨16, 0, []⟩, ⟨17, 0, []⟩] rfl rfl ?_
                refine d_q rfl rfl rfl rfl rfl ?_
                refine v_move rfl ?_
                refine v_nil ?_
                refine d_q rfl rfl rfl rfl rfl ?_
                refine v_move rfl ?_
                refine v_nil ?_
                refine d_q rfl rfl rfl rfl rfl ?_
                refine v_len_sl lay40 rfl ?_
                refine v_nil ?_
                refine d_q rfl rfl rfl rfl rfl ?_
                refine v_eql lay3 rfl rfl (fun h11 => ?_) (fun h11 => ?_)
                · skip
                  exfalso; omega
                · skip
                  refine v_nil ?_
                  refine d_q rfl rfl rfl rfl rfl ?_
                  refine v_move rfl ?_
                  refine v_nil ?_
                  refine d_q rfl rfl rfl rfl rfl ?_
                  refine v_move rfl ?_
                  refine v_nil ?_
                  refine d_q rfl rfl rfl rfl rfl ?_
                  refine v_move rfl ?_
                  refine v_nil ?_
                  refine d_q rfl rfl rfl rfl rfl ?_
                  have hq12 : j < _ := (by omega : j < ys.length)
                  refine v_idx_n (k := 3) j te_len lay40 lay27 rfl rfl rfl (rfl) rfl hq12 ?_
                  refine v_nil ?_
                  refine d_q rfl rfl rfl rfl rfl ?_
                  refine v_fa_vw (off' := 0) lay27 rfl rfl rfl ?_
                  refine v_nil ?_
                  refine d_q rfl rfl rfl rfl rfl ?_
                  refine v_load_vw (.c (.v _)) lay2 rfl rfl rfl ?_
                  refine v_nil ?_
                  refine d_q rfl rfl rfl rfl rfl ?_
                  refine v_move rfl ?_
                  refine v_nil ?_
                  refine d_q rfl rfl rfl rfl rfl ?_
                  refine v_move rfl ?_
                  refine v_nil ?_
                  refine d_q rfl rfl rfl rfl rfl ?_
                  have hq13 : i < _ := (by omega : i < xs.length)
                  refine v_idx_n (k := 3) i te_len lay40 lay27 rfl rfl rfl (rfl) rfl hq13 ?_
                  refine v_nil ?_
                  refine d_q rfl rfl rfl rfl rfl ?_
                  refine v_fa_vw (off' := 0) lay27 rfl rfl rfl ?_
                  refine v_nil ?_
                  refine d_q rfl rfl rfl rfl rfl ?_
                  refine v_load_vw (.c (.v _)) lay2 rfl rfl rfl ?_
                  refine v_nil ?_
                  refine d_q rfl rfl rfl rfl rfl ?_
                  refine v_lss lay2 rfl rfl (fun h14 => ?_) (fun h14 => ?_)
                  · skip
                    refine v_nil ?_
                    refine d_q rfl rfl rfl rfl rfl ?_
                    refine v_pick_f rfl rfl ?_
                    refine v_nil ?_
                    refine d_q rfl rfl rfl rfl rfl ?_
                    refine v_assign rfl ?_
                    refine v_nil ?_
                    refine d_nil ?_
                    refine q_n ?_
                    refine w_t rfl ?_
                    refine w_seq ?_
                    refine w_reg rfl ?_
                    refine v_move rfl ?_
                    refine v_move rfl ?_
                    refine v_move rfl ?_
                    have hq15 : j < _ := (by omega : j < ys.length)
                    refine v_idx_n (k := 3) j te_len lay40 lay27 rfl rfl rfl (rfl) rfl hq15 ?_
                    refine v_load_vw (.agg [.v _, .v _, .v _]) lay27 rfl rfl rfl ?_
                    refine v_lit (flat te [ys[j]]) (H' := [_, _]) lay40 lay27 rfl rfl ⟨by decide, by decide⟩ rfl rfl ?_
                    refine v_app_flat (H' := [_, _, _]) te_sc te_len lay40 lay27 rfl rfl (by simp) rfl rfl (by simp) rfl rfl (by unfold maxLen; simp only []; omega) rfl rfl ?_
                    refine v_assign rfl ?_
                    refine v_nil ?_
                    refine q_n ?_
                    refine w_reg rfl ?_
                    refine v_move rfl ?_
                    refine v_add lay3 rfl rfl (i64r (by omega)) ?_
                    refine v_assign rfl ?_
                    refine v_nil ?_
                    refine q_bn ?_
                    refine q_bn ?_
                    refine q_n ?_
                    refine ⟨_, _, _, ?_, ⟨i, j + 1, out ++ [ys[j]], rfl, by omega, by omega, ?_, by simp; omega, rfl, rfl⟩, by omega⟩
                    · exact turn [some 2] rfl rfl rfl ⟨⟨_, rfl, trc_flat te_sc rfl⟩, trivial⟩ ⟨tr_sl, tr_sl, tr_mun rfl (by simp), tr_v, tr_v, trivial⟩
                    · rw [← hp, mg_r (i := i) hq12 (.inr ⟨hq13, h14⟩), List.append_assoc]; rfl
                  · skip
                    refine v_nil ?_
                    refine d_q rfl rfl rfl rfl rfl ?_
                    refine v_pick_f rfl rfl ?_
                    refine v_nil ?_
                    refine d_q rfl rfl rfl rfl rfl ?_
                    refine v_assign rfl ?_
                    refine v_nil ?_
                    refine d_nil ?_
                    refine q_n ?_
                    refine w_f rfl ?_
                    refine w_seq ?_
                    refine w_reg rfl ?_
                    refine v_move rfl ?_
                    refine v_move rfl ?_
                    have hq16 : i < _ := (by omega : i < xs.length)
                    refine v_idx_n (k := 3) i te_len lay40 lay27 rfl rfl rfl (rfl) rfl hq16 ?_
                    refine v_load_vw (.agg [.v _, .v _, .v _]) lay27 rfl rfl rfl ?_
                    refine v_alloc (m := 1) (H' := [_, ⟨[.v _, .v _, .v _], 27, true⟩]) lay27 rfl rfl ?_
                    refine v_store (H' := [_, ⟨[_, _, _], 27, true⟩]) lay27 rfl rfl rfl rfl rfl rfl ?_
                    refine v_nil ?_
                    refine q_n ?_
                    refine w_seq ?_
                    refine w_seq ?_
                    refine w_draw [0, 0, 3, 7, 15, 0, 32, 127, 255, 511, 511, 2047, 4095, 8191, 511, 16895, 65535, 131071, 262143, 262143, 1048575, 2097151, 4194303, 262143, 8650751, 33554431, 67108863, 134217727] [⟨0, 0, []⟩, ⟨1, 0, []⟩, ⟨2, 0, []⟩, ⟨3, 0, []⟩, ⟨4, 0, []⟩, ⟨5, 0, []⟩, ⟨6, 0, []⟩, ⟨7, 0, []⟩, ⟨8, 0, []⟩, ⟨9, 0, []⟩, ⟨10, 0, []⟩, ⟨11, 0, []⟩, ⟨12, 0, []⟩, ⟨13, 0, []⟩, ⟨14, 0, []⟩, ⟨15, 0, []⟩, ⟨16, 0, []⟩, ⟨17, 0, []⟩, ⟨18, 0, []⟩, ⟨19, 0, []⟩, ⟨20, 0, []⟩, ⟨21, 0, []⟩, ⟨22, 0, []⟩, ⟨23, 0, []⟩, ⟨24, 0, []⟩, ⟨25, 0, []⟩, ⟨26, 0, []⟩, ⟨27, 0, []⟩] rfl rfl ?_
                    refine d_q rfl rfl rfl rfl rfl ?_
                    refine v_move rfl ?_
                    refine v_nil ?_
                    refine d_q rfl rfl rfl rfl rfl ?_
                    refine v_move rfl ?_
                    refine v_nil ?_
                    refine d_q rfl rfl rfl rfl rfl ?_
                    have hq17 : j < _ := (by omega : j < ys.length)
                    refine v_idx_n (k := 3) j te_len lay40 lay27 rfl rfl rfl (rfl) rfl hq17 ?_
                    refine v_nil ?_
                    refine d_q rfl rfl rfl rfl rfl ?_
                    refine v_fa_vw (off' := 1) lay27 rfl rfl rfl ?_
                    refine v_nil ?_
                    refine d_q rfl rfl rfl rfl rfl ?_
                    refine v_load_vw (.c (.v _)) lay23 rfl rfl rfl ?_
                    refine v_nil ?_
                    refine d_q rfl rfl rfl rfl rfl ?_
                    refine v_fa_pt (off' := 1) lay27 rfl rfl rfl ?_
                    refine v_nil ?_
                    refine d_q rfl rfl rfl rfl rfl ?_
                    refine v_load_pt (.c _) lay23 rfl rfl rfl rfl ?_
                    refine v_nil ?_
                    refine d_q rfl rfl rfl rfl rfl ?_
                    refine v_gtr lay23 rfl rfl (fun h18 => ?_) (fun h18 => ?_)
                    · skip
                      refine v_nil ?_
                      refine d_q rfl rfl rfl rfl rfl ?_
                      refine v_move rfl ?_
                      refine v_nil ?_
                      refine d_off rfl rfl ?_
                      refine d_off rfl rfl ?_
                      refine d_off rfl rfl ?_
                      refine d_off rfl rfl ?_
                      refine d_off rfl rfl ?_
                      refine d_off rfl rfl ?_
                      refine d_off rfl rfl ?_
                      refine d_off rfl rfl ?_
                      refine d_off rfl rfl ?_
                      refine d_off rfl rfl ?_
                      refine d_off rfl rfl ?_
                      refine d_off rfl rfl ?_
                      refine d_off rfl rfl ?_
                      refine d_off rfl rfl ?_
                      refine d_off rfl rfl ?_
                      refine d_off rfl rfl ?_
                      refine d_off rfl rfl ?_
                      refine d_off rfl rfl ?_
                      refine d_q rfl rfl rfl rfl rfl ?_
                      refine v_pick_t (v := .v (.bool true)) rfl rfl ?_
                      refine v_nil ?_
                      refine d_nil ?_
                      refine q_n ?_
                      refine w_t rfl ?_
                      refine w_reg rfl ?_
                      refine v_move rfl ?_
                      refine v_move rfl ?_
                      have hq19 : j < _ := (by omega : j < ys.length)
                      refine v_idx_n (k := 3) j te_len lay40 lay27 rfl rfl rfl (rfl) rfl hq19 ?_
                      refine v_load_vw (.agg [.v _, .v _, .v _]) lay27 rfl rfl rfl ?_
                      refine v_store (H' := [_, ⟨[_, _, _], 27, true⟩]) lay27 rfl rfl rfl rfl rfl rfl ?_
                      refine v_nil ?_
                      refine q_n ?_
                      refine w_seq ?_
                      refine w_reg rfl ?_
                      refine v_move rfl ?_
                      refine v_load_pt (.agg [_, _, _]) lay27 rfl rfl rfl rfl ?_
                      refine v_lit (flat te [ys[j]]) (H' := [_, _, _]) lay40 lay27 rfl rfl ⟨by decide, by decide⟩ rfl rfl ?_
                      refine v_app_flat (H' := [_, _, _, _]) te_sc te_len lay40 lay27 rfl rfl (by simp) rfl rfl (by simp) rfl rfl (by unfold maxLen; simp only []; omega) rfl rfl ?_
                      refine v_assign rfl ?_
                      refine v_nil ?_
                      refine q_n ?_
                      refine w_seq ?_
                      refine w_reg rfl ?_
                      refine v_move rfl ?_
                      refine v_add lay3 rfl rfl (i64r (by omega)) ?_
                      refine v_assign rfl ?_
                      refine v_nil ?_
                      refine q_n ?_
                      refine w_reg rfl ?_
                      refine v_move rfl ?_
                      refine v_add lay3 rfl rfl (i64r (by omega)) ?_
                      refine v_assign rfl ?_
                      refine v_nil ?_
                      refine q_bn ?_
                      refine q_bn ?_
                      refine q_n ?_
                      refine ⟨_, _, _, ?_, ⟨i + 1, j + 1, out ++ [ys[j]], rfl, by omega, by omega, ?_, by simp; omega, rfl, rfl⟩, by omega⟩
                      · exact turn [some 3] rfl rfl rfl ⟨⟨_, rfl, trc_flat te_sc rfl⟩, trivial⟩ ⟨tr_sl, tr_sl, tr_mun rfl (by simp), tr_v, tr_v, trivial⟩
                      · rw [← hp, mg_b hq16 hq17 (by omega), best_r (a := xs[i]) (b := ys[j]) (by omega), List.append_assoc]; rfl
                    · skip
                      refine v_nil ?_
                      refine d_q rfl rfl rfl rfl rfl ?_
                      refine v_move rfl ?_
                      refine v_nil ?_
                      refine d_q rfl rfl rfl rfl rfl ?_
                      refine v_move rfl ?_
                      refine v_nil ?_
                      refine d_q rfl rfl rfl rfl rfl ?_
                      refine v_move rfl ?_
                      refine v_nil ?_
                      refine d_q rfl rfl rfl rfl rfl ?_
                      have hq20 : j < _ := (by omega : j < ys.length)
                      refine v_idx_n (k := 3) j te_len lay40 lay27 rfl rfl rfl (rfl) rfl hq20 ?_
                      refine v_nil ?_
                      refine d_q rfl rfl rfl rfl rfl ?_
                      refine v_fa_vw (off' := 1) lay27 rfl rfl rfl ?_
                      refine v_nil ?_
                      refine d_q rfl rfl rfl rfl rfl ?_
                      refine v_load_vw (.c (.v _)) lay23 rfl rfl rfl ?_
                      refine v_nil ?_
                      refine d_q rfl rfl rfl rfl rfl ?_
                      refine v_fa_pt (off' := 1) lay27 rfl rfl rfl ?_
                      refine v_nil ?_
                      refine d_q rfl rfl rfl rfl rfl ?_
                      refine v_load_pt (.c _) lay23 rfl rfl rfl rfl ?_
                      refine v_nil ?_
                      refine d_q rfl rfl rfl rfl rfl ?_
                      refine v_eql lay23 rfl rfl (fun h21 => ?_) (fun h21 => ?_)
                      · skip
                        refine v_nil ?_
                        refine d_q rfl rfl rfl rfl rfl ?_
                        refine v_move rfl ?_
                        refine v_nil ?_
                        refine d_q rfl rfl rfl rfl rfl ?_
                        refine v_move rfl ?_
                        refine v_nil ?_
                        refine d_q rfl rfl rfl rfl rfl ?_
                        refine v_move rfl ?_
                        refine v_nil ?_
                        refine d_q rfl rfl rfl rfl rfl ?_
                        have hq22 : j < _ := (by omega : j < ys.length)
                        refine v_idx_n (k := 3) j te_len lay40 lay27 rfl rfl rfl (rfl) rfl hq22 ?_
                        refine v_nil ?_
                        refine d_q rfl rfl rfl rfl rfl ?_
                        refine v_fa_vw (off' := 2) lay27 rfl rfl rfl ?_
                        refine v_nil ?_
                        refine d_q rfl rfl rfl rfl rfl ?_
                        refine v_load_vw (.c (.v _)) lay23 rfl rfl rfl ?_
                        refine v_nil ?_
                        refine d_q rfl rfl rfl rfl rfl ?_
                        refine v_fa_pt (off' := 2) lay27 rfl rfl rfl ?_
                        refine v_nil ?_
                        refine d_q rfl rfl rfl rfl rfl ?_
                        refine v_load_pt (.c _) lay23 rfl rfl rfl rfl ?_
                        refine v_nil ?_
                        refine d_q rfl rfl rfl rfl rfl ?_
                        refine v_gtr lay23 rfl rfl (fun h23 => ?_) (fun h23 => ?_)
                        · skip
                          refine v_nil ?_
                          refine d_q rfl rfl rfl rfl rfl ?_
                          refine v_pick_t rfl rfl ?_
                          refine v_nil ?_
                          refine d_q rfl rfl rfl rfl rfl ?_
                          refine v_pick_f rfl rfl ?_
                          refine v_nil ?_
                          refine d_nil ?_
                          refine q_n ?_
                          refine w_t rfl ?_
                          refine w_reg rfl ?_
                          refine v_move rfl ?_
                          refine v_move rfl ?_
                          have hq24 : j < _ := (by omega : j < ys.length)
                          refine v_idx_n (k := 3) j te_len lay40 lay27 rfl rfl rfl (rfl) rfl hq24 ?_
                          refine v_load_vw (.agg [.v _, .v _, .v _]) lay27 rfl rfl rfl ?_
                          refine v_store (H' := [_, ⟨[_, _, _], 27, true⟩]) lay27 rfl rfl rfl rfl rfl rfl ?_
                          refine v_nil ?_
                          refine q_n ?_
                          refine w_seq ?_
                          refine w_reg rfl ?_
                          refine v_move rfl ?_
                          refine v_load_pt (.agg [_, _, _]) lay27 rfl rfl rfl rfl ?_
                          refine v_lit (flat te [ys[j]]) (H' := [_, _, _]) lay40 lay27 rfl rfl ⟨by decide, by decide⟩ rfl rfl ?_
                          refine v_app_flat (H' := [_, _, _, _]) te_sc te_len lay40 lay27 rfl rfl (by simp) rfl rfl (by simp) rfl rfl (by unfold maxLen; simp only []; omega) rfl rfl ?_
                          refine v_assign rfl ?_
                          refine v_nil ?_
                          refine q_n ?_
                          refine w_seq ?_
                          refine w_reg rfl ?_
                          refine v_move rfl ?_
                          refine v_add lay3 rfl rfl (i64r (by omega)) ?_
                          refine v_assign rfl ?_
                          refine v_nil ?_
                          refine q_n ?_
                          refine w_reg rfl ?_
                          refine v_move rfl ?_
                          refine v_add lay3 rfl rfl (i64r (by omega)) ?_
                          refine v_assign rfl ?_
                          refine v_nil ?_
                          refine q_bn ?_
                          refine q_bn ?_
                          refine q_n ?_
                          refine ⟨_, _, _, ?_, ⟨i + 1, j + 1, out ++ [ys[j]], rfl, by omega, by omega, ?_, by simp; omega, rfl, rfl⟩, by omega⟩
                          · exact turn [some 3] rfl rfl rfl ⟨⟨_, rfl, trc_flat te_sc rfl⟩, trivial⟩ ⟨tr_sl, tr_sl, tr_mun rfl (by simp), tr_v, tr_v, trivial⟩
                          · rw [← hp, mg_b hq16 hq17 (by omega), best_r (a := xs[i]) (b := ys[j]) (by omega), List.append_assoc]; rfl
                        · skip
                          refine v_nil ?_
                          refine d_q rfl rfl rfl rfl rfl ?_
                          refine v_pick_t rfl rfl ?_
                          refine v_nil ?_
                          refine d_q rfl rfl rfl rfl rfl ?_
                          refine v_pick_f rfl rfl ?_
                          refine v_nil ?_
                          refine d_nil ?_
                          refine q_n ?_
                          refine w_f rfl ?_
                          refine w_skip ?_
                          refine q_n ?_
                          refine w_seq ?_
                          refine w_reg rfl ?_
                          refine v_move rfl ?_
                          refine v_load_pt (.agg [_, _, _]) lay27 rfl rfl rfl rfl ?_
                          refine v_lit (flat te [xs[i]]) (H' := [_, _, _]) lay40 lay27 rfl rfl ⟨by decide, by decide⟩ rfl rfl ?_
                          refine v_app_flat (H' := [_, _, _, _]) te_sc te_len lay40 lay27 rfl rfl (by simp) rfl rfl (by simp) rfl rfl (by unfold maxLen; simp only []; omega) rfl rfl ?_
                          refine v_assign rfl ?_
                          refine v_nil ?_
                          refine q_n ?_
                          refine w_seq ?_
                          refine w_reg rfl ?_
                          refine v_move rfl ?_
                          refine v_add lay3 rfl rfl (i64r (by omega)) ?_
                          refine v_assign rfl ?_
                          refine v_nil ?_
                          refine q_n ?_
                          refine w_reg rfl ?_
                          refine v_move rfl ?_
                          refine v_add lay3 rfl rfl (i64r (by omega)) ?_
                          refine v_assign rfl ?_
                          refine v_nil ?_
                          refine q_bn ?_
                          refine q_bn ?_
                          refine q_n ?_
                          refine ⟨_, _, _, ?_, ⟨i + 1, j + 1, out ++ [xs[i]], rfl, by omega, by omega, ?_, by simp; omega, rfl, rfl⟩, by omega⟩
                          · exact turn [some 3] rfl rfl rfl ⟨⟨_, rfl, trc_flat te_sc rfl⟩, trivial⟩ ⟨tr_sl, tr_sl, tr_mun rfl (by simp), tr_v, tr_v, trivial⟩
                          · rw [← hp, mg_b hq16 hq17 (by omega), best_l (a := xs[i]) (b := ys[j]) (by omega), List.append_assoc]; rfl
                      · skip
                        refine v_nil ?_
                        refine d_q rfl rfl rfl rfl rfl ?_
                        refine v_move rfl ?_
                        refine v_nil ?_
                        refine d_off rfl rfl ?_
                        refine d_off rfl rfl ?_
                        refine d_off rfl rfl ?_
                        refine d_off rfl rfl ?_
                        refine d_off rfl rfl ?_
                        refine d_off rfl rfl ?_
                        refine d_off rfl rfl ?_
                        refine d_off rfl rfl ?_
                        refine d_q rfl rfl rfl rfl rfl ?_
                        refine v_pick_f (v := .v (.bool false)) rfl rfl ?_
                        refine v_nil ?_
                        refine d_q rfl rfl rfl rfl rfl ?_
                        refine v_pick_f rfl rfl ?_
                        refine v_nil ?_
                        refine d_nil ?_
                        refine q_n ?_
                        refine w_f rfl ?_
                        refine w_skip ?_
                        refine q_n ?_
                        refine w_seq ?_
                        refine w_reg rfl ?_
                        refine v_move rfl ?_
                        refine v_load_pt (.agg [_, _, _]) lay27 rfl rfl rfl rfl ?_
                        refine v_lit (flat te [xs[i]]) (H' := [_, _, _]) lay40 lay27 rfl rfl ⟨by decide, by decide⟩ rfl rfl ?_
                        refine v_app_flat (H' := [_, _, _, _]) te_sc te_len lay40 lay27 rfl rfl (by simp) rfl rfl (by simp) rfl rfl (by unfold maxLen; simp only []; omega) rfl rfl ?_
                        refine v_assign rfl ?_
                        refine v_nil ?_
                        refine q_n ?_
                        refine w_seq ?_
                        refine w_reg rfl ?_
                        refine v_move rfl ?_
                        refine v_add lay3 rfl rfl (i64r (by omega)) ?_
                        refine v_assign rfl ?_
                        refine v_nil ?_
                        refine q_n ?_
                        refine w_reg rfl ?_
                        refine v_move rfl ?_
                        refine v_add lay3 rfl rfl (i64r (by omega)) ?_
                        refine v_assign rfl ?_
                        refine v_nil ?_
                        refine q_bn ?_
                        refine q_bn ?_
                        refine q_n ?_
                        refine ⟨_, _, _, ?_, ⟨i + 1, j + 1, out ++ [xs[i]], rfl, by omega, by omega, ?_, by simp; omega, rfl, rfl⟩, by omega⟩
                        · exact turn [some 3] rfl rfl rfl ⟨⟨_, rfl, trc_flat te_sc rfl⟩, trivial⟩ ⟨tr_sl, tr_sl, tr_mun rfl (by simp), tr_v, tr_v, trivial⟩
                        · rw [← hp, mg_b hq16 hq17 (by omega), best_l (a := xs[i]) (b := ys[j]) (by omega), List.append_assoc]; rfl
            · skip
              exact absurd h3 h6
        · skip
          refine v_move rfl ?_
          refine v_guard_on rfl rfl ?_
          refine v_move rfl ?_
          refine v_guard_on rfl rfl ?_
          refine v_move rfl ?_
          refine v_guard_on rfl rfl ?_
          refine v_len_sl lay40 rfl ?_
          refine v_guard_on rfl rfl ?_
          refine v_lss lay3 rfl rfl (fun h25 => ?_) (fun h25 => ?_)
          · skip
            refine v_pick_f rfl rfl ?_
            refine v_nil ?_
            refine q_n ?_
            refine w_t rfl ?_
            refine w_skip ?_
            refine q_n ?_
            refine w_block ?_
            refine w_block ?_
            refine w_seq ?_
            refine w_draw [0, 0, 2, 7, 15, 31, 31, 95, 255, 511, 1023, 1023, 4095, 8191, 16383, 1023, 1023, 99327, 230399, 492543, 1048575, 2097151, 4194303, 8388607] [⟨0, 0, []⟩, ⟨1, 0, []⟩, ⟨2, 0, []⟩, ⟨3, 0, []⟩, ⟨4, 0, []⟩, ⟨5, 0, []⟩, ⟨6, 0, []⟩, ⟨7, 0, []⟩, ⟨8, 0, []⟩, ⟨9, 0, []⟩, ⟨10, 0, []⟩, ⟨11, 0, []⟩, ⟨12, 0, []⟩, ⟨13, 0, []⟩, ⟨14, 0, []⟩, ⟨15, 0, []⟩, ⟨16, 0, []⟩, ⟨17, 0, []⟩, ⟨18, 0, []⟩, ⟨19, 0, []⟩, ⟨20, 0, []⟩, ⟨21, 0, []⟩, ⟨22, 0, []⟩, ⟨23, 0, []⟩] rfl rfl ?_
            refine d_q rfl rfl rfl rfl rfl ?_
            refine v_move rfl ?_
            refine v_nil ?_
            refine d_q rfl rfl rfl rfl rfl ?_
            refine v_move rfl ?_
            refine v_nil ?_
            refine d_q rfl rfl rfl rfl rfl ?_
            refine v_len_sl lay40 rfl ?_
            refine v_nil ?_
            refine d_q rfl rfl rfl rfl rfl ?_
            refine v_eql lay3 rfl rfl (fun h26 => ?_) (fun h26 => ?_)
            · skip
              exfalso; omega
            · skip
              refine v_nil ?_
              refine d_q rfl rfl rfl rfl rfl ?_
              refine v_move rfl ?_
              refine v_nil ?_
              refine d_q rfl rfl rfl rfl rfl ?_
              refine v_move rfl ?_
              refine v_nil ?_
              refine d_q rfl rfl rfl rfl rfl ?_
              refine v_move rfl ?_
              refine v_nil ?_
              refine d_q rfl rfl rfl rfl rfl ?_
              refine v_len_sl lay40 rfl ?_
              refine v_nil ?_
              refine d_q rfl rfl rfl rfl rfl ?_
              refine v_lss lay3 rfl rfl (fun h27 => ?_) (fun h27 => ?_)
              · skip
                exfalso; omega
              · skip
                refine v_nil ?_
                refine d_q rfl rfl rfl rfl rfl ?_
                refine v_move rfl ?_
                refine v_nil ?_
                refine d_off rfl rfl ?_
                refine d_off rfl rfl ?_
                refine d_off rfl rfl ?_
                refine d_off rfl rfl ?_
                refine d_off rfl rfl ?_
                refine d_off rfl rfl ?_
                refine d_off rfl rfl ?_
                refine d_off rfl rfl ?_
                refine d_off rfl rfl ?_
                refine d_off rfl rfl ?_
                refine d_off rfl rfl ?_
                refine d_q rfl rfl rfl rfl rfl ?_
                refine v_pick_f (v := .v (.bool false)) rfl rfl ?_
                refine v_nil ?_
                refine d_q rfl rfl rfl rfl rfl ?_
                refine v_pick_f rfl rfl ?_
                refine v_nil ?_
                refine d_q rfl rfl rfl rfl rfl ?_
                refine v_assign rfl ?_
                refine v_nil ?_
                refine d_nil ?_
                refine q_n ?_
                refine w_f rfl ?_
                refine w_seq ?_
                refine w_draw [0, 0, 2, 7, 15, 31, 31, 127, 255, 511, 31, 31, 3103, 7199, 15391, 32767, 65535, 131071] [⟨0, 0, []⟩, ⟨1, 0, []⟩, ⟨2, 0, []⟩, ⟨3, 0, []⟩, ⟨4, 0, []⟩, ⟨5, 0, []⟩, ⟨6, 0, []⟩, ⟨7, 0, []⟩, ⟨8, 0, []⟩, ⟨9, 0, []⟩, ⟨10, 0, []⟩, ⟨11, 0, []⟩, ⟨12, 0, []⟩, ⟨13, 0, []⟩, ⟨14, 0, []⟩, ⟨15, 0, []⟩, ⟨16, 0, []⟩, ⟨17, 0, []⟩] rfl rfl ?_
                refine d_q rfl rfl rfl rfl rfl ?_
                refine v_move rfl ?_
                refine v_nil ?_
                refine d_q rfl rfl rfl rfl rfl ?_
                refine v_move rfl ?_
                refine v_nil ?_
                refine d_q rfl rfl rfl rfl rfl ?_
                refine v_len_sl lay40 rfl ?_
                refine v_nil ?_
                refine d_q rfl rfl rfl rfl rfl ?_
                refine v_eql lay3 rfl rfl (fun h28 => ?_) (fun h28 => ?_)
                · skip
                  refine v_nil ?_
                  refine d_q rfl rfl rfl rfl rfl ?_
                  refine v_move rfl ?_
                  refine v_nil ?_
                  refine d_off rfl rfl ?_
                  refine d_off rfl rfl ?_
                  refine d_off rfl rfl ?_
                  refine d_off rfl rfl ?_
                  refine d_off rfl rfl ?_
                  refine d_off rfl rfl ?_
                  refine d_off rfl rfl ?_
                  refine d_off rfl rfl ?_
                  refine d_off rfl rfl ?_
                  refine d_off rfl rfl ?_
                  refine d_off rfl rfl ?_
                  refine d_q rfl rfl rfl rfl rfl ?_
                  refine v_pick_t (v := .v (.bool true)) rfl rfl ?_
                  refine v_nil ?_
                  refine d_q rfl rfl rfl rfl rfl ?_
                  refine v_assign rfl ?_
                  refine v_nil ?_
                  refine d_nil ?_
                  refine q_n ?_
                  refine w_t rfl ?_
                  refine w_seq ?_
                  refine w_reg rfl ?_
                  refine v_move rfl ?_
                  refine v_move rfl ?_
                  refine v_move rfl ?_
                  have hq29 : j < _ := (by omega : j < ys.length)
                  refine v_idx_n (k := 3) j te_len lay40 lay27 rfl rfl rfl (rfl) rfl hq29 ?_
                  refine v_load_vw (.agg [.v _, .v _, .v _]) lay27 rfl rfl rfl ?_
                  refine v_lit (flat te [ys[j]]) (H' := [_, _]) lay40 lay27 rfl rfl ⟨by decide, by decide⟩ rfl rfl ?_
                  refine v_app_flat (H' := [_, _, _]) te_sc te_len lay40 lay27 rfl rfl (by simp) rfl rfl (by simp) rfl rfl (by unfold maxLen; simp only []; omega) rfl rfl ?_
                  refine v_assign rfl ?_
                  refine v_nil ?_
                  refine q_n ?_
                  refine w_reg rfl ?_
                  refine v_move rfl ?_
                  refine v_add lay3 rfl rfl (i64r (by omega)) ?_
                  refine v_assign rfl ?_
                  refine v_nil ?_
                  refine q_bn ?_
                  refine q_bn ?_
                  refine q_n ?_
                  refine ⟨_, _, _, ?_, ⟨i, j + 1, out ++ [ys[j]], rfl, by omega, by omega, ?_, by simp; omega, rfl, rfl⟩, by omega⟩
                  · exact turn [some 2] rfl rfl rfl ⟨⟨_, rfl, trc_flat te_sc rfl⟩, trivial⟩ ⟨tr_sl, tr_sl, tr_mun rfl (by simp), tr_v, tr_v, trivial⟩
                  · rw [← hp, mg_r (i := i) hq29 (.inl (by omega)), List.append_assoc]; rfl
                · skip
                  exfalso; omega
          · skip
            refine v_pick_f rfl rfl ?_
            refine v_nil ?_
            refine q_n ?_
            refine w_f rfl ?_
            refine w_exit ?_
            refine q_e ?_
            refine q_e ?_
            refine q_hit ?_
            refine q_n ?_
            refine w_seq ?_
            refine w_seq ?_
            refine w_reg rfl ?_
            refine v_move rfl ?_
            refine v_len_mu lay40 rfl ?_
            refine v_gtr lay3 rfl rfl (fun h30 => ?_) (fun h30 => ?_)
            · skip
              refine v_nil ?_
              refine q_n ?_
              refine w_t rfl ?_
              refine w_seq ?_
              refine w_reg rfl ?_
              refine v_lit (flat te []) (H' := [_, _]) lay40 lay27 rfl rfl ⟨by decide, by decide⟩ rfl rfl ?_
              refine v_assign rfl ?_
              refine v_assign (c := .v (.int .i64 3)) rfl ?_
              refine v_nil ?_
              refine q_n ?_
              refine w_ret (q_r ?_)
              refine r_r rfl ?_
              have ho2 : out = mg xs ys := by
                rw [← hp, show i = xs.length by omega, show j = ys.length by omega, List.drop_length, List.drop_length, mg_nil, List.append_nil]
              subst ho2
              rw [jnR_3 h1 h2 (by omega)]
              exact a_tup (.cons (a_flat te_sc te_len rfl rfl) (.cons tr_v .nil))
            · skip
              refine v_nil ?_
              refine q_n ?_
              refine w_f rfl ?_
              refine w_skip ?_
              refine q_n ?_
              refine w_seq ?_
              refine w_reg rfl ?_
              refine v_move rfl ?_
              refine v_assign rfl ?_
              refine v_assign (c := .v (.int .i64 0)) rfl ?_
              refine v_nil ?_
              refine q_n ?_
              refine w_ret ?_
              refine r_r rfl ?_
              have ho2 : out = mg xs ys := by
                rw [← hp, show i = xs.length by omega, show j = ys.length by omega, List.drop_length, List.drop_length, mg_nil, List.append_nil]
              subst ho2
              rw [jnR_0 h1 h2 (by omega)]
              exact a_tup (.cons (a_flat te_sc te_len rfl rfl) (.cons tr_v .nil))
    · skip
      refine v_guard_on rfl rfl ?_
      refine v_not true rfl rfl ?_
      refine v_pick_f rfl rfl ?_
      refine v_nil ?_
      refine q_n ?_
      refine w_t rfl ?_
      refine w_seq ?_
      refine w_reg rfl ?_
      refine v_lit (flat te []) (H' := [_]) lay40 lay27 rfl rfl ⟨by decide, by decide⟩ rfl rfl ?_
      refine v_assign rfl ?_
      refine v_assign (c := .v (.int .i64 1)) rfl ?_
      refine v_nil ?_
      refine q_n ?_
      refine w_ret (q_r ?_)
      refine r_r rfl ?_
      rw [jnR_1 fun h => h2 h.2]
      exact a_tup (.cons (a_flat te_sc te_len rfl rfl) (.cons tr_v .nil))
  · skip
    refine v_not true rfl rfl ?_
    refine v_move rfl ?_
    refine v_guard_off rfl rfl rfl ?_
    refine v_guard_off rfl rfl rfl ?_
    refine v_guard_off rfl rfl rfl ?_
    refine v_pick_t (v := .v (.bool true)) rfl rfl ?_
    refine v_nil ?_
    refine q_n ?_
    refine w_t rfl ?_
    refine w_seq ?_
    refine w_reg rfl ?_
    refine v_lit (flat te []) (H' := [_]) lay40 lay27 rfl rfl ⟨by decide, by decide⟩ rfl rfl ?_
    refine v_assign rfl ?_
    refine v_assign (c := .v (.int .i64 1)) rfl ?_
    refine v_nil ?_
    refine q_n ?_
    refine w_ret (q_r ?_)
    refine r_r rfl ?_
    rw [jnR_1 fun h => h1 h.1]
    exact a_tup (.cons (a_flat te_sc te_len rfl rfl) (.cons tr_v .nil))
end Go.VL
