/- Walks: lists of tallies, joined (the program). -/
import Derived.Test.YtenaamehifbfeaaC13
import Derived.Test.YtenaamehifbfeaaC5
import Derived.Test.YtenaamehifbfeaaV33
namespace Go.VL
open Go.RowKit
set_option maxRecDepth 20000
set_option maxHeartbeats 4000000
theorem c88l (xs : List Tal) (hx : xs.length ≤ 2 ^ 40) : LiveC X 88 [.c (tals false xs)] (.c (.mu 0 0 xs.length 3)) [⟨flat te xs, 27, true⟩] := by
  refine LiveC.of_body (drawD_ok X) (fun _ _ => Go.Proofs.Try.call88 _ _) Go.Proofs.Try.func88 rfl (n := 8) rfl ?_
  refine w_seq ?_
  refine w_reg rfl ?_
  refine v_assign rfl ?_
  refine v_nil ?_
  refine q_n ?_
  refine w_seq ?_
  refine w_seq ?_
  refine w_reg rfl ?_
  refine v_move rfl ?_
  refine v_eqnil rfl lay40 rfl rfl (fun h1 => ?_) ?_
  · skip
    refine v_nil ?_
    refine q_n ?_
    refine w_t rfl ?_
    refine w_seq ?_
    refine w_reg rfl ?_
    refine v_assign rfl ?_
    refine v_nil ?_
    refine q_n ?_
    refine w_ret (q_r ?_)
    refine r_r rfl ?_
    have hxs : xs = [] := List.eq_nil_of_length_eq_zero h1.1
    subst hxs
    exact l_ans [none] rfl rfl ⟨rfl, trivial⟩ (tr_nil rfl)
  · skip
    refine v_nil ?_
    refine q_n ?_
    refine w_f rfl ?_
    refine w_skip ?_
    refine q_n ?_
    refine w_seq ?_
    refine w_reg rfl ?_
    refine v_lit (flat te []) (H' := [_]) lay40 lay27 rfl rfl ⟨by decide, by decide⟩ rfl rfl ?_
    refine v_move rfl ?_
    refine v_app_flat_sl (H' := [_, _]) te_sc te_len lay40 lay27 rfl rfl (by simp) rfl rfl rfl (by unfold maxLen; simp only []; omega) rfl rfl ?_
    refine v_assign rfl ?_
    refine v_nil ?_
    refine q_n ?_
    refine w_ret ?_
    refine r_r rfl ?_
    exact l_ans [some 1] rfl rfl ⟨⟨_, rfl, trc_flat te_sc (by simp)⟩, trivial⟩ (tr_mun rfl (by simp))

theorem c88n (n : Nat) (xs : List Tal) (hn : n = xs.length) (hx : n ≤ 2 ^ 40) : LiveC X 88 [.c (.sl false n 3 (flat te xs))] (.c (.mu 0 0 n 3)) [⟨flat te xs, 27, true⟩] := by rw [hn]; exact c88l xs (by omega)

theorem c45l (xs ys : List Tal) (hx : xs.length ≤ 2 ^ 30) (hy : ys.length ≤ 2 ^ 30) (hb : T16 xs) (hb2 : T16 ys) : LiveC X 45 [.c (tals false xs), .c (tals false ys)] (.tup [.c (.mu 0 0 (jnR xs ys).1.length 3), cI (jnR xs ys).2]) [⟨flat te (jnR xs ys).1, 27, true⟩] := by
  refine LiveC.of_body (drawD_ok X) (fun _ _ => Go.Proofs.Try.call45 _ _) Go.Proofs.Try.func45 rfl (n := 72) rfl ?_
  refine w_seq ?_
  refine w_reg rfl ?_
  refine v_assign rfl ?_
  refine v_assign (c := .v (.int .i64 0)) rfl ?_
  refine v_nil ?_
  refine q_n ?_
  refine w_seq ?_
  refine w_seq ?_
  refine w_reg rfl ?_
  refine v_move rfl ?_
  refine v_callb (c58 _ (by omega) (by assumption)) rfl rfl (.cons vw_sl .nil) (fun h1 => ?_) (fun h1 => ?_)
  · skip
    refine v_not false rfl rfl ?_
    refine v_move rfl ?_
    refine v_guard_on rfl rfl ?_
    refine v_move rfl ?_
    refine v_guard_on rfl rfl ?_
    refine v_callb (c58 _ (by omega) (by assumption)) rfl rfl (.cons vw_sl .nil) (fun h2 => ?_) (fun h2 => ?_)
    · skip
      refine v_guard_on rfl rfl ?_
      refine v_not false rfl rfl ?_
      refine v_pick_f rfl rfl ?_
      refine v_nil ?_
      refine q_n ?_
      refine w_f rfl ?_
      refine w_skip ?_
      refine q_n ?_
      refine w_seq ?_
      refine w_reg rfl ?_
      refine v_move rfl ?_
      refine v_live1 (N := 0) (H' := [_]) (c88n xs.length xs rfl (by omega)) (sc_flat te_sc _) rfl rfl rfl rfl rfl rfl (.cons vw_sl .nil) ?_
      refine v_assign rfl ?_
      refine v_nil ?_
      refine q_n ?_
      refine w_seq ?_
      refine w_seq ?_
      refine w_reg rfl ?_
      refine v_move rfl ?_
      refine v_len_sl lay40 rfl ?_
      refine v_move (c := .v (.int .i64 0)) rfl ?_
      refine v_nil ?_
      refine q_n ?_
      refine w_block ?_
      refine w_loop (fun k sl H => ∃ i : Nat, k = ys.length - i ∧ i ≤ ys.length ∧ sl = sls [(6, .c (.mu 0 0 (fo xs ys i).length 3)), (21, .c (tals false ys)), (22, cI ys.length), (23, cI i)] ∧ H = [⟨flat te (fo xs ys i), 27, true⟩]) ?_ ?_
      · refine ⟨_, _, _, ?_, 0, rfl, Nat.zero_le _, rfl, rfl⟩
        exact turn [some 0] rfl rfl rfl ⟨⟨_, rfl, trc_flat te_sc rfl⟩, trivial⟩ ⟨tr_mun rfl rfl, tr_sl, tr_v, tr_v, trivial⟩
      · rintro k sl H ⟨i, rfl, hi, rfl, rfl⟩
        refine w_seq ?_
        refine w_reg rfl ?_
        refine v_lss lay3 rfl rfl (fun h3 => ?_) (fun h3 => ?_)
        · skip
          refine v_nil ?_
          refine q_n ?_
          refine w_seq ?_
          refine w_t rfl ?_
          refine w_skip ?_
          refine q_n ?_
          refine w_seq ?_
          refine w_block ?_
          refine w_seq ?_
          refine w_reg rfl ?_
          have hq4 : i < _ := (by omega : i < ys.length)
          refine v_idx_n (k := 3) i te_len lay40 lay27 rfl rfl rfl (rfl) rfl hq4 ?_
          refine v_load_vw (.agg [.v _, .v _, .v _]) lay27 rfl rfl rfl ?_
          refine v_alloc (m := 1) (H' := [_, ⟨[.v _, .v _, .v _], 27, true⟩]) lay27 rfl rfl ?_
          refine v_store (H' := [_, ⟨[_, _, _], 27, true⟩]) lay27 rfl rfl rfl rfl rfl rfl ?_
          refine v_nil ?_
          refine q_n ?_
          refine w_seq ?_
          refine w_reg rfl ?_
          refine v_move rfl ?_
          refine v_fa_pt (off' := 0) lay27 rfl rfl rfl ?_
          refine v_load_pt (.c _) lay2 rfl rfl rfl rfl ?_
          refine dec_split (p := 0 ≤ fnd (fo xs ys i) ys[i].1) (fun h5 => ?_) (fun h5 => ?_)
          · refine v_call (c82h _ _ (fo_le _ _ i hx hy) (fo_srt _ i h1 h2) h5) rfl rfl rfl (.cons (vw_mu2 te_sc te_len rfl (rfl)) (.cons vw_v .nil)) ?_
            refine v_move_t rfl ?_
            refine v_extract_c rfl rfl ?_
            refine v_extract_c rfl rfl ?_
            refine v_assign rfl ?_
            refine v_assign rfl ?_
            refine v_nil ?_
            refine q_n ?_
            refine w_block ?_
            refine w_seq ?_
            refine w_reg rfl ?_
            refine v_move rfl ?_
            refine v_not false rfl rfl ?_
            refine v_assign rfl ?_
            refine v_nil ?_
            refine q_n ?_
            refine w_f rfl ?_
            refine w_seq ?_
            refine w_draw [0, 1, 0, 0, 12, 28, 60, 127, 0, 256, 0, 0, 3072, 7168, 15360, 32767, 65535, 131071, 262143, 524287] [⟨0, 0, []⟩, ⟨1, 0, []⟩, ⟨2, 0, []⟩, ⟨3, 0, []⟩, ⟨4, 0, []⟩, ⟨5, 0, []⟩, ⟨6, 0, []⟩, ⟨7, 0, []⟩, ⟨8, 0, []⟩, ⟨9, 0, []⟩, ⟨10, 0, []⟩, ⟨11, 0, []⟩, ⟨12, 0, []⟩, ⟨13, 0, []⟩, ⟨14, 0, []⟩, ⟨15, 0, []⟩, ⟨16, 2, []⟩, ⟨17, 0, []⟩, ⟨18, 0, []⟩, ⟨19, 0, []⟩] rfl rfl ?_
            refine d_q rfl rfl rfl rfl rfl ?_
            refine v_fa_pt (off' := 1) lay27 rfl rfl rfl ?_
            refine v_nil ?_
            refine d_q rfl rfl rfl rfl rfl ?_
            refine v_load_pt (.c _) lay23 rfl rfl rfl rfl ?_
            refine v_nil ?_
            refine d_q rfl rfl rfl rfl rfl ?_
            refine v_move rfl ?_
            refine v_nil ?_
            refine d_q rfl rfl rfl rfl rfl ?_
            refine v_move rfl ?_
            refine v_nil ?_
            refine d_q rfl rfl rfl rfl rfl ?_
            have hq6 : (lowb (fo xs ys i) ys[i].1) < _ := (fo_hit hq4 (fo_srt _ i h1 h2) h5).1
            refine v_idx_mu_n (k := 3) (off := 0) (lowb (fo xs ys i) ys[i].1) lay40 lay27 rfl rfl rfl hq6 ?_
            refine v_nil ?_
            refine d_q rfl rfl rfl rfl rfl ?_
            refine v_fa_pt (off' := _) lay27 rfl rfl rfl ?_
            refine v_nil ?_
            refine d_q rfl rfl rfl rfl rfl ?_
            refine v_load_flat (lowb (fo xs ys i) ys[i].1) 1 (.c (.v _)) te_len lay23 rfl rfl (by omega) (by omega) rfl rfl ?_
            refine v_nil ?_
            refine d_call (c94 _ _) rfl rfl rfl rfl rfl (.cons vw_v (.cons vw_v .nil)) ?_
            refine d_q rfl rfl rfl rfl rfl ?_
            refine v_fa_pt (off' := 2) lay27 rfl rfl rfl ?_
            refine v_nil ?_
            refine d_q rfl rfl rfl rfl rfl ?_
            refine v_load_pt (.c _) lay23 rfl rfl rfl rfl ?_
            refine v_nil ?_
            refine d_q rfl rfl rfl rfl rfl ?_
            refine v_move rfl ?_
            refine v_nil ?_
            refine d_q rfl rfl rfl rfl rfl ?_
            refine v_move rfl ?_
            refine v_nil ?_
            refine d_q rfl rfl rfl rfl rfl ?_
            have hq7 : (lowb (fo xs ys i) ys[i].1) < _ := (fo_hit hq4 (fo_srt _ i h1 h2) h5).1
            refine v_idx_mu_n (k := 3) (off := 0) (lowb (fo xs ys i) ys[i].1) lay40 lay27 rfl rfl rfl hq7 ?_
            refine v_nil ?_
            refine d_q rfl rfl rfl rfl rfl ?_
            refine v_fa_pt (off' := _) lay27 rfl rfl rfl ?_
            refine v_nil ?_
            refine d_q rfl rfl rfl rfl rfl ?_
            refine v_load_flat (lowb (fo xs ys i) ys[i].1) 2 (.c (.v _)) te_len lay23 rfl rfl (by omega) (by omega) rfl rfl ?_
            refine v_nil ?_
            refine d_call (c94 _ _) rfl rfl rfl rfl rfl (.cons vw_v (.cons vw_v .nil)) ?_
            refine d_z (.c (.sl true 2 1 (flat int [_, _]))) rfl rfl rfl ?_
            refine d_call (c93 [_, _] (Nat.le_of_ble_eq_true rfl)) rfl rfl rfl rfl rfl (.cons vw_sl .nil) ?_
            refine d_q rfl rfl rfl rfl rfl ?_
            refine v_gtr lay3 rfl rfl (fun h8 => ?_) (fun h8 => ?_)
            · skip
              refine v_nil ?_
              refine d_q rfl rfl rfl rfl rfl ?_
              refine v_assign rfl ?_
              refine v_nil ?_
              refine d_nil ?_
              refine q_n ?_
              refine w_t rfl ?_
              refine w_reg rfl ?_
              refine v_move rfl ?_
              refine v_move rfl ?_
              refine v_load_pt (.agg [_, _, _]) lay27 rfl rfl rfl rfl ?_
              have hq9 : (lowb (fo xs ys i) ys[i].1) < _ := (fo_hit hq4 (fo_srt _ i h1 h2) h5).1
              refine v_idx_mu_n (k := 3) (off := 0) (lowb (fo xs ys i) ys[i].1) lay40 lay27 rfl rfl rfl hq9 ?_
              refine v_store_flat (H' := [_, _]) (lowb (fo xs ys i) ys[i].1) 0 (ys[i]) te_len lay27 rfl rfl rfl (by omega) (by omega) rfl rfl (rfl) rfl ?_
              refine v_nil ?_
              refine q_bn ?_
              refine q_bn ?_
              refine q_n ?_
              refine w_reg rfl ?_
              refine v_add lay3 rfl rfl (i64r (by omega)) ?_
              refine v_move rfl ?_
              refine v_nil ?_
              refine q_n ?_
              have hst : (fo xs ys i).set (lowb (fo xs ys i) ys[i].1) ys[i] = fo xs ys (i + 1) := by
                obtain ⟨hq, hf⟩ := fo_hit hq4 (fo_srt _ i h1 h2) h5
                rw [hf, best_r (cmp_gt h8)]
              refine ⟨_, _, _, ?_, ⟨i + 1, rfl, by omega, rfl, rfl⟩, by omega⟩
              exact turn [some 0] rfl rfl rfl ⟨⟨_, rfl, trc_flat te_sc (congrArg (flat te) hst)⟩, trivial⟩ ⟨tr_mun rfl (by rw [← hst]; simp), tr_sl, tr_v, tr_v, trivial⟩
            · skip
              refine v_nil ?_
              refine d_q rfl rfl rfl rfl rfl ?_
              refine v_assign rfl ?_
              refine v_nil ?_
              refine d_nil ?_
              refine q_n ?_
              refine w_f rfl ?_
              refine w_skip ?_
              refine q_bn ?_
              refine q_bn ?_
              refine q_n ?_
              refine w_reg rfl ?_
              refine v_add lay3 rfl rfl (i64r (by omega)) ?_
              refine v_move rfl ?_
              refine v_nil ?_
              refine q_n ?_
              have hst : fo xs ys i = fo xs ys (i + 1) := by
                obtain ⟨hq, hf⟩ := fo_hit hq4 (fo_srt _ i h1 h2) h5
                rw [hf, best_l (cmp_le h8), List.set_getElem_self]
              refine ⟨_, _, _, ?_, ⟨i + 1, rfl, by omega, rfl, rfl⟩, by omega⟩
              exact turn [some 0] rfl rfl rfl ⟨⟨_, rfl, trc_flat te_sc (congrArg (flat te) hst)⟩, trivial⟩ ⟨tr_mun rfl (by rw [← hst]), tr_sl, tr_v, tr_v, trivial⟩
          · refine v_call (c82f _ _ (fo_le _ _ i hx hy) (fo_srt _ i h1 h2) h5) rfl rfl rfl (.cons (vw_mu2 te_sc te_len rfl (rfl)) (.cons vw_v .nil)) ?_
            refine v_move_t rfl ?_
            refine v_extract_c rfl rfl ?_
            refine v_extract_c rfl rfl ?_
            refine v_assign rfl ?_
            refine v_assign rfl ?_
            refine v_nil ?_
            refine q_n ?_
            refine w_block ?_
            refine w_seq ?_
            refine w_reg rfl ?_
            refine v_move rfl ?_
            refine v_not true rfl rfl ?_
            refine v_assign rfl ?_
            refine v_nil ?_
            refine q_n ?_
            refine w_t rfl ?_
            refine w_reg rfl ?_
            refine v_move rfl ?_
            refine v_move rfl ?_
            refine v_load_pt (.agg [_, _, _]) lay27 rfl rfl rfl rfl ?_
            refine v_lit (flat te [ys[i]]) (H' := [_, _, _]) lay40 lay27 rfl rfl ⟨by decide, by decide⟩ rfl rfl ?_
            refine v_ins (id := 0) (idv := 2) (i := lowb (fo xs ys i) ys[i].1) (ys := fo xs ys i) (t := ys[i]) (H' := [_, _, _, _]) (by decide) rfl rfl rfl (lowb_le _ _) (by have hl1 := fo_len xs ys i; have hl2 := h1.1; have hl3 := h2.1; omega) rfl rfl rfl rfl ?_
            refine v_assign rfl ?_
            refine v_nil ?_
            refine q_bn ?_
            refine q_bn ?_
            refine q_n ?_
            refine w_reg rfl ?_
            refine v_add lay3 rfl rfl (i64r (by omega)) ?_
            refine v_move rfl ?_
            refine v_nil ?_
            refine q_n ?_
            have hst : (fo xs ys i).take (lowb (fo xs ys i) ys[i].1) ++ ys[i] :: (fo xs ys i).drop (lowb (fo xs ys i) ys[i].1) = fo xs ys (i + 1) := by rw [fo_step hq4, jn_ins (fun h => h5 (fnd_ge.2 h))]
            refine ⟨_, _, _, ?_, ⟨i + 1, rfl, by omega, rfl, rfl⟩, by omega⟩
            exact turn [some 3] rfl rfl rfl ⟨⟨_, rfl, trc_flat te_sc (congrArg (flat te) hst)⟩, trivial⟩ ⟨tr_mun rfl (by rw [← hst]; have hlb := lowb_le (fo xs ys i) ys[i].1; simp; omega), tr_sl, tr_v, tr_v, trivial⟩
        · skip
          refine v_nil ?_
          refine q_n ?_
          refine w_seq ?_
          refine w_f rfl ?_
          refine w_exit ?_
          refine q_e ?_
          refine q_e ?_
          refine q_hit ?_
          refine q_n ?_
          refine w_seq ?_
          refine w_seq ?_
          refine w_reg rfl ?_
          refine v_move rfl ?_
          refine v_len_mu lay40 rfl ?_
          refine v_gtr lay3 rfl rfl (fun h10 => ?_) (fun h10 => ?_)
          · skip
            refine v_nil ?_
            refine q_n ?_
            refine w_t rfl ?_
            refine w_seq ?_
            refine w_reg rfl ?_
            refine v_assign rfl ?_
            refine v_assign (c := .v (.int .i64 3)) rfl ?_
            refine v_nil ?_
            refine q_n ?_
            refine w_ret (q_r ?_)
            refine r_r rfl ?_
            obtain rfl : i = ys.length := by omega
            have hfo := fo_all h1 h2
            rw [hfo] at h10
            rw [jnR_3 h1 h2 (by omega)]
            exact l_ans [none] rfl rfl ⟨rfl, trivial⟩ (a_tup (.cons (tr_nil rfl) (.cons tr_v .nil)))
          · skip
            refine v_nil ?_
            refine q_n ?_
            refine w_f rfl ?_
            refine w_skip ?_
            refine q_n ?_
            refine w_seq ?_
            refine w_reg rfl ?_
            refine v_move rfl ?_
            refine v_live1 (N := 1) (H' := [_, _]) (c88n _ (fo xs ys i) rfl (by have hfl := fo_le xs ys i hx hy; omega)) (sc_flat te_sc _) rfl rfl rfl rfl rfl rfl (.cons (vw_mu2 te_sc te_len rfl (rfl)) .nil) ?_
            refine v_assign rfl ?_
            refine v_assign (c := .v (.int .i64 0)) rfl ?_
            refine v_nil ?_
            refine q_n ?_
            refine w_ret ?_
            refine r_r rfl ?_
            obtain rfl : i = ys.length := by omega
            have hfo := fo_all h1 h2
            rw [hfo] at h10
            rw [jnR_0 h1 h2 (by omega), ← hfo]
            exact l_ans [some 1] rfl rfl ⟨⟨_, rfl, trc_flat te_sc rfl⟩, trivial⟩ (a_tup (.cons (tr_mun rfl rfl) (.cons tr_v .nil)))
    · skip
      refine v_guard_on rfl rfl ?_
      refine v_not true rfl rfl ?_
      refine v_pick_f rfl rfl ?_
      refine v_nil ?_
      refine q_n ?_
      refine w_t rfl ?_
      refine w_seq ?_
      refine w_reg rfl ?_
      refine v_assign rfl ?_
      refine v_assign (c := .v (.int .i64 1)) rfl ?_
      refine v_nil ?_
      refine q_n ?_
      refine w_ret (q_r ?_)
      refine r_r rfl ?_
      rw [jnR_1 fun h => h2 h.2]
      exact l_ans [none] rfl rfl ⟨rfl, trivial⟩ (a_tup (.cons (tr_nil rfl) (.cons tr_v .nil)))
  · skip
    refine v_not true rfl rfl ?_
    refine v_move rfl ?_
    refine v_guard_off rfl rfl rfl ?_
    refine v_guard_off rfl rfl rfl ?_
    refine v_guard_off rfl rfl rfl ?_
    refine v_pick_t (v := .v (.bool true)) rfl rfl ?_
    refine v_nil ?_
    refine q_n ?_
    refine w_t rfl ?_
    refine w_seq ?_
    refine w_reg rfl ?_
    refine v_assign rfl ?_
    refine v_assign (c := .v (.int .i64 1)) rfl ?_
    refine v_nil ?_
    refine q_n ?_
    refine w_ret (q_r ?_)
    refine r_r rfl ?_
    rw [jnR_1 fun h => h1 h.1]
    exact l_ans [none] rfl rfl ⟨rfl, trivial⟩ (a_tup (.cons (tr_nil rfl) (.cons tr_v .nil)))

theorem c45 (xs ys : List Tal) (hx : xs.length ≤ 2 ^ 30) (hy : ys.length ≤ 2 ^ 30) (hb : T16 xs) (hb2 : T16 ys) : PureC X 45 [.c (tals false xs), .c (tals false ys)] (.tup [.c (tals true (jnR xs ys).1), cI (jnR xs ys).2]) :=
  (c45l xs ys hx hy hb hb2).pure (a_tup (.cons (a_flat te_sc te_len rfl rfl) (.cons tr_v .nil)))

theorem c26w (xs : List Tal) (a : Int) (hx : xs.length ≤ 2 ^ 40) (ha : 0 ≤ a ∧ a ≤ 2 ^ 40) : MarkC X 26 xs.length 3 27 (flat te xs) (.int .i64 a) (.int .i64 (a + 3 * xs.length)) (flat te ((List.range xs.length).map (tmark a))) := by
  refine MarkC.of_body (drawD_ok X) (fun _ _ => Go.Proofs.Try.call26 _ _) Go.Proofs.Try.func26 rfl (sc_flat te_sc _) (q := 36) rfl ?_
  refine w_seq ?_
  refine w_reg rfl ?_
  refine v_assign (c := .v (.int .i64 0)) rfl ?_
  refine v_nil ?_
  refine q_n ?_
  refine w_seq ?_
  refine w_seq ?_
  refine w_reg rfl ?_
  refine v_assign (c := .v (.int .i64 0)) rfl ?_
  refine v_nil ?_
  refine q_n ?_
  refine w_block ?_
  refine w_loop (fun k sl H => ∃ i : Nat, k = xs.length - i ∧ i ≤ xs.length ∧ sl = sls [(0, .c (.mu 0 0 xs.length 3)), (1, cI (a + 3 * i)), (5, cI i)] ∧ H = [⟨flat te (marks (tmark a) i xs), 27, true⟩]) ?_ ?_
  · refine ⟨_, _, _, ?_, 0, rfl, Nat.zero_le _, rfl, rfl⟩
    exact turn [some 0] rfl rfl rfl ⟨⟨_, rfl, trc_flat te_sc rfl⟩, trivial⟩ ⟨tr_mu rfl, tr_i (by simp), tr_v, trivial⟩
  · rintro k sl H ⟨i, rfl, hi, rfl, rfl⟩
    refine w_seq ?_
    refine w_seq ?_
    refine w_reg rfl ?_
    refine v_move rfl ?_
    refine v_move rfl ?_
    refine v_len_mu lay40 rfl ?_
    refine v_lss lay3 rfl rfl (fun h1 => ?_) (fun h1 => ?_)
    · skip
      refine v_nil ?_
      refine q_n ?_
      refine w_t rfl ?_
      refine w_skip ?_
      refine q_n ?_
      refine w_seq ?_
      refine w_block ?_
      refine w_seq ?_
      refine w_reg rfl ?_
      refine v_move rfl ?_
      refine v_move rfl ?_
      refine v_move rfl ?_
      refine v_idx_mu (k := 3) (off := 0) lay40 lay27 rfl rfl rfl (by omega) (fun q2 hq2 e2 => ?_)
      obtain rfl : i = q2 := by omega
      refine v_fa_pt (off' := _) lay27 rfl rfl rfl ?_
      refine v_store_flat (H' := [_]) i 0 (set1 _ _) te_len lay2 rfl rfl rfl (by omega) (by simp only [List.length_set, marks_len hi]; omega) rfl rfl (te1 _ _) rfl ?_
      refine v_nil ?_
      refine q_n ?_
      refine w_seq ?_
      refine w_reg rfl ?_
      refine v_move rfl ?_
      refine v_add lay3 rfl rfl (i64r (by omega)) ?_
      refine v_assign rfl ?_
      refine v_nil ?_
      refine q_n ?_
      refine w_seq ?_
      refine w_reg rfl ?_
      refine v_move rfl ?_
      refine v_move rfl ?_
      refine v_move rfl ?_
      refine v_conv_iw lay3 lay23 rfl ?_
      refine v_idx_mu (k := 3) (off := 0) lay40 lay27 rfl rfl rfl (by omega) (fun q3 hq3 e3 => ?_)
      obtain rfl : i = q3 := by omega
      refine v_fa_pt (off' := _) lay27 rfl rfl rfl ?_
      refine v_store_flat (H' := [_]) i 1 (set2 _ _) te_len lay23 rfl rfl rfl (by omega) (by simp only [List.length_set, marks_len hi]; omega) rfl rfl (te2 _ _) rfl ?_
      refine v_nil ?_
      refine q_n ?_
      refine w_seq ?_
      refine w_reg rfl ?_
      refine v_move rfl ?_
      refine v_add lay3 rfl rfl (i64r (by omega)) ?_
      refine v_assign rfl ?_
      refine v_nil ?_
      refine q_n ?_
      refine w_seq ?_
      refine w_reg rfl ?_
      refine v_move rfl ?_
      refine v_move rfl ?_
      refine v_move rfl ?_
      refine v_conv_iw lay3 lay23 rfl ?_
      refine v_idx_mu (k := 3) (off := 0) lay40 lay27 rfl rfl rfl (by omega) (fun q4 hq4 e4 => ?_)
      obtain rfl : i = q4 := by omega
      refine v_fa_pt (off' := _) lay27 rfl rfl rfl ?_
      refine v_store_flat (H' := [_]) i 2 (set3 _ _) te_len lay23 rfl rfl rfl (by omega) (by simp only [List.length_set, marks_len hi]; omega) rfl rfl (te3 _ _) rfl ?_
      refine v_nil ?_
      refine q_n ?_
      refine w_reg rfl ?_
      refine v_move rfl ?_
      refine v_add lay3 rfl rfl (i64r (by omega)) ?_
      refine v_assign rfl ?_
      refine v_nil ?_
      refine q_bn ?_
      refine q_n ?_
      refine w_reg rfl ?_
      refine v_move rfl ?_
      refine v_add lay3 rfl rfl (i64r (by omega)) ?_
      refine v_assign rfl ?_
      refine v_nil ?_
      refine q_n ?_
      refine ⟨_, _, _, ?_, ⟨i + 1, rfl, by omega, rfl, rfl⟩, by omega⟩
      exact turn [some 0] rfl rfl rfl ⟨⟨_, rfl, trc_flat te_sc (congrArg (flat te) (tmark_step (by omega) (by simp only [List.getElem_set_self]; rfl)))⟩, trivial⟩ ⟨tr_mu rfl, tr_i (by push_cast; omega), tr_v, trivial⟩
    · skip
      refine v_nil ?_
      refine q_n ?_
      refine w_f rfl ?_
      refine w_exit ?_
      refine q_e ?_
      refine q_e ?_
      refine q_hit ?_
      refine q_n ?_
      refine w_seq ?_
      refine w_reg rfl ?_
      refine v_move rfl ?_
      refine v_assign rfl ?_
      refine v_nil ?_
      refine q_n ?_
      refine w_ret ?_
      refine r_r rfl ?_
      obtain rfl : i = xs.length := by omega
      exact ⟨rfl, [], by rw [← marks_all]⟩

theorem c10 (xs ys : List Tal) (hx : xs.length ≤ maxLen) (hy : ys.length ≤ maxLen) (hb : T16 xs) (hb2 : T16 ys) : PureC X 10 [.c (tals false xs), .c (tals false ys)] (cB true) := by
  refine PureC.of_body (drawD_ok X) (fun _ _ => Go.Proofs.Try.call10 _ _) Go.Proofs.Try.func10 rfl (n := 119) rfl ?_
  refine w_seq ?_
  refine w_reg rfl ?_
  refine v_assign (c := .v (.bool false)) rfl ?_
  refine v_nil ?_
  refine q_n ?_
  refine w_seq ?_
  refine w_reg rfl ?_
  refine v_assign (c := .v (.int .i64 1048576)) rfl ?_
  refine v_nil ?_
  refine q_n ?_
  refine w_seq ?_
  refine w_reg rfl ?_
  refine v_move rfl ?_
  refine v_move rfl ?_
  refine v_call (c20 _ _ (by omega) (by assumption)) rfl rfl rfl (.cons vw_sl (.cons vw_v .nil)) ?_
  refine v_assign rfl ?_
  refine v_nil ?_
  refine q_n ?_
  refine w_seq ?_
  refine w_seq ?_
  refine w_reg rfl ?_
  refine v_move rfl ?_
  refine v_lss lay3 rfl rfl (fun h1 => ?_) (fun h1 => ?_)
  · skip
    refine v_nil ?_
    refine q_n ?_
    refine w_t rfl ?_
    refine w_seq ?_
    refine w_reg rfl ?_
    refine v_assign (c := .v (.bool true)) rfl ?_
    refine v_nil ?_
    refine q_n ?_
    refine w_ret (q_r ?_)
    refine r_r rfl ?_
    exact tr_v
  · skip
    have hs1 := szr_in h1
    refine v_nil ?_
    refine q_n ?_
    refine w_f rfl ?_
    refine w_skip ?_
    refine q_n ?_
    refine w_seq ?_
    refine w_reg rfl ?_
    refine v_move rfl ?_
    refine v_move rfl ?_
    refine v_call (c20 _ _ (by omega) (by assumption)) rfl rfl rfl (.cons vw_sl (.cons vw_v .nil)) ?_
    refine v_assign rfl ?_
    refine v_nil ?_
    refine q_n ?_
    refine w_seq ?_
    refine w_seq ?_
    refine w_reg rfl ?_
    refine v_move rfl ?_
    refine v_lss lay3 rfl rfl (fun h2 => ?_) (fun h2 => ?_)
    · skip
      refine v_nil ?_
      refine q_n ?_
      refine w_t rfl ?_
      refine w_seq ?_
      refine w_reg rfl ?_
      refine v_assign (c := .v (.bool true)) rfl ?_
      refine v_nil ?_
      refine q_n ?_
      refine w_ret (q_r ?_)
      refine r_r rfl ?_
      exact tr_v
    · skip
      have hs2 := szr_in h2
      have hln := jn_len2 xs ys
      refine v_nil ?_
      refine q_n ?_
      refine w_f rfl ?_
      refine w_skip ?_
      refine q_n ?_
      refine w_seq ?_
      refine w_reg rfl ?_
      refine v_move rfl ?_
      refine v_call (c22 _ (by omega)) rfl rfl rfl (.cons vw_sl .nil) ?_
      refine v_move rfl ?_
      refine v_call (c22 _ (by omega)) rfl rfl rfl (.cons vw_sl .nil) ?_
      refine v_call (c44 _ _ (by omega) (by omega)) rfl rfl rfl (.cons vw_sl (.cons vw_sl .nil)) ?_
      refine v_move_t rfl ?_
      refine v_extract_c rfl rfl ?_
      refine v_extract_c rfl rfl ?_
      refine v_assign rfl ?_
      refine v_assign rfl ?_
      refine v_nil ?_
      refine q_n ?_
      refine w_seq ?_
      refine w_reg rfl ?_
      refine v_move rfl ?_
      refine v_live1 (N := 0) (H' := [_]) (c22l _ (by omega)) (sc_flat te_sc _) rfl rfl rfl rfl rfl rfl (.cons vw_sl .nil) ?_
      refine v_assign rfl ?_
      refine v_nil ?_
      refine q_n ?_
      refine w_seq ?_
      refine w_reg rfl ?_
      refine v_move rfl ?_
      refine v_live1 (N := 1) (H' := [_, _]) (c22l _ (by omega)) (sc_flat te_sc _) rfl rfl rfl rfl rfl rfl (.cons vw_sl .nil) ?_
      refine v_assign rfl ?_
      refine v_nil ?_
      refine q_n ?_
      refine w_seq ?_
      refine w_reg rfl ?_
      refine v_move rfl ?_
      refine v_move rfl ?_
      refine v_live1 (N := 2) (H' := [_, _, _]) (c45l _ _ (by omega) (by omega) (by assumption) (by assumption)) (sc_flat te_sc _) rfl rfl rfl rfl rfl rfl (.cons (vw_mu2 te_sc te_len rfl (by first | (simp; done) | (simp; omega))) (.cons (vw_mu2 te_sc te_len rfl (by first | (simp; done) | (simp; omega))) .nil)) ?_
      refine v_move_t rfl ?_
      refine v_extract_c rfl rfl ?_
      refine v_extract_c rfl rfl ?_
      refine v_assign rfl ?_
      refine v_assign rfl ?_
      refine v_nil ?_
      refine q_n ?_
      refine w_seq ?_
      refine w_seq ?_
      refine w_reg rfl ?_
      refine v_move rfl ?_
      refine v_move rfl ?_
      refine v_callb (c25 _ _ (by omega)) rfl rfl (.cons (vw_mu2 te_sc te_len rfl (by first | (simp; done) | (simp; omega))) (.cons vw_sl .nil)) (fun h3 => ?_) (fun h3 => ?_)
      · skip
        refine v_not false rfl rfl ?_
        refine v_move rfl ?_
        refine v_guard_on rfl rfl ?_
        refine v_move rfl ?_
        refine v_guard_on rfl rfl ?_
        refine v_move rfl ?_
        refine v_guard_on rfl rfl ?_
        refine v_neq lay2 rfl rfl (fun h4 => ?_) (fun h4 => ?_)
        · skip
          exact absurd rfl h4
        · skip
          refine v_pick_f rfl rfl ?_
          refine v_nil ?_
          refine q_n ?_
          refine w_f rfl ?_
          refine w_skip ?_
          refine q_n ?_
          refine w_seq ?_
          refine w_seq ?_
          refine w_reg rfl ?_
          refine v_move rfl ?_
          refine v_move rfl ?_
          refine v_call (c22 _ (by omega)) rfl rfl rfl (.cons vw_sl .nil) ?_
          refine v_callb (c25 _ _ (by omega)) rfl rfl (.cons (vw_mu2 te_sc te_len rfl (by first | (simp; done) | (simp; omega))) (.cons vw_sl .nil)) (fun h5 => ?_) (fun h5 => ?_)
          · skip
            refine v_not false rfl rfl ?_
            refine v_nil ?_
            refine q_n ?_
            refine w_f rfl ?_
            refine w_skip ?_
            refine q_n ?_
            refine w_seq ?_
            refine w_seq ?_
            refine w_reg rfl ?_
            refine v_move rfl ?_
            refine v_move rfl ?_
            refine v_call (c22 _ (by omega)) rfl rfl rfl (.cons vw_sl .nil) ?_
            refine v_callb (c25 _ _ (by omega)) rfl rfl (.cons (vw_mu2 te_sc te_len rfl (by first | (simp; done) | (simp; omega))) (.cons vw_sl .nil)) (fun h6 => ?_) (fun h6 => ?_)
            · skip
              refine v_not false rfl rfl ?_
              refine v_nil ?_
              refine q_n ?_
              refine w_f rfl ?_
              refine w_skip ?_
              refine q_n ?_
              refine w_seq ?_
              refine w_reg rfl ?_
              refine v_assign (c := .v (.int .i64 1)) rfl ?_
              refine v_nil ?_
              refine q_n ?_
              refine w_seq ?_
              refine w_reg rfl ?_
              refine v_move rfl ?_
              refine v_move rfl ?_
              refine v_mark (H' := [_, _, _]) (c26w _ _ (by omega) (by omega)) rfl (sc_flat te_sc _) (sc_flat te_sc _) rfl rfl rfl rfl ?_
              refine v_assign rfl ?_
              refine v_nil ?_
              refine q_n ?_
              refine w_seq ?_
              refine w_reg rfl ?_
              refine v_move rfl ?_
              refine v_move rfl ?_
              refine v_mark (H' := [_, _, _]) (c26w _ _ (by omega) (by omega)) rfl (sc_flat te_sc _) (sc_flat te_sc _) rfl rfl rfl rfl ?_
              refine v_assign rfl ?_
              refine v_nil ?_
              refine q_n ?_
              refine w_seq ?_
              refine w_seq ?_
              refine w_reg rfl ?_
              refine v_move rfl ?_
              refine v_lss lay3 rfl rfl (fun h7 => ?_) (fun h7 => ?_)
              · skip
                exact absurd h7 (by omega)
              · skip
                refine v_move rfl ?_
                refine v_guard_on rfl rfl ?_
                refine v_move rfl ?_
                refine v_guard_on rfl rfl ?_
                refine v_move rfl ?_
                refine v_guard_on rfl rfl ?_
                refine v_callb (c25 _ _ (by omega)) rfl rfl (.cons (vw_mu2 te_sc te_len rfl (by first | (simp; done) | (simp; omega))) (.cons vw_sl .nil)) (fun h8 => ?_) (fun h8 => ?_)
                · skip
                  refine v_guard_on rfl rfl ?_
                  refine v_not false rfl rfl ?_
                  refine v_pick_f rfl rfl ?_
                  refine v_move rfl ?_
                  refine v_guard_on rfl rfl ?_
                  refine v_move rfl ?_
                  refine v_guard_on rfl rfl ?_
                  refine v_move rfl ?_
                  refine v_guard_on rfl rfl ?_
                  refine v_neq lay2 rfl rfl (fun h9 => ?_) (fun h9 => ?_)
                  · skip
                    exact absurd rfl h9
                  · skip
                    refine v_pick_f rfl rfl ?_
                    refine v_nil ?_
                    refine q_n ?_
                    refine w_f rfl ?_
                    refine w_skip ?_
                    refine q_n ?_
                    refine w_seq ?_
                    refine w_reg rfl ?_
                    refine v_assign (c := .v (.int .i64 1)) rfl ?_
                    refine v_nil ?_
                    refine q_n ?_
                    refine w_seq ?_
                    refine w_reg rfl ?_
                    refine v_move rfl ?_
                    refine v_move rfl ?_
                    refine v_mark (H' := [_, _, _]) (c26 _ _ (by omega) (by omega)) rfl (sc_flat te_sc _) (sc_flat te_sc _) rfl rfl rfl rfl ?_
                    refine v_assign rfl ?_
                    refine v_nil ?_
                    refine q_n ?_
                    refine w_seq ?_
                    refine w_reg rfl ?_
                    refine v_assign (c := .v (.int .i64 1)) rfl ?_
                    refine v_nil ?_
                    refine q_n ?_
                    refine w_seq ?_
                    refine w_reg rfl ?_
                    refine v_move rfl ?_
                    refine v_move rfl ?_
                    refine v_call (c38 _ _ (by omega) (by omega)) rfl rfl rfl (.cons (vw_mu2 te_sc te_len rfl (by first | (simp; done) | (simp; omega))) (.cons vw_v .nil)) ?_
                    refine v_assign rfl ?_
                    refine v_nil ?_
                    refine q_n ?_
                    refine w_seq ?_
                    refine w_seq ?_
                    refine w_reg rfl ?_
                    refine v_move rfl ?_
                    refine v_lss lay3 rfl rfl (fun h10 => ?_) (fun h10 => ?_)
                    · skip
                      exact absurd h10 (by omega)
                    · skip
                      refine v_nil ?_
                      refine q_n ?_
                      refine w_f rfl ?_
                      refine w_skip ?_
                      refine q_n ?_
                      refine w_seq ?_
                      refine w_seq ?_
                      refine w_reg rfl ?_
                      refine v_move rfl ?_
                      refine v_move rfl ?_
                      refine v_neq lay3 rfl rfl (fun h11 => ?_) (fun h11 => ?_)
                      · skip
                        exact absurd rfl h11
                      · skip
                        refine v_nil ?_
                        refine q_n ?_
                        refine w_f rfl ?_
                        refine w_skip ?_
                        refine q_n ?_
                        refine w_seq ?_
                        refine w_reg rfl ?_
                        refine v_move rfl ?_
                        refine v_call (c22 _ (by omega)) rfl rfl rfl (.cons vw_sl .nil) ?_
                        refine v_move rfl ?_
                        refine v_call (c22 _ (by omega)) rfl rfl rfl (.cons vw_sl .nil) ?_
                        refine v_call (c45 _ _ (by omega) (by omega) (by assumption) (by assumption)) rfl rfl rfl (.cons vw_sl (.cons vw_sl .nil)) ?_
                        refine v_move_t rfl ?_
                        refine v_extract_c rfl rfl ?_
                        refine v_extract_c rfl rfl ?_
                        refine v_assign rfl ?_
                        refine v_assign rfl ?_
                        refine v_nil ?_
                        refine q_n ?_
                        refine w_seq ?_
                        refine w_seq ?_
                        refine w_reg rfl ?_
                        refine v_move rfl ?_
                        refine v_move rfl ?_
                        refine v_callb (c25 _ _ (by omega)) rfl rfl (.cons vw_sl (.cons vw_sl .nil)) (fun h12 => ?_) (fun h12 => ?_)
                        · skip
                          refine v_not false rfl rfl ?_
                          refine v_move rfl ?_
                          refine v_guard_on rfl rfl ?_
                          refine v_move rfl ?_
                          refine v_guard_on rfl rfl ?_
                          refine v_move rfl ?_
                          refine v_guard_on rfl rfl ?_
                          refine v_neq lay2 rfl rfl (fun h13 => ?_) (fun h13 => ?_)
                          · skip
                            exact absurd rfl h13
                          · skip
                            refine v_pick_f rfl rfl ?_
                            refine v_nil ?_
                            refine q_n ?_
                            refine w_f rfl ?_
                            refine w_skip ?_
                            refine q_n ?_
                            refine w_seq ?_
                            refine w_reg rfl ?_
                            refine v_assign (c := .v (.int .i64 1)) rfl ?_
                            refine v_nil ?_
                            refine q_n ?_
                            refine w_seq ?_
                            refine w_reg rfl ?_
                            refine v_move rfl ?_
                            refine v_move rfl ?_
                            refine v_call (c38 _ _ (by omega) (by omega)) rfl rfl rfl (.cons (vw_mu2 te_sc te_len rfl (by first | (simp; done) | (simp; omega))) (.cons vw_v .nil)) ?_
                            refine v_assign rfl ?_
                            refine v_nil ?_
                            refine q_n ?_
                            refine w_seq ?_
                            refine w_seq ?_
                            refine w_reg rfl ?_
                            refine v_move rfl ?_
                            refine v_lss lay3 rfl rfl (fun h14 => ?_) (fun h14 => ?_)
                            · skip
                              exact absurd h14 (by omega)
                            · skip
                              refine v_nil ?_
                              refine q_n ?_
                              refine w_f rfl ?_
                              refine w_skip ?_
                              refine q_n ?_
                              refine w_seq ?_
                              refine w_seq ?_
                              refine w_reg rfl ?_
                              refine v_move rfl ?_
                              refine v_move rfl ?_
                              refine v_neq lay3 rfl rfl (fun h15 => ?_) (fun h15 => ?_)
                              · skip
                                exact absurd rfl h15
                              · skip
                                refine v_nil ?_
                                refine q_n ?_
                                refine w_f rfl ?_
                                refine w_skip ?_
                                refine q_n ?_
                                refine w_seq ?_
                                refine w_reg rfl ?_
                                refine v_assign (c := .v (.bool true)) rfl ?_
                                refine v_nil ?_
                                refine q_n ?_
                                refine w_ret ?_
                                refine r_r rfl ?_
                                exact tr_v
                        · skip
                          exact absurd rfl h12
                · skip
                  exact absurd rfl h8
            · skip
              exact absurd rfl h6
          · skip
            exact absurd rfl h5
      · skip
        exact absurd rfl h3
end Go.VL
