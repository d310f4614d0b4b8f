/- Walks: torn packets. -/
import Derived.Test.YtenaamehifbfeaaC9
import Derived.Test.YtenaamehifbfeaaV33
namespace Go.VL
open Go.RowKit
set_option maxRecDepth 20000
set_option maxHeartbeats 4000000
/-- May one go on behind so many tallies? -/
def tnOk (ds : List Int) (N i : Nat) : Prop := i < N ∧ 3 + 7 * (i + 1) ≤ ds.length ∧ rgt ds i ∧ okL (tls ds (i + 1))
noncomputable instance (ds : List Int) (N i : Nat) : Decidable (tnOk ds N i) := Classical.propDecidable _
/-- How many tallies a torn packet has. -/
noncomputable def tn (ds : List Int) (N : Nat) : Nat → Nat → Nat
  | 0, i => i
  | f + 1, i => if tnOk ds N i then tn ds N f (i + 1) else i
theorem tn_go {ds : List Int} {N i : Nat} (h1 : i < N) (h2 : 3 + 7 * (i + 1) ≤ ds.length) (h3 : rgt ds i) (h4 : okL (tls ds (i + 1))) : tn ds N (N - i) i = tn ds N (N - (i + 1)) (i + 1) := by
  obtain ⟨f, hf⟩ : ∃ f, N - i = f + 1 := ⟨N - i - 1, by omega⟩
  rw [hf, show N - (i + 1) = f by omega]
  simp only [tn]
  rw [if_pos ⟨h1, h2, h3, h4⟩]
theorem tn_stop {ds : List Int} {N i t : Nat} (h : ¬ tnOk ds N i) (hp : tn ds N (N - i) i = t) : t = i := by
  rw [← hp]
  cases N - i with
  | zero => rfl
  | succ f => simp only [tn]; rw [if_neg h]
noncomputable def trR (ds : List Int) : List Tal × Int := if (hdR ds).2 = 0 then (tls ds (tn ds (hdR ds).1.toNat (hdR ds).1.toNat 0), 0) else ([], (hdR ds).2)
theorem tr_1 {ds : List Int} (h : ¬ (hdR ds).2 = 0) : trR ds = ([], (hdR ds).2) := by unfold trR; rw [if_neg h]
theorem tr_0 {ds : List Int} {N i : Nat} (h : (hdR ds).2 = 0) (hN : (hdR ds).1 = N) (ht : tn ds N N 0 = i) : trR ds = (tls ds i, 0) := by
  unfold trR
  rw [if_pos h, hN, Int.toNat_natCast, ht]
theorem tn_le (ds : List Int) (N : Nat) : ∀ f i, tn ds N f i ≤ i + f
  | 0, i => by simp [tn]
  | f + 1, i => by
    simp only [tn]
    split
    · have := tn_le ds N f (i + 1)
      omega
    · omega
theorem tr_len {ds : List Int} (hb : B8 ds) : (trR ds).1.length ≤ 96 := by
  unfold trR
  split
  · rename_i h
    obtain ⟨N, hN, h96, -⟩ := hd_ok hb h
    rw [hN, Int.toNat_natCast]
    have := tn_le ds N N 0
    simp [tls]
    omega
  · simp
theorem c88l (xs : List Tal) (hx : xs.length ≤ 2 ^ 40) : LiveC X 88 [.c (tals false xs)] (.c (.mu 0 0 xs.length 3)) [⟨flat te xs, 27, true⟩] := by
  refine LiveC.of_body (drawD_ok X) (fun _ _ => Go.Proofs.Try.call88 _ _) Go.Proofs.Try.func88 rfl (n := 8) rfl ?_
  refine w_seq ?_
  refine w_reg rfl ?_
  refine v_assign rfl ?_
  refine v_nil ?_
  refine q_n ?_
  refine w_seq ?_
  refine w_seq ?_
  refine w_reg rfl ?_
  refine v_move rfl ?_
  refine v_eqnil rfl lay40 rfl rfl (fun h1 => ?_) ?_
  · skip
    refine v_nil ?_
    refine q_n ?_
    refine w_t rfl ?_
    refine w_seq ?_
    refine w_reg rfl ?_
    refine v_assign rfl ?_
    refine v_nil ?_
    refine q_n ?_
    refine w_ret (q_r ?_)
    refine r_r rfl ?_
    have hxs : xs = [] := List.eq_nil_of_length_eq_zero h1.1
    subst hxs
    exact l_ans [none] rfl rfl ⟨rfl, trivial⟩ (tr_nil rfl)
  · skip
    refine v_nil ?_
    refine q_n ?_
    refine w_f rfl ?_
    refine w_skip ?_
    refine q_n ?_
    refine w_seq ?_
    refine w_reg rfl ?_
    refine v_lit (flat te []) (H' := [_]) lay40 lay27 rfl rfl ⟨by decide, by decide⟩ rfl rfl ?_
    refine v_move rfl ?_
    refine v_app_flat_sl (H' := [_, _]) te_sc te_len lay40 lay27 rfl rfl (by simp) rfl rfl rfl (by unfold maxLen; simp only []; omega) rfl rfl ?_
    refine v_assign rfl ?_
    refine v_nil ?_
    refine q_n ?_
    refine w_ret ?_
    refine r_r rfl ?_
    exact l_ans [some 1] rfl rfl ⟨⟨_, rfl, trc_flat te_sc (by simp)⟩, trivial⟩ (tr_mun rfl (by simp))

theorem c86t (ds : List Int) (i : Nat) (hl : 3 + 7 * i + 7 ≤ ds.length) (hx : ds.length ≤ 2 ^ 40) (hb : B8 ds) (h : rgt ds i) : PureC X 86 [.c (bys false ds), cI i] (.tup [.agg (te (tl6 (six ds i))), cB true]) := by
  have h1 := c86 ds i hl hx hb
  rw [show decide (rgt ds i) = true by simp [h]] at h1
  exact h1
theorem c86f (ds : List Int) (i : Nat) (hl : 3 + 7 * i + 7 ≤ ds.length) (hx : ds.length ≤ 2 ^ 40) (hb : B8 ds) (h : ¬ rgt ds i) : PureC X 86 [.c (bys false ds), cI i] (.tup [.agg (te (tl6 (six ds i))), cB false]) := by
  have h1 := c86 ds i hl hx hb
  rw [show decide (rgt ds i) = false by simp [h]] at h1
  exact h1

theorem c39 (ds : List Int) (hx : ds.length ≤ 2 ^ 40) (hb : B8 ds) : PureC X 39 [.c (bys false ds)] (.tup [.c (tals true (trR ds).1), cI (trR ds).2]) := by
  refine PureC.of_body (drawD_ok X) (fun _ _ => Go.Proofs.Try.call39 _ _) Go.Proofs.Try.func39 rfl (n := 56) rfl ?_
  refine w_seq ?_
  refine w_reg rfl ?_
  refine v_assign rfl ?_
  refine v_assign (c := .v (.int .i64 0)) rfl ?_
  refine v_nil ?_
  refine q_n ?_
  refine w_seq ?_
  refine w_reg rfl ?_
  refine v_move rfl ?_
  refine v_call (c85 _ (by omega) (by assumption)) rfl rfl rfl (.cons vw_sl .nil) ?_
  refine v_move_t rfl ?_
  refine v_extract_c rfl rfl ?_
  refine v_extract_c rfl rfl ?_
  refine v_assign rfl ?_
  refine v_assign rfl ?_
  refine v_nil ?_
  refine q_n ?_
  refine w_seq ?_
  refine w_seq ?_
  refine w_reg rfl ?_
  refine v_move rfl ?_
  refine v_neq lay2 rfl rfl (fun h1 => ?_) (fun h1 => ?_)
  · skip
    refine v_nil ?_
    refine q_n ?_
    refine w_t rfl ?_
    refine w_seq ?_
    refine w_reg rfl ?_
    refine v_lit (flat te []) (H' := [_]) lay40 lay27 rfl rfl ⟨by decide, by decide⟩ rfl rfl ?_
    refine v_move rfl ?_
    refine v_assign rfl ?_
    refine v_assign rfl ?_
    refine v_nil ?_
    refine q_n ?_
    refine w_ret (q_r ?_)
    refine r_r rfl ?_
    rw [tr_1 h1]
    exact a_tup (.cons (a_flat2 te_sc te_len rfl rfl rfl rfl) (.cons tr_v .nil))
  · skip
    obtain ⟨N, hN, hN96, hl3, hl676, hN2⟩ := hd_ok hb h1
    refine v_nil ?_
    refine q_n ?_
    refine w_f rfl ?_
    refine w_skip ?_
    refine q_n ?_
    refine w_seq ?_
    refine w_reg rfl ?_
    refine v_lit (flat te []) (H' := [_]) lay40 lay27 rfl rfl ⟨by decide, by decide⟩ rfl rfl ?_
    refine v_assign rfl ?_
    refine v_nil ?_
    refine q_n ?_
    refine w_seq ?_
    refine w_seq ?_
    refine w_reg rfl ?_
    refine v_assign (c := .v (.int .i64 0)) rfl ?_
    refine v_nil ?_
    refine q_n ?_
    refine w_block ?_
    refine w_loop (fun k sl H => ∃ i : Nat, k = N - i ∧ i ≤ N ∧ tn ds N (N - i) i = tn ds N N 0 ∧ sl = sls [(0, .c (bys false ds)), (4, cI (hdR ds).1), (6, .c (.mu 0 0 i 3)), (7, cI i)] ∧ H = [⟨flat te (tls ds i), 27, true⟩]) ?_ ?_
    · refine ⟨_, _, _, ?_, 0, rfl, Nat.zero_le _, rfl, rfl, rfl⟩
      exact turn [some 0] rfl rfl rfl ⟨⟨_, rfl, trc_flat te_sc rfl⟩, trivial⟩ ⟨tr_sl, tr_v, tr_mun rfl rfl, tr_v, trivial⟩
    · rintro k sl H ⟨i, rfl, hi, hp, rfl, rfl⟩
      refine w_seq ?_
      refine w_seq ?_
      refine w_reg rfl ?_
      refine v_move rfl ?_
      refine v_move rfl ?_
      refine v_lss lay3 rfl rfl (fun h2 => ?_) (fun h2 => ?_)
      · skip
        refine v_move rfl ?_
        refine v_guard_on rfl rfl ?_
        refine v_move rfl ?_
        refine v_guard_on rfl rfl ?_
        refine v_add lay3 rfl rfl (i64r (by omega)) ?_
        refine v_guard_on rfl rfl ?_
        refine v_mul lay3 rfl rfl (i64r (by omega)) ?_
        refine v_guard_on rfl rfl ?_
        refine v_add lay3 rfl rfl (i64r (by omega)) ?_
        refine v_guard_on rfl rfl ?_
        refine v_move rfl ?_
        refine v_guard_on rfl rfl ?_
        refine v_len_sl lay47 rfl ?_
        refine v_guard_on rfl rfl ?_
        refine v_leq lay3 rfl rfl (fun h3 => ?_) (fun h3 => ?_)
        · skip
          refine v_pick_t rfl rfl ?_
          refine v_nil ?_
          refine q_n ?_
          refine w_t rfl ?_
          refine w_skip ?_
          refine q_n ?_
          refine w_seq ?_
          refine w_block ?_
          refine w_seq ?_
          refine w_reg rfl ?_
          refine v_move rfl ?_
          refine v_move rfl ?_
          refine dec_split (p := rgt ds i) (fun h4 => ?_) (fun h4 => ?_)
          · refine v_call (c86t ds i (by omega) hx hb h4) rfl rfl rfl (.cons vw_sl (.cons vw_v .nil)) ?_
            refine v_move_t rfl ?_
            refine v_extract_a rfl rfl ?_
            refine v_extract_c rfl rfl ?_
            refine v_alloc (m := 1) (H' := [_, ⟨[.v _, .v _, .v _], 27, true⟩]) lay27 rfl rfl ?_
            refine v_store (H' := [_, ⟨[_, _, _], 27, true⟩]) lay27 rfl rfl rfl rfl rfl rfl ?_
            refine v_assign rfl ?_
            refine v_nil ?_
            refine q_n ?_
            refine w_seq ?_
            refine w_draw [0, 0, 3, 0, 8, 31, 63] [⟨1, 0, []⟩, ⟨3, 0, []⟩, ⟨4, 2, []⟩, ⟨0, 1, [3]⟩, ⟨2, 1, [3]⟩, ⟨5, 1, []⟩, ⟨6, 0, []⟩] rfl rfl ?_
            refine d_q rfl rfl rfl rfl rfl ?_
            refine v_move rfl ?_
            refine v_nil ?_
            refine d_q rfl rfl rfl rfl rfl ?_
            refine v_load_pt (.agg [_, _, _]) lay27 rfl rfl rfl rfl ?_
            refine v_nil ?_
            refine d_z (.c (.sl true 1 3 (flat te [tl6 (six ds i)]))) rfl rfl rfl ?_
            refine d_e rfl rfl rfl ?_
            refine v_lit (flat te []) (H' := [_, _, _]) lay40 lay27 rfl rfl ⟨by decide, by decide⟩ rfl rfl ?_
            refine v_nil ⟨⟨rfl, trivial⟩, ?_⟩
            refine d_e rfl rfl rfl ?_
            refine v_app_flat (H' := [_, _, _, _]) te_sc te_len lay40 lay27 rfl rfl (by simp [tls]) rfl rfl (by simp [tls]) rfl rfl (by simp only [maxLen]; omega) rfl rfl ?_
            refine v_nil ⟨⟨rfl, trivial⟩, ?_⟩
            refine d_e rfl rfl rfl ?_
            refine v_app_flat_sl (H' := [_, _, _, _, _]) te_sc te_len lay40 lay27 rfl rfl (by simp [tls]) rfl rfl rfl (by simp only [maxLen]; omega) rfl rfl ?_
            refine v_nil ⟨again_nil, ?_⟩
            refine d_q rfl rfl rfl rfl rfl ?_
            refine v_assign rfl ?_
            refine v_nil ?_
            refine d_nil ?_
            refine q_n ?_
            refine w_seq ?_
            refine w_seq ?_
            refine w_reg rfl ?_
            refine v_move rfl ?_
            refine v_not false rfl rfl ?_
            refine v_move rfl ?_
            refine v_guard_on rfl rfl ?_
            refine v_move rfl ?_
            refine v_guard_on rfl rfl ?_
            refine v_callb (c70n (0 + i + 1) (([] ++ tls ds i) ++ [tl6 (six ds i)]) (by simp [tls]) (by omega)) rfl rfl (.cons (vw_mu2 te_sc te_len rfl (by simp [tls])) .nil) (fun h5 => ?_) (fun h5 => ?_)
            · skip
              refine v_guard_on rfl rfl ?_
              refine v_not false rfl rfl ?_
              refine v_pick_f rfl rfl ?_
              refine v_nil ?_
              refine q_n ?_
              refine w_f rfl ?_
              refine w_skip ?_
              refine q_n ?_
              refine w_reg rfl ?_
              refine v_move rfl ?_
              refine v_assign rfl ?_
              refine v_nil ?_
              refine q_bn ?_
              refine q_n ?_
              refine w_reg rfl ?_
              refine v_move rfl ?_
              refine v_add lay3 rfl rfl (i64r (by omega)) ?_
              refine v_assign rfl ?_
              refine v_nil ?_
              refine q_n ?_
              rw [List.nil_append, tls_step] at h5
              refine ⟨_, _, _, ?_, ⟨i + 1, rfl, by omega, (tn_go (by omega) (by omega) h4 h5).symm.trans hp, rfl, rfl⟩, by omega⟩
              exact turn [some 4] rfl rfl rfl ⟨⟨_, rfl, trc_flat te_sc (congrArg (flat te) (by rw [List.nil_append]; exact tls_step ds i))⟩, trivial⟩ ⟨tr_sl, tr_v, tr_mun rfl (by omega), tr_v, trivial⟩
            · skip
              refine v_guard_on rfl rfl ?_
              refine v_not true rfl rfl ?_
              refine v_pick_f rfl rfl ?_
              refine v_nil ?_
              refine q_n ?_
              refine w_t rfl ?_
              refine w_exit ?_
              refine q_e ?_
              refine q_miss rfl ?_
              refine q_e ?_
              refine q_e ?_
              refine q_hit ?_
              refine q_n ?_
              refine w_seq ?_
              refine w_reg rfl ?_
              refine v_move rfl ?_
              refine v_assign rfl ?_
              refine v_assign (c := .v (.int .i64 0)) rfl ?_
              refine v_nil ?_
              refine q_n ?_
              refine w_ret ?_
              refine r_r rfl ?_
              rw [tr_0 h1 hN (tn_stop (fun h => by have h4 := h.2.2.2; rw [← tls_step] at h4; exact h5 (by rw [List.nil_append]; exact h4)) hp)]
              exact a_tup (.cons (a_flat2 te_sc te_len rfl rfl (by simp [tls]) (by simp [tls])) (.cons tr_v .nil))
          · refine v_call (c86f ds i (by omega) hx hb h4) rfl rfl rfl (.cons vw_sl (.cons vw_v .nil)) ?_
            refine v_move_t rfl ?_
            refine v_extract_a rfl rfl ?_
            refine v_extract_c rfl rfl ?_
            refine v_alloc (m := 1) (H' := [_, ⟨[.v _, .v _, .v _], 27, true⟩]) lay27 rfl rfl ?_
            refine v_store (H' := [_, ⟨[_, _, _], 27, true⟩]) lay27 rfl rfl rfl rfl rfl rfl ?_
            refine v_assign rfl ?_
            refine v_nil ?_
            refine q_n ?_
            refine w_seq ?_
            refine w_draw [0, 0, 3, 0, 8, 31, 63] [⟨1, 0, []⟩, ⟨3, 0, []⟩, ⟨4, 2, []⟩, ⟨0, 1, [3]⟩, ⟨2, 1, [3]⟩, ⟨5, 1, []⟩, ⟨6, 0, []⟩] rfl rfl ?_
            refine d_q rfl rfl rfl rfl rfl ?_
            refine v_move rfl ?_
            refine v_nil ?_
            refine d_q rfl rfl rfl rfl rfl ?_
            refine v_load_pt (.agg [_, _, _]) lay27 rfl rfl rfl rfl ?_
            refine v_nil ?_
            refine d_z (.c (.sl true 1 3 (flat te [tl6 (six ds i)]))) rfl rfl rfl ?_
            refine d_e rfl rfl rfl ?_
            refine v_lit (flat te []) (H' := [_, _, _]) lay40 lay27 rfl rfl ⟨by decide, by decide⟩ rfl rfl ?_
            refine v_nil ⟨⟨rfl, trivial⟩, ?_⟩
            refine d_e rfl rfl rfl ?_
            refine v_app_flat (H' := [_, _, _, _]) te_sc te_len lay40 lay27 rfl rfl (by simp [tls]) rfl rfl (by simp [tls]) rfl rfl (by simp only [maxLen]; omega) rfl rfl ?_
            refine v_nil ⟨⟨rfl, trivial⟩, ?_⟩
            refine d_e rfl rfl rfl ?_
            refine v_app_flat_sl (H' := [_, _, _, _, _]) te_sc te_len lay40 lay27 rfl rfl (by simp [tls]) rfl rfl rfl (by simp only [maxLen]; omega) rfl rfl ?_
            refine v_nil ⟨again_nil, ?_⟩
            refine d_q rfl rfl rfl rfl rfl ?_
            refine v_assign rfl ?_
            refine v_nil ?_
            refine d_nil ?_
            refine q_n ?_
            refine w_seq ?_
            refine w_seq ?_
            refine w_reg rfl ?_
            refine v_move rfl ?_
            refine v_not true rfl rfl ?_
            refine v_move rfl ?_
            refine v_guard_off rfl rfl rfl ?_
            refine v_guard_off rfl rfl rfl ?_
            refine v_guard_off rfl rfl rfl ?_
            refine v_pick_t (v := .v (.bool true)) rfl rfl ?_
            refine v_nil ?_
            refine q_n ?_
            refine w_t rfl ?_
            refine w_exit ?_
            refine q_e ?_
            refine q_miss rfl ?_
            refine q_e ?_
            refine q_e ?_
            refine q_hit ?_
            refine q_n ?_
            refine w_seq ?_
            refine w_reg rfl ?_
            refine v_move rfl ?_
            refine v_assign rfl ?_
            refine v_assign (c := .v (.int .i64 0)) rfl ?_
            refine v_nil ?_
            refine q_n ?_
            refine w_ret ?_
            refine r_r rfl ?_
            rw [tr_0 h1 hN (tn_stop (fun h => absurd h.2.2.1 h4) hp)]
            exact a_tup (.cons (a_flat2 te_sc te_len rfl rfl (by simp [tls]) (by simp [tls])) (.cons tr_v .nil))
        · skip
          refine v_pick_t rfl rfl ?_
          refine v_nil ?_
          refine q_n ?_
          refine w_f rfl ?_
          refine w_exit ?_
          refine q_e ?_
          refine q_e ?_
          refine q_hit ?_
          refine q_n ?_
          refine w_seq ?_
          refine w_reg rfl ?_
          refine v_move rfl ?_
          refine v_assign rfl ?_
          refine v_assign (c := .v (.int .i64 0)) rfl ?_
          refine v_nil ?_
          refine q_n ?_
          refine w_ret ?_
          refine r_r rfl ?_
          rw [tr_0 h1 hN (tn_stop (fun h => by have := h.2.1; omega) hp)]
          exact a_tup (.cons (a_flat2 te_sc te_len rfl rfl (by simp [tls]) (by simp [tls])) (.cons tr_v .nil))
      · skip
        refine v_move rfl ?_
        refine v_guard_off rfl rfl rfl ?_
        refine v_guard_off rfl rfl rfl ?_
        refine v_guard_off rfl rfl rfl ?_
        refine v_guard_off rfl rfl rfl ?_
        refine v_guard_off rfl rfl rfl ?_
        refine v_guard_off rfl rfl rfl ?_
        refine v_guard_off rfl rfl rfl ?_
        refine v_pick_f (v := .v (.bool false)) rfl rfl ?_
        refine v_nil ?_
        refine q_n ?_
        refine w_f rfl ?_
        refine w_exit ?_
        refine q_e ?_
        refine q_e ?_
        refine q_hit ?_
        refine q_n ?_
        refine w_seq ?_
        refine w_reg rfl ?_
        refine v_move rfl ?_
        refine v_assign rfl ?_
        refine v_assign (c := .v (.int .i64 0)) rfl ?_
        refine v_nil ?_
        refine q_n ?_
        refine w_ret ?_
        refine r_r rfl ?_
        rw [tr_0 h1 hN (tn_stop (fun h => by have := h.1; omega) hp)]
        exact a_tup (.cons (a_flat2 te_sc te_len rfl rfl (by simp [tls]) (by simp [tls])) (.cons tr_v .nil))

theorem c88n (n : Nat) (xs : List Tal) (hn : n = xs.length) (hx : n ≤ 2 ^ 40) : LiveC X 88 [.c (.sl false n 3 (flat te xs))] (.c (.mu 0 0 n 3)) [⟨flat te xs, 27, true⟩] := by rw [hn]; exact c88l xs (by omega)
theorem c90t (ds : List Int) (i : Nat) (hl : 3 + 7 * i + 7 ≤ ds.length) (hb : B8 ds) (h : rgt ds i) : PureC X 90 [.c (bys false (recT ds i)), .c (.sl false (7 * (i + 1) - 7 * i) 1 (flat be (recX ds i)))] (cB true) := by
  have h1 := c90r ds i hl hb
  rw [show decide (rgt ds i) = true by simp [h]] at h1
  exact h1
theorem c90f (ds : List Int) (i : Nat) (hl : 3 + 7 * i + 7 ≤ ds.length) (hb : B8 ds) (h : ¬ rgt ds i) : PureC X 90 [.c (bys false (recT ds i)), .c (.sl false (7 * (i + 1) - 7 * i) 1 (flat be (recX ds i)))] (cB false) := by
  have h1 := c90r ds i hl hb
  rw [show decide (rgt ds i) = false by simp [h]] at h1
  exact h1

theorem c41l (ds : List Int) (hx : ds.length ≤ 2 ^ 40) (hb : B8 ds) : LiveC X 41 [.c (bys false ds)] (.tup [.c (.mu 0 0 (trR ds).1.length 3), cI (trR ds).2]) [⟨flat te (trR ds).1, 27, true⟩] := by
  refine LiveC.of_body (drawD_ok X) (fun _ _ => Go.Proofs.Try.call41 _ _) Go.Proofs.Try.func41 rfl (n := 66) rfl ?_
  refine w_seq ?_
  refine w_reg rfl ?_
  refine v_assign rfl ?_
  refine v_assign (c := .v (.int .i64 0)) rfl ?_
  refine v_nil ?_
  refine q_n ?_
  refine w_seq ?_
  refine w_seq ?_
  refine w_reg rfl ?_
  refine v_move rfl ?_
  refine v_call (c87 _ (by omega) (by assumption)) rfl rfl rfl (.cons vw_sl .nil) ?_
  refine v_assign rfl ?_
  refine v_nil ?_
  refine q_n ?_
  refine w_seq ?_
  refine w_reg rfl ?_
  refine v_move rfl ?_
  refine v_neq lay2 rfl rfl (fun h1 => ?_) (fun h1 => ?_)
  · skip
    refine v_nil ?_
    refine q_n ?_
    refine w_t rfl ?_
    refine w_seq ?_
    refine w_reg rfl ?_
    refine v_move rfl ?_
    refine v_assign rfl ?_
    refine v_assign rfl ?_
    refine v_nil ?_
    refine q_n ?_
    refine w_ret (q_r ?_)
    refine r_r rfl ?_
    rw [tr_1 h1]
    exact l_ans [none] rfl rfl ⟨rfl, trivial⟩ (a_tup (.cons (tr_nil rfl) (.cons tr_v .nil)))
  · skip
    obtain ⟨N, hN, hN96, hl3, hl676, hN2⟩ := hd_ok hb h1
    refine v_nil ?_
    refine q_n ?_
    refine w_f rfl ?_
    refine w_skip ?_
    refine q_n ?_
    refine w_seq ?_
    refine w_draw [0, 1, 3, 7, 0, 16, 0, 15, 191, 511] [⟨0, 0, []⟩, ⟨1, 0, []⟩, ⟨2, 0, []⟩, ⟨3, 0, []⟩, ⟨4, 0, []⟩, ⟨5, 0, []⟩, ⟨7, 0, []⟩, ⟨8, 0, []⟩, ⟨6, 1, [2, 5]⟩, ⟨9, 0, []⟩] rfl rfl ?_
    refine d_q rfl rfl rfl rfl rfl ?_
    refine v_move rfl ?_
    refine v_nil ?_
    refine d_q rfl rfl rfl rfl rfl ?_
    refine v_idx (k := 1) be_len lay47 lay5 rfl rfl rfl (rfl) rfl (by omega) (fun q2 hq2 e2 => ?_)
    obtain rfl : q2 = 2 := by omega
    have hn2 := hN2 hq2
    refine v_nil ?_
    refine d_q rfl rfl rfl rfl rfl ?_
    refine v_load_vw (.c (.v _)) lay5 rfl rfl rfl ?_
    refine v_nil ?_
    refine d_q rfl rfl rfl rfl rfl ?_
    refine v_conv_ii lay5 lay3 rfl (i64r (by have hx1 := bytes_in hb hq2; omega)) ?_
    refine v_nil ?_
    refine d_q rfl rfl rfl rfl rfl ?_
    refine v_move rfl ?_
    refine v_nil ?_
    refine d_q rfl rfl rfl rfl rfl ?_
    refine v_slice_sl (3) (ds.length) be_len lay47 lay5 rfl rfl rfl rfl rfl (rfl) (rfl) (by omega) ?_
    refine v_nil ?_
    refine d_q rfl rfl rfl rfl rfl ?_
    refine v_assign rfl ?_
    refine v_nil ?_
    refine d_q rfl rfl rfl rfl rfl ?_
    refine v_assign rfl ?_
    refine v_nil ?_
    refine d_e rfl rfl rfl ?_
    refine v_lit (flat te []) (H' := [_]) lay40 lay27 rfl rfl ⟨by decide, by decide⟩ rfl rfl ?_
    refine v_nil ⟨⟨sl_again 3 ds.length be_len lay47 lay5 rfl rfl rfl rfl rfl rfl rfl (by omega), ⟨rfl, trivial⟩⟩, ?_⟩
    refine d_q rfl rfl rfl rfl rfl ?_
    refine v_assign rfl ?_
    refine v_nil ?_
    refine d_nil ?_
    refine q_n ?_
    refine w_seq ?_
    refine w_seq ?_
    refine w_reg rfl ?_
    refine v_assign (c := .v (.int .i64 0)) rfl ?_
    refine v_nil ?_
    refine q_n ?_
    refine w_block ?_
    refine w_loop (fun k sl H => ∃ i : Nat, k = N - i ∧ i ≤ N ∧ tn ds N (N - i) i = tn ds N N 0 ∧ sl = sls [(5, cI (ds[2]'hq2)), (6, .c (.sl false (ds.length - 3) 1 (flat be ((ds.drop 3).take (ds.length - 3))))), (7, .c (.mu 0 0 i 3)), (8, cI i)] ∧ H = [⟨flat te (tls ds i), 27, true⟩]) ?_ ?_
    · refine ⟨_, _, _, ?_, 0, rfl, Nat.zero_le _, rfl, rfl, rfl⟩
      exact turn [some 0] rfl rfl rfl ⟨⟨_, rfl, trc_flat te_sc rfl⟩, trivial⟩ ⟨tr_v, tr_sl, tr_mu rfl, tr_v, trivial⟩
    · rintro k sl H ⟨i, rfl, hi, hp, rfl, rfl⟩
      refine w_seq ?_
      refine w_seq ?_
      refine w_reg rfl ?_
      refine v_move rfl ?_
      refine v_move rfl ?_
      refine v_lss lay3 rfl rfl (fun h3 => ?_) (fun h3 => ?_)
      · skip
        refine v_move rfl ?_
        refine v_guard_on rfl rfl ?_
        refine v_move rfl ?_
        refine v_guard_on rfl rfl ?_
        refine v_add lay3 rfl rfl (i64r (by omega)) ?_
        refine v_guard_on rfl rfl ?_
        refine v_mul lay3 rfl rfl (i64r (by omega)) ?_
        refine v_guard_on rfl rfl ?_
        refine v_move rfl ?_
        refine v_guard_on rfl rfl ?_
        refine v_len_sl lay47 rfl ?_
        refine v_guard_on rfl rfl ?_
        refine v_leq lay3 rfl rfl (fun h4 => ?_) (fun h4 => ?_)
        · skip
          refine v_pick_t rfl rfl ?_
          refine v_nil ?_
          refine q_n ?_
          refine w_t rfl ?_
          refine w_skip ?_
          refine q_n ?_
          refine w_seq ?_
          refine w_block ?_
          refine w_seq ?_
          refine w_reg rfl ?_
          refine v_move rfl ?_
          refine v_move rfl ?_
          refine v_mul lay3 rfl rfl (i64r (by omega)) ?_
          refine v_move rfl ?_
          refine v_add lay3 rfl rfl (i64r (by omega)) ?_
          refine v_mul lay3 rfl rfl (i64r (by omega)) ?_
          refine v_slice_sl (7 * i) (7 * (i + 1)) be_len lay47 lay5 rfl rfl rfl rfl rfl (by omega) (by omega) (by omega) ?_
          refine v_assign rfl ?_
          refine v_nil ?_
          refine q_n ?_
          refine w_seq ?_
          refine w_reg rfl ?_
          refine v_move rfl ?_
          refine v_live1 (N := 1) (H' := [_, _]) (c88n i (tls ds i) (by simp [tls]) (by omega)) (sc_flat te_sc _) rfl rfl rfl rfl rfl rfl (.cons (vw_mu2 te_sc te_len rfl (by first | rfl | simp [tls])) .nil) ?_
          refine v_move rfl ?_
          refine v_call (c89r ds i (by omega) hx hb) rfl rfl rfl (.cons vw_sl .nil) ?_
          refine v_lit (flat te [tl6 (six ds i)]) (H' := [_, _, _]) lay40 lay27 rfl rfl ⟨by decide, by decide⟩ rfl rfl ?_
          refine v_app_flat (H' := [_, _, _, _]) te_sc te_len lay40 lay27 rfl rfl (by simp [tls]) rfl rfl (by simp) rfl rfl (by unfold maxLen; simp only []; omega) rfl rfl ?_
          refine v_assign rfl ?_
          refine v_nil ?_
          refine q_n ?_
          refine w_seq ?_
          refine w_seq ?_
          refine w_reg rfl ?_
          refine v_move rfl ?_
          refine v_move rfl ?_
          refine v_move rfl ?_
          refine v_idx_mu (k := 3) (off := 0) lay40 lay27 rfl rfl rfl (by omega) (fun q5 hq5 e5 => ?_)
          refine v_load_flat q5 0 (.agg [.v _, .v _, .v _]) te_len lay27 rfl rfl (by omega) (by simp [tls]; omega) rfl rfl ?_
          refine v_call (c75r ds i _ (by simp [tls]; omega) e5) rfl rfl rfl (.cons vw_v (.cons (vw_agg (.cons vw_v (.cons vw_v (.cons vw_v .nil)))) .nil)) ?_
          refine v_move rfl ?_
          refine dec_split (p := rgt ds i) (fun h6 => ?_) (fun h6 => ?_)
          · refine v_call (c90t ds i (by omega) hb h6) rfl rfl rfl (.cons vw_sl (.cons vw_sl .nil)) ?_
            refine v_not false rfl rfl ?_
            refine v_move rfl ?_
            refine v_guard_on rfl rfl ?_
            refine v_move rfl ?_
            refine v_guard_on rfl rfl ?_
            refine v_callb (c58n (i + 1) (tls ds i ++ [tl6 (six ds i)]) (by simp [tls]) (by omega) (by rw [tls_step]; exact t16_tls ds _)) rfl rfl (.cons (vw_mu2 te_sc te_len rfl (by first | rfl | simp [tls])) .nil) (fun h7 => ?_) (fun h7 => ?_)
            · skip
              refine v_guard_on rfl rfl ?_
              refine v_not false rfl rfl ?_
              refine v_pick_f rfl rfl ?_
              refine v_nil ?_
              refine q_n ?_
              refine w_f rfl ?_
              refine w_skip ?_
              refine q_n ?_
              refine w_reg rfl ?_
              refine v_move rfl ?_
              refine v_assign rfl ?_
              refine v_nil ?_
              refine q_bn ?_
              refine q_n ?_
              refine w_reg rfl ?_
              refine v_move rfl ?_
              refine v_add lay3 rfl rfl (i64r (by omega)) ?_
              refine v_assign rfl ?_
              refine v_nil ?_
              refine q_n ?_
              rw [tls_step] at h7
              refine ⟨_, _, _, ?_, ⟨i + 1, rfl, by omega, (tn_go (by omega) (by omega) h6 h7).symm.trans hp, rfl, rfl⟩, by omega⟩
              exact turn [some 3] rfl rfl rfl ⟨⟨_, rfl, trc_flat te_sc (congrArg (flat te) (tls_step ds i))⟩, trivial⟩ ⟨tr_v, tr_sl, tr_mu rfl, tr_v, trivial⟩
            · skip
              refine v_guard_on rfl rfl ?_
              refine v_not true rfl rfl ?_
              refine v_pick_f rfl rfl ?_
              refine v_nil ?_
              refine q_n ?_
              refine w_t rfl ?_
              refine w_exit ?_
              refine q_e ?_
              refine q_miss rfl ?_
              refine q_e ?_
              refine q_e ?_
              refine q_hit ?_
              refine q_n ?_
              refine w_seq ?_
              refine w_reg rfl ?_
              refine v_move rfl ?_
              refine v_live1 (N := 4) (H' := [_, _, _, _, _]) (c88n i (tls ds i) (by simp [tls]) (by omega)) (sc_flat te_sc _) rfl rfl rfl rfl rfl rfl (.cons (vw_mu2 te_sc te_len rfl (by first | rfl | simp [tls])) .nil) ?_
              refine v_assign rfl ?_
              refine v_assign (c := .v (.int .i64 0)) rfl ?_
              refine v_nil ?_
              refine q_n ?_
              refine w_ret ?_
              refine r_r rfl ?_
              rw [tr_0 h1 hN (tn_stop (fun h => by have h4 := h.2.2.2; rw [← tls_step] at h4; exact h7 h4) hp)]
              exact l_ans [some 4] rfl rfl ⟨⟨_, rfl, trc_flat te_sc rfl⟩, trivial⟩ (a_tup (.cons (tr_mun rfl (by simp [tls])) (.cons tr_v .nil)))
          · refine v_call (c90f ds i (by omega) hb h6) rfl rfl rfl (.cons vw_sl (.cons vw_sl .nil)) ?_
            refine v_not true rfl rfl ?_
            refine v_move rfl ?_
            refine v_guard_off rfl rfl rfl ?_
            refine v_guard_off rfl rfl rfl ?_
            refine v_guard_off rfl rfl rfl ?_
            refine v_pick_t (v := .v (.bool true)) rfl rfl ?_
            refine v_nil ?_
            refine q_n ?_
            refine w_t rfl ?_
            refine w_exit ?_
            refine q_e ?_
            refine q_miss rfl ?_
            refine q_e ?_
            refine q_e ?_
            refine q_hit ?_
            refine q_n ?_
            refine w_seq ?_
            refine w_reg rfl ?_
            refine v_move rfl ?_
            refine v_live1 (N := 4) (H' := [_, _, _, _, _]) (c88n i (tls ds i) (by simp [tls]) (by omega)) (sc_flat te_sc _) rfl rfl rfl rfl rfl rfl (.cons (vw_mu2 te_sc te_len rfl (by first | rfl | simp [tls])) .nil) ?_
            refine v_assign rfl ?_
            refine v_assign (c := .v (.int .i64 0)) rfl ?_
            refine v_nil ?_
            refine q_n ?_
            refine w_ret ?_
            refine r_r rfl ?_
            rw [tr_0 h1 hN (tn_stop (fun h => absurd h.2.2.1 h6) hp)]
            exact l_ans [some 4] rfl rfl ⟨⟨_, rfl, trc_flat te_sc rfl⟩, trivial⟩ (a_tup (.cons (tr_mun rfl (by simp [tls])) (.cons tr_v .nil)))
        · skip
          refine v_pick_t rfl rfl ?_
          refine v_nil ?_
          refine q_n ?_
          refine w_f rfl ?_
          refine w_exit ?_
          refine q_e ?_
          refine q_e ?_
          refine q_hit ?_
          refine q_n ?_
          refine w_seq ?_
          refine w_reg rfl ?_
          refine v_move rfl ?_
          refine v_live1 (N := 1) (H' := [_, _]) (c88n i (tls ds i) (by simp [tls]) (by omega)) (sc_flat te_sc _) rfl rfl rfl rfl rfl rfl (.cons (vw_mu2 te_sc te_len rfl (by first | rfl | simp [tls])) .nil) ?_
          refine v_assign rfl ?_
          refine v_assign (c := .v (.int .i64 0)) rfl ?_
          refine v_nil ?_
          refine q_n ?_
          refine w_ret ?_
          refine r_r rfl ?_
          rw [tr_0 h1 hN (tn_stop (fun h => by have := h.2.1; omega) hp)]
          exact l_ans [some 1] rfl rfl ⟨⟨_, rfl, trc_flat te_sc rfl⟩, trivial⟩ (a_tup (.cons (tr_mun rfl (by simp [tls])) (.cons tr_v .nil)))
      · skip
        refine v_move rfl ?_
        refine v_guard_off rfl rfl rfl ?_
        refine v_guard_off rfl rfl rfl ?_
        refine v_guard_off rfl rfl rfl ?_
        refine v_guard_off rfl rfl rfl ?_
        refine v_guard_off rfl rfl rfl ?_
        refine v_guard_off rfl rfl rfl ?_
        refine v_pick_f (v := .v (.bool false)) rfl rfl ?_
        refine v_nil ?_
        refine q_n ?_
        refine w_f rfl ?_
        refine w_exit ?_
        refine q_e ?_
        refine q_e ?_
        refine q_hit ?_
        refine q_n ?_
        refine w_seq ?_
        refine w_reg rfl ?_
        refine v_move rfl ?_
        refine v_live1 (N := 1) (H' := [_, _]) (c88n i (tls ds i) (by simp [tls]) (by omega)) (sc_flat te_sc _) rfl rfl rfl rfl rfl rfl (.cons (vw_mu2 te_sc te_len rfl (by first | rfl | simp [tls])) .nil) ?_
        refine v_assign rfl ?_
        refine v_assign (c := .v (.int .i64 0)) rfl ?_
        refine v_nil ?_
        refine q_n ?_
        refine w_ret ?_
        refine r_r rfl ?_
        rw [tr_0 h1 hN (tn_stop (fun h => by have := h.1; omega) hp)]
        exact l_ans [some 1] rfl rfl ⟨⟨_, rfl, trc_flat te_sc rfl⟩, trivial⟩ (a_tup (.cons (tr_mun rfl (by simp [tls])) (.cons tr_v .nil)))

theorem c41 (ds : List Int) (hx : ds.length ≤ 2 ^ 40) (hb : B8 ds) : PureC X 41 [.c (bys false ds)] (.tup [.c (tals true (trR ds).1), cI (trR ds).2]) :=
  (c41l ds hx hb).pure (a_tup (.cons (a_flat te_sc te_len rfl rfl) (.cons tr_v .nil)))

theorem c8 (ds : List Int) (hx : ds.length ≤ maxLen) (hb : B8 ds) : PureC X 8 [.c (bys false ds)] (cB true) := by
  refine PureC.of_body (drawD_ok X) (fun _ _ => Go.Proofs.Try.call8 _ _) Go.Proofs.Try.func8 rfl (n := 93) rfl ?_
  refine w_seq ?_
  refine w_reg rfl ?_
  refine v_assign (c := .v (.bool false)) rfl ?_
  refine v_nil ?_
  refine q_n ?_
  refine w_seq ?_
  refine w_seq ?_
  refine w_reg rfl ?_
  refine v_move rfl ?_
  refine v_len_sl lay47 rfl ?_
  refine v_gtr lay3 rfl rfl (fun h1 => ?_) (fun h1 => ?_)
  · skip
    refine v_nil ?_
    refine q_n ?_
    refine w_t rfl ?_
    refine w_seq ?_
    refine w_reg rfl ?_
    refine v_assign (c := .v (.bool true)) rfl ?_
    refine v_nil ?_
    refine q_n ?_
    refine w_ret (q_r ?_)
    refine r_r rfl ?_
    exact tr_v
  · skip
    have hln := tr_len hb
    refine v_nil ?_
    refine q_n ?_
    refine w_f rfl ?_
    refine w_skip ?_
    refine q_n ?_
    refine w_seq ?_
    refine w_reg rfl ?_
    refine v_move rfl ?_
    refine v_call (c40 _ (by omega)) rfl rfl rfl (.cons vw_sl .nil) ?_
    refine v_call (c39 _ (by omega) hb) rfl rfl rfl (.cons vw_sl .nil) ?_
    refine v_move_t rfl ?_
    refine v_extract_c rfl rfl ?_
    refine v_extract_c rfl rfl ?_
    refine v_assign rfl ?_
    refine v_assign rfl ?_
    refine v_nil ?_
    refine q_n ?_
    refine w_seq ?_
    refine w_reg rfl ?_
    refine v_move rfl ?_
    refine v_live1 (N := 0) (H' := [_]) (c40l _ (by omega)) (sc_flat be_sc _) rfl rfl rfl rfl rfl rfl (.cons vw_sl .nil) ?_
    refine v_assign rfl ?_
    refine v_nil ?_
    refine q_n ?_
    refine w_seq ?_
    refine w_reg rfl ?_
    refine v_move rfl ?_
    refine v_live1 (N := 1) (H' := [_, _]) (c41l _ (by omega) hb) (sc_flat te_sc _) rfl rfl rfl rfl rfl rfl (.cons (vw_mu2 be_sc be_len rfl (by first | (simp; done) | (simp; omega))) .nil) ?_
    refine v_move_t rfl ?_
    refine v_extract_c rfl rfl ?_
    refine v_extract_c rfl rfl ?_
    refine v_assign rfl ?_
    refine v_assign rfl ?_
    refine v_nil ?_
    refine q_n ?_
    refine w_seq ?_
    refine w_seq ?_
    refine w_reg rfl ?_
    refine v_move rfl ?_
    refine v_move rfl ?_
    refine v_callb (c25 _ _ (by omega)) rfl rfl (.cons (vw_mu2 te_sc te_len rfl (by first | (simp; done) | (simp; omega))) (.cons vw_sl .nil)) (fun h2 => ?_) (fun h2 => ?_)
    · skip
      refine v_not false rfl rfl ?_
      refine v_move rfl ?_
      refine v_guard_on rfl rfl ?_
      refine v_move rfl ?_
      refine v_guard_on rfl rfl ?_
      refine v_move rfl ?_
      refine v_guard_on rfl rfl ?_
      refine v_neq lay2 rfl rfl (fun h3 => ?_) (fun h3 => ?_)
      · skip
        exact absurd rfl h3
      · skip
        refine v_pick_f rfl rfl ?_
        refine v_nil ?_
        refine q_n ?_
        refine w_f rfl ?_
        refine w_skip ?_
        refine q_n ?_
        refine w_seq ?_
        refine w_seq ?_
        refine w_reg rfl ?_
        refine v_move rfl ?_
        refine v_move rfl ?_
        refine v_call (c40 _ (by omega)) rfl rfl rfl (.cons vw_sl .nil) ?_
        refine v_callb (c31 _ _ (by omega)) rfl rfl (.cons (vw_mu2 be_sc be_len rfl (by first | (simp; done) | (simp; omega))) (.cons vw_sl .nil)) (fun h4 => ?_) (fun h4 => ?_)
        · skip
          refine v_not false rfl rfl ?_
          refine v_nil ?_
          refine q_n ?_
          refine w_f rfl ?_
          refine w_skip ?_
          refine q_n ?_
          refine w_seq ?_
          refine w_reg rfl ?_
          refine v_assign (c := .v (.int .i64 1)) rfl ?_
          refine v_nil ?_
          refine q_n ?_
          refine w_seq ?_
          refine w_reg rfl ?_
          refine v_move rfl ?_
          refine v_move rfl ?_
          refine v_mark (H' := [_, _]) (c32 _ _ (by omega) (by omega)) rfl (sc_flat be_sc _) (sc_flat be_sc _) rfl rfl rfl rfl ?_
          refine v_assign rfl ?_
          refine v_nil ?_
          refine q_n ?_
          refine w_seq ?_
          refine w_seq ?_
          refine w_reg rfl ?_
          refine v_move rfl ?_
          refine v_lss lay3 rfl rfl (fun h5 => ?_) (fun h5 => ?_)
          · skip
            exact absurd h5 (by omega)
          · skip
            refine v_move rfl ?_
            refine v_guard_on rfl rfl ?_
            refine v_move rfl ?_
            refine v_guard_on rfl rfl ?_
            refine v_move rfl ?_
            refine v_guard_on rfl rfl ?_
            refine v_callb (c25 _ _ (by omega)) rfl rfl (.cons (vw_mu2 te_sc te_len rfl (by first | (simp; done) | (simp; omega))) (.cons vw_sl .nil)) (fun h6 => ?_) (fun h6 => ?_)
            · skip
              refine v_guard_on rfl rfl ?_
              refine v_not false rfl rfl ?_
              refine v_pick_f rfl rfl ?_
              refine v_move rfl ?_
              refine v_guard_on rfl rfl ?_
              refine v_move rfl ?_
              refine v_guard_on rfl rfl ?_
              refine v_move rfl ?_
              refine v_guard_on rfl rfl ?_
              refine v_neq lay2 rfl rfl (fun h7 => ?_) (fun h7 => ?_)
              · skip
                exact absurd rfl h7
              · skip
                refine v_pick_f rfl rfl ?_
                refine v_nil ?_
                refine q_n ?_
                refine w_f rfl ?_
                refine w_skip ?_
                refine q_n ?_
                refine w_seq ?_
                refine w_reg rfl ?_
                refine v_assign (c := .v (.int .i64 1)) rfl ?_
                refine v_nil ?_
                refine q_n ?_
                refine w_seq ?_
                refine w_reg rfl ?_
                refine v_move rfl ?_
                refine v_move rfl ?_
                refine v_mark (H' := [_, _]) (c26 _ _ (by omega) (by omega)) rfl (sc_flat te_sc _) (sc_flat te_sc _) rfl rfl rfl rfl ?_
                refine v_assign rfl ?_
                refine v_nil ?_
                refine q_n ?_
                refine w_seq ?_
                refine w_reg rfl ?_
                refine v_assign (c := .v (.int .i64 1)) rfl ?_
                refine v_nil ?_
                refine q_n ?_
                refine w_seq ?_
                refine w_reg rfl ?_
                refine v_move rfl ?_
                refine v_move rfl ?_
                refine v_call (c38 _ _ (by omega) (by omega)) rfl rfl rfl (.cons (vw_mu2 te_sc te_len rfl (by first | (simp; done) | (simp; omega))) (.cons vw_v .nil)) ?_
                refine v_assign rfl ?_
                refine v_nil ?_
                refine q_n ?_
                refine w_seq ?_
                refine w_seq ?_
                refine w_reg rfl ?_
                refine v_move rfl ?_
                refine v_lss lay3 rfl rfl (fun h8 => ?_) (fun h8 => ?_)
                · skip
                  exact absurd h8 (by omega)
                · skip
                  refine v_nil ?_
                  refine q_n ?_
                  refine w_f rfl ?_
                  refine w_skip ?_
                  refine q_n ?_
                  refine w_seq ?_
                  refine w_seq ?_
                  refine w_reg rfl ?_
                  refine v_move rfl ?_
                  refine v_move rfl ?_
                  refine v_neq lay3 rfl rfl (fun h9 => ?_) (fun h9 => ?_)
                  · skip
                    exact absurd rfl h9
                  · skip
                    refine v_nil ?_
                    refine q_n ?_
                    refine w_f rfl ?_
                    refine w_skip ?_
                    refine q_n ?_
                    refine w_seq ?_
                    refine w_reg rfl ?_
                    refine v_move rfl ?_
                    refine v_call (c40 _ (by omega)) rfl rfl rfl (.cons vw_sl .nil) ?_
                    refine v_call (c41 _ (by omega) hb) rfl rfl rfl (.cons vw_sl .nil) ?_
                    refine v_move_t rfl ?_
                    refine v_extract_c rfl rfl ?_
                    refine v_extract_c rfl rfl ?_
                    refine v_assign rfl ?_
                    refine v_assign rfl ?_
                    refine v_nil ?_
                    refine q_n ?_
                    refine w_seq ?_
                    refine w_seq ?_
                    refine w_reg rfl ?_
                    refine v_move rfl ?_
                    refine v_move rfl ?_
                    refine v_callb (c25 _ _ (by omega)) rfl rfl (.cons vw_sl (.cons vw_sl .nil)) (fun h10 => ?_) (fun h10 => ?_)
                    · skip
                      refine v_not false rfl rfl ?_
                      refine v_move rfl ?_
                      refine v_guard_on rfl rfl ?_
                      refine v_move rfl ?_
                      refine v_guard_on rfl rfl ?_
                      refine v_move rfl ?_
                      refine v_guard_on rfl rfl ?_
                      refine v_neq lay2 rfl rfl (fun h11 => ?_) (fun h11 => ?_)
                      · skip
                        exact absurd rfl h11
                      · skip
                        refine v_pick_f rfl rfl ?_
                        refine v_nil ?_
                        refine q_n ?_
                        refine w_f rfl ?_
                        refine w_skip ?_
                        refine q_n ?_
                        refine w_seq ?_
                        refine w_reg rfl ?_
                        refine v_assign (c := .v (.int .i64 1)) rfl ?_
                        refine v_nil ?_
                        refine q_n ?_
                        refine w_seq ?_
                        refine w_reg rfl ?_
                        refine v_move rfl ?_
                        refine v_move rfl ?_
                        refine v_call (c38 _ _ (by omega) (by omega)) rfl rfl rfl (.cons (vw_mu2 te_sc te_len rfl (by first | (simp; done) | (simp; omega))) (.cons vw_v .nil)) ?_
                        refine v_assign rfl ?_
                        refine v_nil ?_
                        refine q_n ?_
                        refine w_seq ?_
                        refine w_seq ?_
                        refine w_reg rfl ?_
                        refine v_move rfl ?_
                        refine v_lss lay3 rfl rfl (fun h12 => ?_) (fun h12 => ?_)
                        · skip
                          exact absurd h12 (by omega)
                        · skip
                          refine v_nil ?_
                          refine q_n ?_
                          refine w_f rfl ?_
                          refine w_skip ?_
                          refine q_n ?_
                          refine w_seq ?_
                          refine w_seq ?_
                          refine w_reg rfl ?_
                          refine v_move rfl ?_
                          refine v_move rfl ?_
                          refine v_neq lay3 rfl rfl (fun h13 => ?_) (fun h13 => ?_)
                          · skip
                            exact absurd rfl h13
                          · skip
                            refine v_nil ?_
                            refine q_n ?_
                            refine w_f rfl ?_
                            refine w_skip ?_
                            refine q_n ?_
                            refine w_seq ?_
                            refine w_reg rfl ?_
                            refine v_assign (c := .v (.bool true)) rfl ?_
                            refine v_nil ?_
                            refine q_n ?_
                            refine w_ret ?_
                            refine r_r rfl ?_
                            exact tr_v
                    · skip
                      exact absurd rfl h10
            · skip
              exact absurd rfl h6
        · skip
          exact absurd rfl h4
    · skip
      exact absurd rfl h2
end Go.VL
