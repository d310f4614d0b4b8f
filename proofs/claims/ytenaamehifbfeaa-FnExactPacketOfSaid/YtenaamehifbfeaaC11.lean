/- Walks: packets written. -/
import Derived.Test.YtenaamehifbfeaaC10
import Derived.Test.YtenaamehifbfeaaV34
namespace Go.VL
open Go.RowKit
set_option maxRecDepth 20000
set_option maxHeartbeats 4000000
/-- A packet's bytes behind so many tallies. -/
def pk (xs : List Tal) : Nat → List Int
  | 0 => [68, 84] ++ [IntKind.u8.wrap xs.length]
  | i + 1 => pk xs i ++ recB i (xs.getD i (0, 0, 0)).1 (xs.getD i (0, 0, 0)).2.1 (xs.getD i (0, 0, 0)).2.2
theorem pk_step {xs : List Tal} {i : Nat} (hi : i < xs.length) : pk xs (i + 1) = pk xs i ++ recB i xs[i].1 xs[i].2.1 xs[i].2.2 := by simp only [pk, getD_at hi]
theorem pk_len (xs : List Tal) : ∀ i, (pk xs i).length = 3 + 7 * i
  | 0 => rfl
  | i + 1 => by rw [pk, List.length_append, pk_len xs i]; simp [recB, sx]; omega
noncomputable def pkR (xs : List Tal) : List Int × Int := if okL xs then (pk xs xs.length ++ [(ck (pk xs xs.length)).2], 0) else ([], 1)
theorem pkR_0 {xs : List Tal} (h : okL xs) : pkR xs = (pk xs xs.length ++ [(ck (pk xs xs.length)).2], 0) := by unfold pkR; rw [if_pos h]
theorem pkR_1 {xs : List Tal} (h : ¬ okL xs) : pkR xs = ([], 1) := by unfold pkR; rw [if_neg h]
theorem pkR_len (xs : List Tal) : (pkR xs).1.length ≤ 4 + 7 * xs.length := by
  unfold pkR
  split
  · have := pk_len xs xs.length
    simp; omega
  · simp
theorem b8_recB (i t c f : Int) : B8 (recB i t c f) := fun x hx => by
  have hk := (ck_in (b8_rec i t c f)).2
  unfold recB at hx
  rcases List.mem_append.1 hx with h | h
  · exact b8_rec i t c f x (List.mem_append_right _ h)
  · simp only [List.mem_singleton] at h
    subst h
    omega
theorem pk_b8 (xs : List Tal) : ∀ i, B8 (pk xs i)
  | 0 => fun x hx => by
    simp only [pk, List.mem_append, List.mem_cons, List.not_mem_nil, or_false] at hx
    rcases hx with (rfl | rfl) | rfl
    · omega
    · omega
    · exact w8_in _
  | i + 1 => fun x hx => by
    rcases List.mem_append.1 (by simpa only [pk] using hx) with h | h
    · exact pk_b8 xs i x h
    · exact b8_recB _ _ _ _ x h
theorem c75t (xs : List Tal) (i : Nat) (hi : i < xs.length) (hb : T16 xs) : PureC X 75 [cI i, .agg (te xs[i])] (.c (bys true (recB i xs[i].1 xs[i].2.1 xs[i].2.2))) :=
  c75 i _ _ _ (hb _ (List.getElem_mem hi)).1 (hb _ (List.getElem_mem hi)).2
theorem c30l (xs : List Tal) (hx : xs.length ≤ 2 ^ 30) (hb : T16 xs) : LiveC X 30 [.c (tals false xs)] (.tup [.c (.mu 0 0 (pkR xs).1.length 1), cI (pkR xs).2]) [⟨flat be (pkR xs).1, 5, true⟩] := by
  refine LiveC.of_body (drawD_ok X) (fun _ _ => Go.Proofs.Try.call30 _ _) Go.Proofs.Try.func30 rfl (n := 35) rfl ?_
  refine w_seq ?_
  refine w_reg rfl ?_
  refine v_assign rfl ?_
  refine v_assign (c := .v (.int .i64 0)) rfl ?_
  refine v_nil ?_
  refine q_n ?_
  refine w_seq ?_
  refine w_seq ?_
  refine w_reg rfl ?_
  refine v_move rfl ?_
  refine v_callb (c58 _ (by omega) (by assumption)) rfl rfl (.cons vw_sl .nil) (fun h1 => ?_) (fun h1 => ?_)
  · skip
    refine v_not false rfl rfl ?_
    refine v_nil ?_
    refine q_n ?_
    refine w_f rfl ?_
    refine w_skip ?_
    refine q_n ?_
    refine w_seq ?_
    refine w_reg rfl ?_
    refine v_lit (flat be [_, _]) (H' := [_]) lay47 lay5 rfl rfl ⟨by decide, by decide⟩ rfl rfl ?_
    refine v_conv_same rfl lay47 lay5 rfl rfl (by decide) ?_
    refine v_move rfl ?_
    refine v_len_sl lay40 rfl ?_
    refine v_conv_iw lay3 lay5 rfl ?_
    refine v_lit (flat be [_]) (H' := [_, _]) lay47 lay5 rfl rfl ⟨by decide, by decide⟩ rfl rfl ?_
    refine v_app_flat (H' := [_, _, _]) be_sc be_len lay47 lay5 rfl rfl (by simp) rfl rfl (by simp) rfl rfl (by first | (simp [maxLen]; done) | (have hpl := pk_len xs i; simp [maxLen, recB, sx]; omega)) rfl rfl ?_
    refine v_assign rfl ?_
    refine v_nil ?_
    refine q_n ?_
    refine w_seq ?_
    refine w_seq ?_
    refine w_reg rfl ?_
    refine v_move rfl ?_
    refine v_len_sl lay40 rfl ?_
    refine v_move (c := .v (.int .i64 0)) rfl ?_
    refine v_nil ?_
    refine q_n ?_
    refine w_block ?_
    refine w_loop (fun k sl H => ∃ i : Nat, k = xs.length - i ∧ i ≤ xs.length ∧ sl = sls [(0, .c (tals false xs)), (4, .c (.mu 0 0 (pk xs i).length 1)), (17, .c (tals false xs)), (18, cI xs.length), (19, cI i)] ∧ H = [⟨flat be (pk xs i), 5, true⟩]) ?_ ?_
    · refine ⟨_, _, _, ?_, 0, rfl, Nat.zero_le _, rfl, rfl⟩
      exact turn [some 2] rfl rfl rfl ⟨⟨_, rfl, trc_flat be_sc rfl⟩, trivial⟩ ⟨tr_sl, tr_mun rfl rfl, tr_sl, tr_v, tr_v, trivial⟩
    · rintro k sl H ⟨i, rfl, hi, rfl, rfl⟩
      refine w_seq ?_
      refine w_reg rfl ?_
      refine v_lss lay3 rfl rfl (fun h2 => ?_) (fun h2 => ?_)
      · skip
        refine v_nil ?_
        refine q_n ?_
        refine w_seq ?_
        refine w_t rfl ?_
        refine w_skip ?_
        refine q_n ?_
        refine w_seq ?_
        refine w_block ?_
        refine w_seq ?_
        refine w_reg rfl ?_
        refine v_move rfl ?_
        refine v_idx (k := 3) te_len lay40 lay27 rfl rfl rfl (rfl) rfl (by omega) (fun q3 hq3 e3 => ?_)
        obtain rfl : i = q3 := by omega
        refine v_load_vw (.agg [.v _, .v _, .v _]) lay27 rfl rfl rfl ?_
        refine v_alloc (m := 1) (H' := [_, ⟨[.v _, .v _, .v _], 27, true⟩]) lay27 rfl rfl ?_
        refine v_assign rfl ?_
        refine v_store (H' := [_, ⟨[_, _, _], 27, true⟩]) lay27 rfl rfl rfl rfl rfl rfl ?_
        refine v_nil ?_
        refine q_n ?_
        refine w_reg rfl ?_
        refine v_move rfl ?_
        refine v_move rfl ?_
        refine v_load_pt (.agg [_, _, _]) lay27 rfl rfl rfl rfl ?_
        refine v_call (c75t xs i hq3 hb) rfl rfl rfl (.cons vw_v (.cons (vw_agg (.cons vw_v (.cons vw_v (.cons vw_v .nil)))) .nil)) ?_
        refine v_app_flat_sl (H' := [_, _, _]) be_sc be_len lay47 lay5 rfl rfl (by simp) rfl rfl rfl (by first | (simp [maxLen]; done) | (have hpl := pk_len xs i; simp [maxLen, recB, sx]; omega)) rfl rfl ?_
        refine v_assign rfl ?_
        refine v_nil ?_
        refine q_bn ?_
        refine q_n ?_
        refine w_reg rfl ?_
        refine v_add lay3 rfl rfl (i64r (by omega)) ?_
        refine v_move rfl ?_
        refine v_nil ?_
        refine q_n ?_
        refine ⟨_, _, _, ?_, ⟨i + 1, rfl, by omega, rfl, rfl⟩, by omega⟩
        exact turn [some 2] rfl rfl rfl ⟨⟨_, rfl, trc_flat be_sc (congrArg (flat be) (pk_step hq3).symm)⟩, trivial⟩ ⟨tr_sl, tr_mun rfl (by rw [pk_step hq3]; simp), tr_sl, tr_v, tr_v, trivial⟩
      · skip
        refine v_nil ?_
        refine q_n ?_
        refine w_seq ?_
        refine w_f rfl ?_
        refine w_exit ?_
        refine q_e ?_
        refine q_e ?_
        refine q_hit ?_
        refine q_n ?_
        refine w_seq ?_
        refine w_reg rfl ?_
        refine v_move rfl ?_
        refine v_move rfl ?_
        refine v_call (c76n _ (pk xs i) (by simp) (by have := pk_len xs i; omega) (pk_b8 xs i)) rfl rfl rfl (.cons (vw_mu2 be_sc be_len rfl (by first | (simp; done) | (simp; omega))) .nil) ?_
        refine v_lit (flat be [_]) (H' := [_, _]) lay47 lay5 rfl rfl ⟨by decide, by decide⟩ rfl rfl ?_
        refine v_app_flat (H' := [_, _, _]) be_sc be_len lay47 lay5 rfl rfl (by simp) rfl rfl (by simp) rfl rfl (by first | (simp [maxLen]; done) | (have hpl := pk_len xs i; simp [maxLen, recB, sx]; omega)) rfl rfl ?_
        refine v_assign rfl ?_
        refine v_assign (c := .v (.int .i64 0)) rfl ?_
        refine v_nil ?_
        refine q_n ?_
        refine w_ret ?_
        refine r_r rfl ?_
        obtain rfl : i = xs.length := by omega
        rw [pkR_0 h1]
        exact l_ans [some 2] rfl rfl ⟨⟨_, rfl, trc_flat be_sc rfl⟩, trivial⟩ (a_tup (.cons (tr_mun rfl (by simp)) (.cons tr_v .nil)))
  · skip
    refine v_not true rfl rfl ?_
    refine v_nil ?_
    refine q_n ?_
    refine w_t rfl ?_
    refine w_seq ?_
    refine w_reg rfl ?_
    refine v_assign rfl ?_
    refine v_assign (c := .v (.int .i64 1)) rfl ?_
    refine v_nil ?_
    refine q_n ?_
    refine w_ret (q_r ?_)
    refine r_r rfl ?_
    rw [pkR_1 h1]
    exact l_ans [none] rfl rfl ⟨rfl, trivial⟩ (a_tup (.cons (tr_nil rfl) (.cons tr_v .nil)))

theorem c30 (xs : List Tal) (hx : xs.length ≤ 2 ^ 30) (hb : T16 xs) : PureC X 30 [.c (tals false xs)] (.tup [.c (bys true (pkR xs).1), cI (pkR xs).2]) :=
  (c30l xs hx hb).pure (a_tup (.cons (a_flat be_sc be_len rfl rfl) (.cons tr_v .nil)))

theorem c74 (xs : List Tal) (hx : xs.length ≤ 2 ^ 30) (hb : T16 xs) (hok : okL xs) : PureC X 74 [.c (tals false xs)] (.c (bys true (pk xs xs.length ++ [(ck (pk xs xs.length)).2]))) := by
  refine PureC.of_body (drawD_ok X) (fun _ _ => Go.Proofs.Try.call74 _ _) Go.Proofs.Try.func74 rfl (n := 37) rfl ?_
  refine w_seq ?_
  refine w_reg rfl ?_
  refine v_assign rfl ?_
  refine v_nil ?_
  refine q_n ?_
  refine w_seq ?_
  refine w_reg rfl ?_
  refine v_move rfl ?_
  refine v_len_sl lay40 rfl ?_
  refine v_conv_iw lay3 lay5 rfl ?_
  refine v_lit (flat be [_, _, _]) (H' := [_]) lay47 lay5 rfl rfl ⟨by decide, by decide⟩ rfl rfl ?_
  refine v_assign rfl ?_
  refine v_nil ?_
  refine q_n ?_
  refine w_seq ?_
  refine w_seq ?_
  refine w_reg rfl ?_
  refine v_assign (c := .v (.int .i64 0)) rfl ?_
  refine v_nil ?_
  refine q_n ?_
  refine w_block ?_
  refine w_loop (fun k sl H => ∃ i : Nat, k = xs.length - i ∧ i ≤ xs.length ∧ sl = sls [(0, .c (tals false xs)), (3, .c (.mu 0 0 (pk xs i).length 1)), (4, cI i)] ∧ H = [⟨flat be (pk xs i), 5, true⟩]) ?_ ?_
  · refine ⟨_, _, _, ?_, 0, rfl, Nat.zero_le _, rfl, rfl⟩
    exact turn [some 0] rfl rfl rfl ⟨⟨_, rfl, trc_flat be_sc rfl⟩, trivial⟩ ⟨tr_sl, tr_mun rfl rfl, tr_v, trivial⟩
  · rintro k sl H ⟨i, rfl, hi, rfl, rfl⟩
    refine w_seq ?_
    refine w_seq ?_
    refine w_reg rfl ?_
    refine v_move rfl ?_
    refine v_move rfl ?_
    refine v_len_sl lay40 rfl ?_
    refine v_lss lay3 rfl rfl (fun h1 => ?_) (fun h1 => ?_)
    · skip
      refine v_nil ?_
      refine q_n ?_
      refine w_t rfl ?_
      refine w_skip ?_
      refine q_n ?_
      refine w_seq ?_
      refine w_block ?_
      refine w_seq ?_
      refine w_reg rfl ?_
      refine v_move rfl ?_
      refine v_move rfl ?_
      refine v_idx (k := 3) te_len lay40 lay27 rfl rfl rfl (rfl) rfl (by omega) (fun q2 hq2 e2 => ?_)
      obtain rfl : i = q2 := by omega
      refine v_call (c106 _ _ _ (turnT hok hq2) ⟨(hok.2 i hq2).2.1, (hb _ (List.getElem_mem hq2)).1.2⟩ ⟨(hok.2 i hq2).2.2.1, (hb _ (List.getElem_mem hq2)).2.2⟩) rfl rfl rfl (.cons vw_vw .nil) ?_
      refine v_assign rfl ?_
      refine v_nil ?_
      refine q_n ?_
      refine w_seq ?_
      refine w_reg rfl ?_
      refine v_move rfl ?_
      refine v_move rfl ?_
      refine v_app_flat_sl (H' := [_, _]) be_sc be_len lay47 lay5 rfl rfl (by simp) rfl rfl rfl (by first | (simp [maxLen, sx]; done) | (have hpl := pk_len xs i; simp [maxLen, sx]; omega)) rfl rfl ?_
      refine v_assign rfl ?_
      refine v_nil ?_
      refine q_n ?_
      refine w_reg rfl ?_
      refine v_move rfl ?_
      refine v_move rfl ?_
      refine v_conv_iw lay3 lay5 rfl ?_
      refine v_lit (flat be [_]) (H' := [_, _, _]) lay47 lay5 rfl rfl ⟨by decide, by decide⟩ rfl rfl ?_
      refine v_move rfl ?_
      refine v_app_flat_sl (H' := [_, _, _, _]) be_sc be_len lay47 lay5 rfl rfl (by simp) rfl rfl rfl (by first | (simp [maxLen, sx]; done) | (have hpl := pk_len xs i; simp [maxLen, sx]; omega)) rfl rfl ?_
      refine v_call (c91n _ ([IntKind.u8.wrap i] ++ [sx xs[i].1, sx xs[i].2.1, sx xs[i].2.2].flatten) (by simp [sx]) (by simp [sx]) (b8_rec _ _ _ _)) rfl rfl rfl (.cons (vw_mu2 be_sc be_len rfl (by first | (simp; done) | (simp; omega))) .nil) ?_
      refine v_lit (flat be [_]) (H' := [_, _, _, _, _]) lay47 lay5 rfl rfl ⟨by decide, by decide⟩ rfl rfl ?_
      refine v_app_flat (H' := [_, _, _, _, _, _]) be_sc be_len lay47 lay5 rfl rfl (by simp) rfl rfl (by simp) rfl rfl (by first | (simp [maxLen, sx]; done) | (have hpl := pk_len xs i; simp [maxLen, sx]; omega)) rfl rfl ?_
      refine v_assign rfl ?_
      refine v_nil ?_
      refine q_bn ?_
      refine q_n ?_
      refine w_reg rfl ?_
      refine v_move rfl ?_
      refine v_add lay3 rfl rfl (i64r (by omega)) ?_
      refine v_assign rfl ?_
      refine v_nil ?_
      refine q_n ?_
      refine ⟨_, _, _, ?_, ⟨i + 1, rfl, by omega, rfl, rfl⟩, by omega⟩
      exact turn [some 5] rfl rfl rfl ⟨⟨_, rfl, trc_flat be_sc (congrArg (flat be) (by rw [pk_step hq2, List.append_assoc]; rfl))⟩, trivial⟩ ⟨tr_sl, tr_mun rfl (by rw [pk_step hq2]; simp [recB]; omega), tr_v, trivial⟩
    · skip
      refine v_nil ?_
      refine q_n ?_
      refine w_f rfl ?_
      refine w_exit ?_
      refine q_e ?_
      refine q_e ?_
      refine q_hit ?_
      refine q_n ?_
      refine w_seq ?_
      refine w_reg rfl ?_
      refine v_move rfl ?_
      refine v_move rfl ?_
      refine v_call (c91n _ (pk xs i) (by simp) (by have := pk_len xs i; omega) (pk_b8 xs i)) rfl rfl rfl (.cons (vw_mu2 be_sc be_len rfl (by first | (simp; done) | (simp; omega))) .nil) ?_
      refine v_lit (flat be [_]) (H' := [_, _]) lay47 lay5 rfl rfl ⟨by decide, by decide⟩ rfl rfl ?_
      refine v_app_flat (H' := [_, _, _]) be_sc be_len lay47 lay5 rfl rfl (by simp) rfl rfl (by simp) rfl rfl (by first | (simp [maxLen, sx]; done) | (have hpl := pk_len xs i; simp [maxLen, sx]; omega)) rfl rfl ?_
      refine v_assign rfl ?_
      refine v_nil ?_
      refine q_n ?_
      refine w_ret ?_
      refine r_r rfl ?_
      obtain rfl : i = xs.length := by omega
      exact a_flat2 be_sc be_len rfl rfl (by simp) (by simp)

theorem c29 (xs : List Tal) (hx : xs.length ≤ 2 ^ 30) (hb : T16 xs) : PureC X 29 [.c (tals false xs)] (.tup [.c (bys true (pkR xs).1), cI (pkR xs).2]) := by
  refine PureC.of_body (drawD_ok X) (fun _ _ => Go.Proofs.Try.call29 _ _) Go.Proofs.Try.func29 rfl (n := 10) rfl ?_
  refine w_seq ?_
  refine w_reg rfl ?_
  refine v_assign rfl ?_
  refine v_assign (c := .v (.int .i64 0)) rfl ?_
  refine v_nil ?_
  refine q_n ?_
  refine w_seq ?_
  refine w_seq ?_
  refine w_reg rfl ?_
  refine v_move rfl ?_
  refine v_callb (c70 _ (by omega)) rfl rfl (.cons vw_sl .nil) (fun h1 => ?_) (fun h1 => ?_)
  · skip
    refine v_not false rfl rfl ?_
    refine v_nil ?_
    refine q_n ?_
    refine w_f rfl ?_
    refine w_skip ?_
    refine q_n ?_
    refine w_seq ?_
    refine w_reg rfl ?_
    refine v_move rfl ?_
    refine v_call (c74 _ (by omega) (by assumption) h1) rfl rfl rfl (.cons vw_sl .nil) ?_
    refine v_assign rfl ?_
    refine v_assign (c := .v (.int .i64 0)) rfl ?_
    refine v_nil ?_
    refine q_n ?_
    refine w_ret ?_
    refine r_r rfl ?_
    rw [pkR_0 h1]
    exact a_tup (.cons tr_sl (.cons tr_v .nil))
  · skip
    refine v_not true rfl rfl ?_
    refine v_nil ?_
    refine q_n ?_
    refine w_t rfl ?_
    refine w_seq ?_
    refine w_reg rfl ?_
    refine v_lit (flat be []) (H' := [_]) lay47 lay5 rfl rfl ⟨by decide, by decide⟩ rfl rfl ?_
    refine v_assign rfl ?_
    refine v_assign (c := .v (.int .i64 1)) rfl ?_
    refine v_nil ?_
    refine q_n ?_
    refine w_ret (q_r ?_)
    refine r_r rfl ?_
    rw [pkR_1 h1]
    exact a_tup (.cons (a_flat2 be_sc be_len rfl rfl rfl rfl) (.cons tr_v .nil))

theorem c5 (xs : List Tal) (hx : xs.length ≤ maxLen) (hb : T16 xs) : PureC X 5 [.c (tals false xs)] (cB true) := by
  refine PureC.of_body (drawD_ok X) (fun _ _ => Go.Proofs.Try.call5 _ _) Go.Proofs.Try.func5 rfl (n := 96) rfl ?_
  refine w_seq ?_
  refine w_reg rfl ?_
  refine v_assign (c := .v (.bool false)) rfl ?_
  refine v_nil ?_
  refine q_n ?_
  refine w_seq ?_
  refine w_reg rfl ?_
  refine v_assign (c := .v (.int .i64 1048576)) rfl ?_
  refine v_nil ?_
  refine q_n ?_
  refine w_seq ?_
  refine w_reg rfl ?_
  refine v_move rfl ?_
  refine v_move rfl ?_
  refine v_call (c20 _ _ (by omega) (by assumption)) rfl rfl rfl (.cons vw_sl (.cons vw_v .nil)) ?_
  refine v_assign rfl ?_
  refine v_nil ?_
  refine q_n ?_
  refine w_seq ?_
  refine w_seq ?_
  refine w_reg rfl ?_
  refine v_move rfl ?_
  refine v_lss lay3 rfl rfl (fun h1 => ?_) (fun h1 => ?_)
  · skip
    refine v_nil ?_
    refine q_n ?_
    refine w_t rfl ?_
    refine w_seq ?_
    refine w_reg rfl ?_
    refine v_assign (c := .v (.bool true)) rfl ?_
    refine v_nil ?_
    refine q_n ?_
    refine w_ret (q_r ?_)
    refine r_r rfl ?_
    exact tr_v
  · skip
    have hs1 := szr_in h1
    have hln := pkR_len xs
    refine v_nil ?_
    refine q_n ?_
    refine w_f rfl ?_
    refine w_skip ?_
    refine q_n ?_
    refine w_seq ?_
    refine w_reg rfl ?_
    refine v_move rfl ?_
    refine v_call (c22 _ (by omega)) rfl rfl rfl (.cons vw_sl .nil) ?_
    refine v_call (c29 _ (by omega) (by assumption)) rfl rfl rfl (.cons vw_sl .nil) ?_
    refine v_move_t rfl ?_
    refine v_extract_c rfl rfl ?_
    refine v_extract_c rfl rfl ?_
    refine v_assign rfl ?_
    refine v_assign rfl ?_
    refine v_nil ?_
    refine q_n ?_
    refine w_seq ?_
    refine w_reg rfl ?_
    refine v_move rfl ?_
    refine v_live1 (N := 0) (H' := [_]) (c22l _ (by omega)) (sc_flat te_sc _) rfl rfl rfl rfl rfl rfl (.cons vw_sl .nil) ?_
    refine v_assign rfl ?_
    refine v_nil ?_
    refine q_n ?_
    refine w_seq ?_
    refine w_reg rfl ?_
    refine v_move rfl ?_
    refine v_live1 (N := 1) (H' := [_, _]) (c30l _ (by omega) (by assumption)) (sc_flat be_sc _) rfl rfl rfl rfl rfl rfl (.cons (vw_mu2 te_sc te_len rfl (by first | (simp; done) | (simp; omega))) .nil) ?_
    refine v_move_t rfl ?_
    refine v_extract_c rfl rfl ?_
    refine v_extract_c rfl rfl ?_
    refine v_assign rfl ?_
    refine v_assign rfl ?_
    refine v_nil ?_
    refine q_n ?_
    refine w_seq ?_
    refine w_seq ?_
    refine w_reg rfl ?_
    refine v_move rfl ?_
    refine v_move rfl ?_
    refine v_callb (c31 _ _ (by omega)) rfl rfl (.cons (vw_mu2 be_sc be_len rfl (by first | (simp; done) | (simp; omega))) (.cons vw_sl .nil)) (fun h2 => ?_) (fun h2 => ?_)
    · skip
      refine v_not false rfl rfl ?_
      refine v_move rfl ?_
      refine v_guard_on rfl rfl ?_
      refine v_move rfl ?_
      refine v_guard_on rfl rfl ?_
      refine v_move rfl ?_
      refine v_guard_on rfl rfl ?_
      refine v_neq lay2 rfl rfl (fun h3 => ?_) (fun h3 => ?_)
      · skip
        exact absurd rfl h3
      · skip
        refine v_pick_f rfl rfl ?_
        refine v_nil ?_
        refine q_n ?_
        refine w_f rfl ?_
        refine w_skip ?_
        refine q_n ?_
        refine w_seq ?_
        refine w_seq ?_
        refine w_reg rfl ?_
        refine v_move rfl ?_
        refine v_move rfl ?_
        refine v_call (c22 _ (by omega)) rfl rfl rfl (.cons vw_sl .nil) ?_
        refine v_callb (c25 _ _ (by omega)) rfl rfl (.cons (vw_mu2 te_sc te_len rfl (by first | (simp; done) | (simp; omega))) (.cons vw_sl .nil)) (fun h4 => ?_) (fun h4 => ?_)
        · skip
          refine v_not false rfl rfl ?_
          refine v_nil ?_
          refine q_n ?_
          refine w_f rfl ?_
          refine w_skip ?_
          refine q_n ?_
          refine w_seq ?_
          refine w_reg rfl ?_
          refine v_assign (c := .v (.int .i64 1)) rfl ?_
          refine v_nil ?_
          refine q_n ?_
          refine w_seq ?_
          refine w_reg rfl ?_
          refine v_move rfl ?_
          refine v_move rfl ?_
          refine v_mark (H' := [_, _]) (c26 _ _ (by omega) (by omega)) rfl (sc_flat te_sc _) (sc_flat te_sc _) rfl rfl rfl rfl ?_
          refine v_assign rfl ?_
          refine v_nil ?_
          refine q_n ?_
          refine w_seq ?_
          refine w_seq ?_
          refine w_reg rfl ?_
          refine v_move rfl ?_
          refine v_lss lay3 rfl rfl (fun h5 => ?_) (fun h5 => ?_)
          · skip
            exact absurd h5 (by omega)
          · skip
            refine v_move rfl ?_
            refine v_guard_on rfl rfl ?_
            refine v_move rfl ?_
            refine v_guard_on rfl rfl ?_
            refine v_move rfl ?_
            refine v_guard_on rfl rfl ?_
            refine v_callb (c31 _ _ (by omega)) rfl rfl (.cons (vw_mu2 be_sc be_len rfl (by first | (simp; done) | (simp; omega))) (.cons vw_sl .nil)) (fun h6 => ?_) (fun h6 => ?_)
            · skip
              refine v_guard_on rfl rfl ?_
              refine v_not false rfl rfl ?_
              refine v_pick_f rfl rfl ?_
              refine v_move rfl ?_
              refine v_guard_on rfl rfl ?_
              refine v_move rfl ?_
              refine v_guard_on rfl rfl ?_
              refine v_move rfl ?_
              refine v_guard_on rfl rfl ?_
              refine v_neq lay2 rfl rfl (fun h7 => ?_) (fun h7 => ?_)
              · skip
                exact absurd rfl h7
              · skip
                refine v_pick_f rfl rfl ?_
                refine v_nil ?_
                refine q_n ?_
                refine w_f rfl ?_
                refine w_skip ?_
                refine q_n ?_
                refine w_seq ?_
                refine w_reg rfl ?_
                refine v_assign (c := .v (.int .i64 1)) rfl ?_
                refine v_nil ?_
                refine q_n ?_
                refine w_seq ?_
                refine w_reg rfl ?_
                refine v_move rfl ?_
                refine v_move rfl ?_
                refine v_mark (H' := [_, _]) (c32 _ _ (by omega) (by omega)) rfl (sc_flat be_sc _) (sc_flat be_sc _) rfl rfl rfl rfl ?_
                refine v_assign rfl ?_
                refine v_nil ?_
                refine q_n ?_
                refine w_seq ?_
                refine w_reg rfl ?_
                refine v_assign (c := .v (.int .i64 1)) rfl ?_
                refine v_nil ?_
                refine q_n ?_
                refine w_seq ?_
                refine w_reg rfl ?_
                refine v_move rfl ?_
                refine v_move rfl ?_
                refine v_call (c33 _ _ (by omega) (by omega)) rfl rfl rfl (.cons (vw_mu2 be_sc be_len rfl (by first | (simp; done) | (simp; omega))) (.cons vw_v .nil)) ?_
                refine v_assign rfl ?_
                refine v_nil ?_
                refine q_n ?_
                refine w_seq ?_
                refine w_seq ?_
                refine w_reg rfl ?_
                refine v_move rfl ?_
                refine v_lss lay3 rfl rfl (fun h8 => ?_) (fun h8 => ?_)
                · skip
                  exact absurd h8 (by omega)
                · skip
                  refine v_nil ?_
                  refine q_n ?_
                  refine w_f rfl ?_
                  refine w_skip ?_
                  refine q_n ?_
                  refine w_seq ?_
                  refine w_seq ?_
                  refine w_reg rfl ?_
                  refine v_move rfl ?_
                  refine v_move rfl ?_
                  refine v_neq lay3 rfl rfl (fun h9 => ?_) (fun h9 => ?_)
                  · skip
                    exact absurd rfl h9
                  · skip
                    refine v_nil ?_
                    refine q_n ?_
                    refine w_f rfl ?_
                    refine w_skip ?_
                    refine q_n ?_
                    refine w_seq ?_
                    refine w_reg rfl ?_
                    refine v_move rfl ?_
                    refine v_call (c22 _ (by omega)) rfl rfl rfl (.cons vw_sl .nil) ?_
                    refine v_call (c30 _ (by omega) (by assumption)) rfl rfl rfl (.cons vw_sl .nil) ?_
                    refine v_move_t rfl ?_
                    refine v_extract_c rfl rfl ?_
                    refine v_extract_c rfl rfl ?_
                    refine v_assign rfl ?_
                    refine v_assign rfl ?_
                    refine v_nil ?_
                    refine q_n ?_
                    refine w_seq ?_
                    refine w_seq ?_
                    refine w_reg rfl ?_
                    refine v_move rfl ?_
                    refine v_move rfl ?_
                    refine v_callb (c31 _ _ (by omega)) rfl rfl (.cons vw_sl (.cons vw_sl .nil)) (fun h10 => ?_) (fun h10 => ?_)
                    · skip
                      refine v_not false rfl rfl ?_
                      refine v_move rfl ?_
                      refine v_guard_on rfl rfl ?_
                      refine v_move rfl ?_
                      refine v_guard_on rfl rfl ?_
                      refine v_move rfl ?_
                      refine v_guard_on rfl rfl ?_
                      refine v_neq lay2 rfl rfl (fun h11 => ?_) (fun h11 => ?_)
                      · skip
                        exact absurd rfl h11
                      · skip
                        refine v_pick_f rfl rfl ?_
                        refine v_nil ?_
                        refine q_n ?_
                        refine w_f rfl ?_
                        refine w_skip ?_
                        refine q_n ?_
                        refine w_seq ?_
                        refine w_reg rfl ?_
                        refine v_assign (c := .v (.int .i64 1)) rfl ?_
                        refine v_nil ?_
                        refine q_n ?_
                        refine w_seq ?_
                        refine w_reg rfl ?_
                        refine v_move rfl ?_
                        refine v_move rfl ?_
                        refine v_call (c33 _ _ (by omega) (by omega)) rfl rfl rfl (.cons (vw_mu2 be_sc be_len rfl (by first | (simp; done) | (simp; omega))) (.cons vw_v .nil)) ?_
                        refine v_assign rfl ?_
                        refine v_nil ?_
                        refine q_n ?_
                        refine w_seq ?_
                        refine w_seq ?_
                        refine w_reg rfl ?_
                        refine v_move rfl ?_
                        refine v_lss lay3 rfl rfl (fun h12 => ?_) (fun h12 => ?_)
                        · skip
                          exact absurd h12 (by omega)
                        · skip
                          refine v_nil ?_
                          refine q_n ?_
                          refine w_f rfl ?_
                          refine w_skip ?_
                          refine q_n ?_
                          refine w_seq ?_
                          refine w_seq ?_
                          refine w_reg rfl ?_
                          refine v_move rfl ?_
                          refine v_move rfl ?_
                          refine v_neq lay3 rfl rfl (fun h13 => ?_) (fun h13 => ?_)
                          · skip
                            exact absurd rfl h13
                          · skip
                            refine v_nil ?_
                            refine q_n ?_
                            refine w_f rfl ?_
                            refine w_skip ?_
                            refine q_n ?_
                            refine w_seq ?_
                            refine w_reg rfl ?_
                            refine v_assign (c := .v (.bool true)) rfl ?_
                            refine v_nil ?_
                            refine q_n ?_
                            refine w_ret ?_
                            refine r_r rfl ?_
                            exact tr_v
                    · skip
                      exact absurd rfl h10
            · skip
              exact absurd rfl h6
        · skip
          exact absurd rfl h4
    · skip
      exact absurd rfl h2
end Go.VL
