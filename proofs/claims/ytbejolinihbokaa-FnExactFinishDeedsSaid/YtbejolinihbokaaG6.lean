/- The deeds that finish a board: the program's walk. -/
import Derived.Test.YtbejolinihbokaaG5
import Derived.Test.YtbejolinihbokaaV42
namespace Go.VL
open Go.RowKit
set_option maxRecDepth 20000
set_option maxHeartbeats 8000000
def fin4 (i : Nat) : List De := [(2, (i : Int), 0), (3, 0, 0), (3, 0, 0), (6, (i : Int), 0)]
def finP (i : Nat) : List De := (List.range i).flatMap fin4
theorem finP_succ (i : Nat) : finP (i + 1) = finP i ++ fin4 i := by unfold finP; rw [List.range_succ, List.flatMap_append]; simp
theorem finP_len : ∀ i, (finP i).length = 4 * i
  | 0 => rfl
  | i + 1 => by rw [finP_succ, List.length_append, finP_len i]; show 4 * i + 4 = _; omega
/-- All that is on the wire is dropped, and each post is told its newest plan. -/
def finL (w n : Nat) : List De := List.replicate w (5, 0, 0) ++ finP n
theorem finL_len (w n : Nat) : (finL w n).length = w + 4 * n := by unfold finL; rw [List.length_append, List.length_replicate, finP_len]
theorem finL_step (w i : Nat) : finL w i ++ fin4 i = finL w (i + 1) := by unfold finL; rw [finP_succ, List.append_assoc]
def finR (p : Int) (fs : List Int) (ds : List De) : List De × Int :=
  if gvR p fs ds ≠ 0 then ([], gvR p fs ds) else if 200 < ds.length + (finL (stB p fs ds ds.length).1.wr.length fs.length).length then ([], 3) else (finL (stB p fs ds ds.length).1.wr.length fs.length, 0)
section
variable {p : Int} {fs : List Int} {ds : List De} {b : Bd} {cs : List Int}
theorem fin_bad (h : gvR p fs ds ≠ 0) : finR p fs ds = ([], gvR p fs ds) := by unfold finR; rw [if_pos h]
theorem fin_bad2 (h : dcR p fs ds 0 ≠ 0) : finR p fs ds = ([], dcR p fs ds 0) := by rw [dc_gv] at h ⊢; exact fin_bad h
theorem fin_much (h : gvR p fs ds = 0) (hst : (stB p fs ds ds.length).1 = b) (hl : 200 < ds.length + (b.wr.length + 4 * fs.length)) : finR p fs ds = ([], 3) := by
  unfold finR; rw [if_neg (by simp [h]), finL_len, hst, if_pos hl]
theorem fin_of (h : gvR p fs ds = 0) (hst : (stB p fs ds ds.length).1 = b) (hl : ¬ 200 < ds.length + (b.wr.length + 4 * fs.length)) : finR p fs ds = (finL b.wr.length fs.length, 0) := by
  unfold finR; rw [if_neg (by simp [h]), finL_len, hst, if_neg hl]
theorem fin_len : (finR p fs ds).1.length ≤ 2 ^ 40 := by
  unfold finR
  split
  · simp
  · split
    · simp
    · rename_i h
      simp only
      omega
end
theorem rep_step {α : Type} {d z : α} {n c q : Nat} (hq : min c (n - c) = q) (_hc : c ≤ n) : (List.replicate c d ++ List.replicate (n - c) z).take c ++ ((List.replicate c d ++ List.replicate (n - c) z).drop 0 |>.take (c - 0)).take q ++ (List.replicate c d ++ List.replicate (n - c) z).drop (c + q) = List.replicate (c + q) d ++ List.replicate (n - (c + q)) z := by
  have h1 : (List.replicate c d ++ List.replicate (n - c) z).take c = List.replicate c d := by rw [List.take_left' (by simp)]
  have hqc : q ≤ c := by rw [← hq]; exact Nat.min_le_left _ _
  have h2 : (List.replicate c d ++ List.replicate (n - c) z).drop (c + q) = List.replicate (n - (c + q)) z := by
    rw [List.drop_append]; simp; omega
  rw [List.drop_zero, Nat.sub_zero, h1, h2, List.take_replicate, Nat.min_eq_left hqc, List.replicate_append_replicate]
theorem rep_first {α : Type} {d z : α} {n q : Nat} (hq : min 1 n = q) : (List.replicate n z).take 0 ++ [d].take q ++ (List.replicate n z).drop (0 + q) = List.replicate q d ++ List.replicate (n - q) z := by
  rcases Nat.eq_zero_or_pos n with rfl | hn
  · subst hq; simp
  · have : q = 1 := by rw [← hq]; exact Nat.min_eq_left hn
    subst this; simp
theorem dcut {α : Type} {l : List α} {j m : Nat} (hm : m = l.length - j) : ([] ++ ((l.drop j).drop 0).take (0 - 0)) ++ ([] ++ ((l.drop j).drop 1).take (m - 1)) = l.drop (j + 1) := by
  simp only [List.nil_append, Nat.sub_self, List.take_zero, List.drop_drop]
  rw [List.take_of_length_le (by simp; omega)]
theorem dcut_end {α : Type} {l : List α} {j m : Nat} (hm : m = l.length - j) (h1 : 1 = m) : ([] ++ ((l.drop j).drop 0).take (0 - 0)) ++ ([] ++ []) = l.drop (j + 1) := by
  rw [List.drop_of_length_le (l := l) (i := j + 1) (by omega)]
  simp
theorem c103 (n : Int) (hn : 0 ≤ n ∧ n < 4294967296) : PureC X 103 [.c (.v (.int .u64 1)), .c (.v (.int .u64 n))] (.tup [.c (.v (.int .u64 0)), .c (.v (.int .u64 n))]) := by
  refine PureC.of_body (drawD_ok X) (fun _ _ => Go.Proofs.Try.call103 _ _) Go.Proofs.Try.func103 rfl (n := 51) rfl ?_
  refine w_seq ?_
  refine w_reg rfl ?_
  refine v_assign (c := .v (.int .u64 0)) rfl ?_
  refine v_assign (c := .v (.int .u64 0)) rfl ?_
  refine v_nil ?_
  refine q_n ?_
  refine w_seq ?_
  refine w_reg rfl ?_
  refine v_move rfl ?_
  refine v_and (c := 1) lay122 rfl rfl (and32 ⟨by decide, by decide⟩) ?_
  refine v_assign rfl ?_
  refine v_nil ?_
  refine q_n ?_
  refine w_seq ?_
  refine w_reg rfl ?_
  refine v_move rfl ?_
  refine v_shr (c := 0) lay122 rfl rfl (shr32z (⟨by decide, by decide⟩)) (by decide) ?_
  refine v_assign rfl ?_
  refine v_nil ?_
  refine q_n ?_
  refine w_seq ?_
  refine w_reg rfl ?_
  refine v_move rfl ?_
  refine v_and (c := n) lay122 rfl rfl (and32 hn) ?_
  refine v_assign rfl ?_
  refine v_nil ?_
  refine q_n ?_
  refine w_seq ?_
  refine w_reg rfl ?_
  refine v_move rfl ?_
  refine v_shr (c := 0) lay122 rfl rfl (shr32z (hn)) (by decide) ?_
  refine v_assign rfl ?_
  refine v_nil ?_
  refine q_n ?_
  refine w_seq ?_
  refine w_reg rfl ?_
  refine v_move rfl ?_
  refine v_move rfl ?_
  refine v_mul_e (c := n) lay122 rfl rfl (by omega) (u64r (by omega)) ?_
  refine v_assign rfl ?_
  refine v_nil ?_
  refine q_n ?_
  refine w_seq ?_
  refine w_reg rfl ?_
  refine v_move rfl ?_
  refine v_move rfl ?_
  refine v_mul_e (c := 0) lay122 rfl rfl (by omega) (u64r (by omega)) ?_
  refine v_move rfl ?_
  refine v_shr (c := 0) lay122 rfl rfl (shr32z (hn)) (by decide) ?_
  refine v_add_e (c := 0) lay122 rfl rfl (by omega) (u64r (by omega)) ?_
  refine v_assign rfl ?_
  refine v_nil ?_
  refine q_n ?_
  refine w_seq ?_
  refine w_reg rfl ?_
  refine v_move rfl ?_
  refine v_and (c := 0) lay122 rfl rfl (and32 ⟨by decide, by decide⟩) ?_
  refine v_assign rfl ?_
  refine v_nil ?_
  refine q_n ?_
  refine w_seq ?_
  refine w_reg rfl ?_
  refine v_move rfl ?_
  refine v_shr (c := 0) lay122 rfl rfl (shr32z (⟨by decide, by decide⟩)) (by decide) ?_
  refine v_assign rfl ?_
  refine v_nil ?_
  refine q_n ?_
  refine w_seq ?_
  refine w_reg rfl ?_
  refine v_move rfl ?_
  refine v_move rfl ?_
  refine v_move rfl ?_
  refine v_mul_e (c := 0) lay122 rfl rfl (by omega) (u64r (by omega)) ?_
  refine v_add_e (c := 0) lay122 rfl rfl (by omega) (u64r (by omega)) ?_
  refine v_assign rfl ?_
  refine v_nil ?_
  refine q_n ?_
  refine w_seq ?_
  refine w_reg rfl ?_
  refine v_move rfl ?_
  refine v_move rfl ?_
  refine v_mul_e (c := 0) lay122 rfl rfl (by omega) (u64r (by omega)) ?_
  refine v_move rfl ?_
  refine v_add_e (c := 0) lay122 rfl rfl (by omega) (u64r (by omega)) ?_
  refine v_move rfl ?_
  refine v_shr (c := 0) lay122 rfl rfl (shr32z (⟨by decide, by decide⟩)) (by decide) ?_
  refine v_add_e (c := 0) lay122 rfl rfl (by omega) (u64r (by omega)) ?_
  refine v_assign rfl ?_
  refine v_nil ?_
  refine q_n ?_
  refine w_seq ?_
  refine w_reg rfl ?_
  refine v_move rfl ?_
  refine v_move rfl ?_
  refine v_mul_e (c := n) lay122 rfl rfl (by omega) (u64r (by omega)) ?_
  refine v_assign rfl ?_
  refine v_nil ?_
  refine q_n ?_
  refine w_ret ?_
  refine r_r rfl ?_
  exact a_tup (.cons tr_v (.cons tr_v .nil))

theorem c94 (n : Int) (hn : 0 ≤ n ∧ n < 4294967296) : PureC X 94 [.c (.v (.int .u64 1)), .c (.v (.int .u64 n))] (.tup [.c (.v (.int .u64 0)), .c (.v (.int .u64 n))]) := by
  refine PureC.of_body (drawD_ok X) (fun _ _ => Go.Proofs.Try.call94 _ _) Go.Proofs.Try.func94 rfl (n := 30) rfl ?_
  refine w_seq ?_
  refine w_reg rfl ?_
  refine v_assign (c := .v (.int .u64 0)) rfl ?_
  refine v_assign (c := .v (.int .u64 0)) rfl ?_
  refine v_nil ?_
  refine q_n ?_
  refine w_seq ?_
  refine w_f rfl ?_
  refine w_skip ?_
  refine q_n ?_
  refine w_seq ?_
  refine w_reg rfl ?_
  refine v_move rfl ?_
  refine v_move rfl ?_
  refine v_call (c103 _ (by omega)) rfl rfl rfl (.cons vw_v (.cons vw_v .nil)) ?_
  refine v_move_t rfl ?_
  refine v_extract_c rfl rfl ?_
  refine v_extract_c rfl rfl ?_
  refine v_assign rfl ?_
  refine v_assign rfl ?_
  refine v_nil ?_
  refine q_n ?_
  refine w_seq ?_
  refine w_reg rfl ?_
  refine v_move rfl ?_
  refine v_move rfl ?_
  refine v_assign rfl ?_
  refine v_assign rfl ?_
  refine v_nil ?_
  refine q_n ?_
  refine w_ret ?_
  refine r_r rfl ?_
  exact a_tup (.cons tr_v (.cons tr_v .nil))

theorem c69l (d : De) (n : Nat) (hn : n ≤ 2 ^ 20) : LiveC X 69 [.c (dcs false [d]), cI n] (.c (.mu 0 0 n 3)) [⟨flat dce (List.replicate n d), 25, true⟩] := by
  refine LiveC.of_body (drawD_ok X) (fun _ _ => Go.Proofs.Try.call69 _ _) Go.Proofs.Try.func69 rfl (n := 48) rfl ?_
  refine w_seq ?_
  refine w_reg rfl ?_
  refine v_assign rfl ?_
  refine v_nil ?_
  refine q_n ?_
  refine w_seq ?_
  refine w_seq ?_
  refine w_reg rfl ?_
  refine v_move rfl ?_
  refine v_lss lay3 rfl rfl (fun h1 => ?_) (fun h1 => ?_)
  · exact absurd h1 (by omega)
  refine v_nil ?_
  refine q_n ?_
  refine w_f rfl ?_
  refine w_skip ?_
  refine q_n ?_
  refine w_seq ?_
  refine w_reg rfl ?_
  refine v_move rfl ?_
  refine v_len_sl lay41 rfl ?_
  refine v_conv_ii lay3 lay117 rfl (u64r (by simp; try omega)) ?_
  refine v_move rfl ?_
  refine v_conv_ii lay3 lay117 rfl (u64r (by simp; try omega)) ?_
  refine v_call (c94 _ (by omega)) rfl rfl rfl (.cons vw_v (.cons vw_v .nil)) ?_
  refine v_move_t rfl ?_
  refine v_extract_c rfl rfl ?_
  refine v_extract_c rfl rfl ?_
  refine v_assign rfl ?_
  refine v_assign rfl ?_
  refine v_nil ?_
  refine q_n ?_
  refine w_seq ?_
  refine w_seq ?_
  refine w_reg rfl ?_
  refine v_move rfl ?_
  refine v_gtr lay117 rfl rfl (fun h2 => ?_) (fun h2 => ?_)
  · exact absurd h2 (by omega)
  refine v_move rfl ?_
  refine v_guard_on rfl rfl ?_
  refine v_move rfl ?_
  refine v_guard_on rfl rfl ?_
  refine v_gtr lay117 rfl rfl (fun h3 => ?_) (fun h3 => ?_)
  · exact absurd h3 (by omega)
  refine v_pick_f rfl rfl ?_
  refine v_nil ?_
  refine q_n ?_
  refine w_f rfl ?_
  refine w_skip ?_
  refine q_n ?_
  refine w_seq ?_
  refine w_reg rfl ?_
  refine v_move rfl ?_
  refine v_conv_ii lay117 lay3 rfl (i64r (by omega)) ?_
  refine v_make (enc := dce) (a0 := ((0, 0, 0) : De)) (m := 0) (H' := [_]) rfl lay41 lay25 rfl rfl rfl rfl (n) (rfl) (by unfold maxLen; simp only []; omega) rfl rfl ?_
  refine v_assign rfl ?_
  refine v_nil ?_
  refine q_n ?_
  refine w_seq ?_
  refine w_reg rfl ?_
  refine v_move rfl ?_
  refine v_move rfl ?_
  refine v_copy (H' := [_]) (0) (min 1 n) dce_len lay41 lay25 rfl rfl rfl (by simp) (src_fz dce_sc rfl) (rfl) (rfl) rfl ?_
  refine v_assign rfl ?_
  refine v_nil ?_
  refine q_n ?_
  refine w_seq ?_
  refine w_block ?_
  refine w_loop (fun k sl H => ∃ c : Nat, k = n - c ∧ c ≤ n ∧ (0 < n → 0 < c) ∧ sl = sls [(7, .c (.mu 0 0 n 3)), (8, cI c)] ∧ H = [⟨flat dce (List.replicate c d ++ List.replicate (n - c) (0, 0, 0)), 25, true⟩]) ?_ ?_
  · refine ⟨_, _, _, ?_, min 1 n, rfl, by omega, fun h => by omega, rfl, rfl⟩
    exact turn [some 0] rfl rfl rfl ⟨⟨_, rfl, trc_flat dce_sc (congrArg (flat dce) (rep_first rfl))⟩, trivial⟩ ⟨tr_mu rfl, tr_v, trivial⟩
  rintro k sl H ⟨c, rfl, hi, hc, rfl, rfl⟩
  refine w_seq ?_
  refine w_seq ?_
  refine w_reg rfl ?_
  refine v_move rfl ?_
  refine v_move rfl ?_
  refine v_len_mu lay41 rfl ?_
  refine v_lss lay3 rfl rfl (fun h4 => ?_) (fun h4 => ?_)
  rotate_left
  · refine v_nil ?_
    refine q_n ?_
    refine w_f rfl ?_
    refine w_exit ?_
    refine q_e ?_
    refine q_e ?_
    refine q_hit ?_
    refine q_n ?_
    refine w_seq ?_
    refine w_reg rfl ?_
    refine v_move rfl ?_
    refine v_assign rfl ?_
    refine v_nil ?_
    refine q_n ?_
    refine w_ret ?_
    refine r_r rfl ?_
    obtain rfl : c = n := by omega
    exact l_ans [some 0] rfl rfl ⟨⟨_, rfl, trc_flat dce_sc (by simp)⟩, trivial⟩ (tr_mu rfl)
  refine v_nil ?_
  refine q_n ?_
  refine w_t rfl ?_
  refine w_skip ?_
  refine q_n ?_
  refine w_block ?_
  refine w_draw [0, 0, 0, 6, 0, 0, 48, 126, 255, 511] [⟨0, 0, []⟩, ⟨1, 0, []⟩, ⟨2, 0, []⟩, ⟨3, 0, []⟩, ⟨4, 0, []⟩, ⟨5, 0, []⟩, ⟨6, 0, []⟩, ⟨7, 1, []⟩, ⟨8, 0, []⟩, ⟨9, 0, []⟩] rfl rfl ?_
  refine d_q rfl rfl rfl rfl rfl ?_
  refine v_move rfl ?_
  refine v_nil ?_
  refine d_q rfl rfl rfl rfl rfl ?_
  refine v_move rfl ?_
  refine v_nil ?_
  refine d_q rfl rfl rfl rfl rfl ?_
  refine v_move rfl ?_
  refine v_nil ?_
  refine d_q rfl rfl rfl rfl rfl ?_
  refine v_slice_mu (c) (n) lay41 lay25 rfl rfl rfl rfl (rfl) (rfl) (by omega) (.inr (by omega)) ?_
  refine v_nil ?_
  refine d_q rfl rfl rfl rfl rfl ?_
  refine v_move rfl ?_
  refine v_nil ?_
  refine d_q rfl rfl rfl rfl rfl ?_
  refine v_move rfl ?_
  refine v_nil ?_
  refine d_q rfl rfl rfl rfl rfl ?_
  refine v_slice_mu (0) (c) lay41 lay25 rfl rfl rfl rfl (rfl) (rfl) (by omega) (.inl rfl) ?_
  refine v_nil ?_
  refine d_e rfl rfl rfl ?_
  refine v_copy (H' := [_]) (c) (min c (n - c)) dce_len lay41 lay25 rfl rfl rfl (by first | (simp; done) | (simp; omega)) (src_mu (0) dce_len rfl rfl (by first | (simp; done) | (simp; omega))) (by simp) (rfl) rfl ?_
  refine v_nil ⟨again_nil, ?_⟩
  refine d_q rfl rfl rfl rfl rfl ?_
  refine v_add lay3 rfl rfl (i64r (by omega)) ?_
  refine v_nil ?_
  refine d_q rfl rfl rfl rfl rfl ?_
  refine v_assign rfl ?_
  refine v_nil ?_
  refine d_nil ?_
  refine q_bn ?_
  refine q_n ?_
  refine ⟨_, _, _, ?_, ⟨c + min c (n - c), rfl, by omega, fun h => by omega, rfl, rfl⟩, by omega⟩
  exact turn [some 0] rfl rfl rfl ⟨⟨_, rfl, trc_flat dce_sc (congrArg (flat dce) (rep_step rfl hi))⟩, trivial⟩ ⟨tr_mu rfl, tr_i (by push_cast; omega), trivial⟩

theorem c70l (xs : List De) (hx : xs.length ≤ 2 ^ 40) : LiveC X 70 [.c (dcs false xs)] (.c (.mu 0 0 xs.length 3)) [⟨flat dce xs, 25, true⟩] := by
  refine LiveC.of_body (drawD_ok X) (fun _ _ => Go.Proofs.Try.call70 _ _) Go.Proofs.Try.func70 rfl (n := 8) rfl ?_
  refine w_seq ?_
  refine w_reg rfl ?_
  refine v_assign rfl ?_
  refine v_nil ?_
  refine q_n ?_
  refine w_seq ?_
  refine w_seq ?_
  refine w_reg rfl ?_
  refine v_move rfl ?_
  refine v_eqnil rfl lay41 rfl rfl (fun h1 => ?_) ?_
  · refine v_nil ?_
    refine q_n ?_
    refine w_t rfl ?_
    refine w_seq ?_
    refine w_reg rfl ?_
    refine v_assign rfl ?_
    refine v_nil ?_
    refine q_n ?_
    refine w_ret (q_r ?_)
    refine r_r rfl ?_
    have hxs : xs = [] := List.eq_nil_of_length_eq_zero h1.1
    subst hxs
    exact l_ans [none] rfl rfl ⟨rfl, trivial⟩ (tr_nil rfl)
  refine v_nil ?_
  refine q_n ?_
  refine w_f rfl ?_
  refine w_skip ?_
  refine q_n ?_
  refine w_seq ?_
  refine w_reg rfl ?_
  refine v_lit (flat dce []) (H' := [_]) lay41 lay25 rfl rfl ⟨by decide, by decide⟩ rfl rfl ?_
  refine v_move rfl ?_
  refine v_app_flat_sl (H' := [_, _]) dce_sc dce_len lay41 lay25 rfl rfl (by simp) rfl rfl rfl (by unfold maxLen; simp only []; omega) rfl rfl ?_
  refine v_assign rfl ?_
  refine v_nil ?_
  refine q_n ?_
  refine w_ret ?_
  refine r_r rfl ?_
  exact l_ans [some 1] rfl rfl ⟨⟨_, rfl, trc_flat dce_sc (by simp)⟩, trivial⟩ (tr_mun rfl (by simp))

theorem c38l (p : Int) (fs : List Int) (ds : List De) (hx : fs.length ≤ 2 ^ 40) (hd : ds.length ≤ 2 ^ 40) : LiveC X 38 [.agg (cen false p fs), .c (dcs false ds)] (.tup [.c (.mu 0 0 (finR p fs ds).1.length 3), cI (finR p fs ds).2]) [⟨flat dce (finR p fs ds).1, 25, true⟩] := by
  refine LiveC.of_body (drawD_ok X) (fun _ _ => Go.Proofs.Try.call38 _ _) Go.Proofs.Try.func38 rfl (n := 59) rfl ?_
  refine w_seq ?_
  refine w_reg rfl ?_
  refine v_box (m := 0) (H' := [_]) lay33 rfl rfl rfl ?_
  refine v_assign rfl ?_
  refine v_assign (c := .v (.int .i64 0)) rfl ?_
  refine v_nil ?_
  refine q_n ?_
  refine w_seq ?_
  refine w_seq ?_
  refine w_reg rfl ?_
  refine v_load_pt (.agg [_, _]) lay33 rfl rfl rfl rfl ?_
  refine v_move rfl ?_
  refine v_call (c60 _ _ _ _ (by omega) (by omega)) rfl rfl rfl (.cons (vw_agg (.cons vw_v (.cons vw_sl .nil))) (.cons vw_sl (.cons vw_v .nil))) ?_
  refine v_assign rfl ?_
  refine v_nil ?_
  refine q_n ?_
  refine w_seq ?_
  refine w_reg rfl ?_
  refine v_move rfl ?_
  refine v_neq lay2 rfl rfl (fun h1 => ?_) (fun h1 => ?_)
  · refine v_nil ?_
    refine q_n ?_
    refine w_t rfl ?_
    refine w_seq ?_
    refine w_reg rfl ?_
    refine v_move rfl ?_
    refine v_assign rfl ?_
    refine v_assign rfl ?_
    refine v_nil ?_
    refine q_n ?_
    refine w_ret (q_r ?_)
    refine r_r rfl ?_
    rw [fin_bad2 h1]
    exact l_ans [none] rfl rfl ⟨rfl, trivial⟩ (a_tup (.cons (tr_nil rfl) (.cons tr_v .nil)))
  have hg : gvR p fs ds = 0 := by rw [← dc_gv]; omega
  obtain ⟨hoc, hds, hdl⟩ := gv_ok hg
  have hf : fs.length ≤ 6 := hoc.2.2.2.1
  have hok := st_ok (p := p) (fs := fs) hds ds.length (Nat.le_refl _)
  have n1 := hok.nw
  have n2 := hok.ps
  have n4 := hok.kn
  have n5 := hok.wr
  refine v_nil ?_
  refine q_n ?_
  refine w_f rfl ?_
  refine w_skip ?_
  refine q_n ?_
  refine w_seq ?_
  refine w_reg rfl ?_
  refine v_load_pt (.agg [_, _]) lay33 rfl rfl rfl rfl ?_
  refine v_move rfl ?_
  refine v_call (c65 p fs ds (by omega) (by assumption) (by omega)) rfl rfl rfl (.cons (vw_agg (.cons vw_v (.cons vw_sl .nil))) (.cons vw_sl .nil)) ?_
  refine v_move_t rfl ?_
  refine v_extract_c rfl rfl ?_
  refine v_extract_c rfl rfl ?_
  refine v_assign rfl ?_
  refine v_assign rfl ?_
  refine v_nil ?_
  refine q_n ?_
  refine w_seq ?_
  refine w_reg rfl ?_
  refine v_build [(0, 1), (1, 1), (2, 1)] [.v _, .v _, .v _] lay25 rfl rfl ?_
  refine v_lit (flat dce [(5, 0, 0)]) (H' := [_, _]) lay41 lay25 rfl rfl ⟨by decide, by decide⟩ rfl rfl ?_
  refine v_move rfl ?_
  refine v_nil_vw rfl ?_
  refine v_fa_vw (off' := 0) lay94 rfl rfl rfl ?_
  refine v_fa_vw (off' := 4) lay64 rfl rfl rfl ?_
  refine v_load_vw (.c (_)) lay62 rfl rfl rfl ?_
  refine v_len_sl lay62 rfl ?_
  refine v_live1 (N := 2) (H' := [_, _, _]) (c69l (5, 0, 0) (stB p fs ds ds.length).1.wr.length (by omega)) (sc_flat dce_sc _) rfl rfl rfl rfl rfl rfl (.cons (vw_mu2 dce_sc dce_len rfl (by first | rfl | (simp; done) | (simp; omega))) (.cons vw_v .nil)) ?_
  refine v_assign rfl ?_
  refine v_nil ?_
  refine q_n ?_
  refine w_seq ?_
  refine w_seq ?_
  refine w_reg rfl ?_
  refine v_move rfl ?_
  refine v_nil_vw rfl ?_
  refine v_fa_vw (off' := 0) lay94 rfl rfl rfl ?_
  refine v_fa_vw (off' := 1) lay64 rfl rfl rfl ?_
  refine v_load_vw (.c (_)) lay61 rfl rfl rfl ?_
  refine v_len_sl lay61 rfl ?_
  refine v_move (c := .v (.int .i64 0)) rfl ?_
  refine v_nil ?_
  refine q_n ?_
  refine w_block ?_
  refine w_loop (fun k sl H => ∃ i : Nat, k = fs.length - i ∧ i ≤ fs.length ∧ sl = sls [(1, .c (dcs false ds)), (9, .c (.mu 0 0 (finL (stB p fs ds ds.length).1.wr.length i).length 3)), (37, cI fs.length), (38, cI i)] ∧ H = [⟨flat dce (finL (stB p fs ds ds.length).1.wr.length i), 25, true⟩]) ?_ ?_
  · refine ⟨_, _, _, ?_, 0, rfl, Nat.zero_le _, rfl, rfl⟩
    exact turn [some 2] rfl rfl rfl ⟨⟨_, rfl, trc_flat dce_sc (congrArg (flat dce) (List.append_nil _).symm)⟩, trivial⟩ ⟨tr_sl, tr_mun rfl (by rw [finL_len]; rfl), tr_i (by omega), tr_v, trivial⟩
  rintro k sl H ⟨i, rfl, hi, rfl, rfl⟩
  have hll := finL_len (stB p fs ds ds.length).1.wr.length i
  refine w_seq ?_
  refine w_reg rfl ?_
  refine v_lss lay2 rfl rfl (fun h2 => ?_) (fun h2 => ?_)
  · refine v_nil ?_
    refine q_n ?_
    refine w_seq ?_
    refine w_t rfl ?_
    refine w_skip ?_
    refine q_n ?_
    refine w_seq ?_
    refine w_block ?_
    refine w_seq ?_
    refine w_reg rfl ?_
    refine v_move rfl ?_
    refine v_assign rfl ?_
    refine v_nil ?_
    refine q_n ?_
    refine w_reg rfl ?_
    refine v_move rfl ?_
    refine v_move rfl ?_
    refine v_build [(0, 1), (1, 1), (2, 1)] [.v _, .v _, .v _] lay25 rfl rfl ?_
    refine v_build [(0, 1), (1, 1), (2, 1)] [.v _, .v _, .v _] lay25 rfl rfl ?_
    refine v_build [(0, 1), (1, 1), (2, 1)] [.v _, .v _, .v _] lay25 rfl rfl ?_
    refine v_move rfl ?_
    refine v_build [(0, 1), (1, 1), (2, 1)] [.v _, .v _, .v _] lay25 rfl rfl ?_
    refine v_lit (flat dce [(2, (i : Int), 0), (3, 0, 0), (3, 0, 0), (6, (i : Int), 0)]) (H' := [_, _]) lay41 lay25 rfl rfl ⟨by decide, by decide⟩ rfl rfl ?_
    refine v_app_flat (H' := [_, _, _]) dce_sc dce_len lay41 lay25 rfl rfl (by first | rfl | (simp; done) | omega) rfl rfl (by first | rfl | (simp; done)) rfl rfl (by unfold maxLen; simp only []; omega) rfl rfl ?_
    refine v_assign rfl ?_
    refine v_nil ?_
    refine q_bn ?_
    refine q_n ?_
    refine w_reg rfl ?_
    refine v_add lay2 rfl rfl (i64r (by omega)) ?_
    refine v_move rfl ?_
    refine v_nil ?_
    refine q_n ?_
    refine ⟨_, _, _, ?_, ⟨i + 1, rfl, by omega, rfl, rfl⟩, by omega⟩
    exact turn [some 2] rfl rfl rfl ⟨⟨_, rfl, trc_flat dce_sc (congrArg (flat dce) (finL_step _ i))⟩, trivial⟩ ⟨tr_sl, tr_mun rfl (by rw [finL_len, finL_len]; omega), tr_v, tr_v, trivial⟩
  obtain rfl : i = fs.length := by omega
  refine v_nil ?_
  refine q_n ?_
  refine w_seq ?_
  refine w_f rfl ?_
  refine w_exit ?_
  refine q_e ?_
  refine q_e ?_
  refine q_hit ?_
  refine q_n ?_
  refine w_seq ?_
  refine w_seq ?_
  refine w_reg rfl ?_
  refine v_move rfl ?_
  refine v_len_mu lay41 rfl ?_
  refine v_move rfl ?_
  refine v_len_sl lay41 rfl ?_
  refine v_add lay3 rfl rfl (i64r (by omega)) ?_
  refine v_gtr lay3 rfl rfl (fun h3 => ?_) (fun h3 => ?_)
  · refine v_nil ?_
    refine q_n ?_
    refine w_t rfl ?_
    refine w_seq ?_
    refine w_reg rfl ?_
    refine v_assign rfl ?_
    refine v_assign (c := .v (.int .i64 3)) rfl ?_
    refine v_nil ?_
    refine q_n ?_
    refine w_ret (q_r ?_)
    refine r_r rfl ?_
    rw [fin_much hg rfl (by omega)]
    exact l_ans [none] rfl rfl ⟨rfl, trivial⟩ (a_tup (.cons (tr_nil rfl) (.cons tr_v .nil)))
  refine v_nil ?_
  refine q_n ?_
  refine w_f rfl ?_
  refine w_skip ?_
  refine q_n ?_
  refine w_seq ?_
  refine w_reg rfl ?_
  refine v_move rfl ?_
  refine v_live1 (N := 1) (H' := [_, _]) (c70l (finL (stB p fs ds ds.length).1.wr.length fs.length) (by omega)) (sc_flat dce_sc _) rfl rfl rfl rfl rfl rfl (.cons (vw_mu2 dce_sc dce_len rfl (by first | rfl | (simp; done) | (simp; omega))) .nil) ?_
  refine v_assign rfl ?_
  refine v_assign (c := .v (.int .i64 0)) rfl ?_
  refine v_nil ?_
  refine q_n ?_
  refine w_ret ?_
  refine r_r rfl ?_
  rw [fin_of hg rfl (by omega)]
  exact l_ans [some 1] rfl rfl ⟨⟨_, rfl, trc_flat dce_sc rfl⟩, trivial⟩ (a_tup (.cons (tr_mun rfl rfl) (.cons tr_v .nil)))

theorem c38 (p : Int) (fs : List Int) (ds : List De) (hx : fs.length ≤ 2 ^ 40) (hd : ds.length ≤ 2 ^ 40) : PureC X 38 [.agg (cen false p fs), .c (dcs false ds)] (.tup [.c (dcs true (finR p fs ds).1), cI (finR p fs ds).2]) :=
  (c38l p fs ds hx hd).pure (a_tup (.cons (a_flat dce_sc dce_len rfl rfl) (.cons tr_v .nil)))
end Go.VL
