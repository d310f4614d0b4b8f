/- Walks: packets read. -/
import Derived.Test.YtenaamehifbfeaaC6
import Derived.Test.YtenaamehifbfeaaC5
import Derived.Test.YtenaamehifbfeaaV32
namespace Go.VL
open Go.RowKit
set_option maxRecDepth 20000
theorem a_t2 {H : List Ob} {a b : Int} {r : Int × Int} (h : r = (a, b)) : TrV H [] (.tup [cI a, cI b]) (.tup [cI r.1, cI r.2]) := by
  rw [h]
  exact a_tup (.cons tr_v (.cons tr_v .nil))
def bmark (a : Int) (j : Nat) : Int := IntKind.u8.wrap (a + j)
theorem by_be : ∀ xs : List Int, bytesOf (flat be xs) = some xs
  | [] => rfl
  | x :: xs => by
    rw [flat_cons]
    show (bytesOf (flat be xs)).map (x :: ·) = _
    rw [by_be xs]; rfl
/-- A packet's head. -/
def headOk (xs : List Int) : Prop := ∃ h : 3 ≤ xs.length, xs[0] = 68 ∧ xs[1] = 84 ∧ xs[2] ≤ 96
noncomputable instance (xs : List Int) : Decidable (headOk xs) := Classical.propDecidable _
noncomputable def hdR (xs : List Int) : Int × Int := if 676 < xs.length then (0, 2) else if headOk xs then (xs.getD 2 0, 0) else (0, 5)
section
variable {xs : List Int}
theorem hd_2 (h : 676 < xs.length) : hdR xs = (0, 2) := by unfold hdR; rw [if_pos h]
theorem hd_5 (h : ¬ 676 < xs.length) (h1 : ¬ headOk xs) : hdR xs = (0, 5) := by unfold hdR; rw [if_neg h, if_neg h1]
theorem hd_0 (h : ¬ 676 < xs.length) (h1 : headOk xs) : hdR xs = (xs[2]'(by have := h1.1; omega), 0) := by
  unfold hdR
  have h2 : 2 < xs.length := by have := h1.1; omega
  rw [if_neg h, if_pos h1, List.getD_eq_getElem?_getD, List.getElem?_eq_getElem h2, Option.getD_some]
theorem dt_take (hb : B8 xs) : ((strOf ((xs.drop 0).take (2 - 0))).toList == (strOf [68, 84]).toList) = true ↔ xs.take 2 = [68, 84] :=
  strOf_eq (fun x hx => hb x (List.mem_of_mem_take hx)) (fun x hx => by
    simp only [List.mem_cons, List.not_mem_nil, or_false] at hx
    rcases hx with rfl | rfl <;> omega)
theorem dt_ok (hb : B8 xs) (h : (!((strOf ((xs.drop 0).take (2 - 0))).toList == (strOf [68, 84]).toList)) = false) (h2 : 2 < xs.length) (h3 : xs[2] ≤ 96) : headOk xs := by
  have h4 := (dt_take hb).1 (by simpa using h)
  refine ⟨by omega, ?_, ?_, h3⟩
  · have := congrArg (fun l => l[0]?) h4
    simp only [List.getElem?_take_of_lt (show 0 < 2 by omega)] at this
    rw [List.getElem?_eq_getElem (by omega)] at this
    simpa using this
  · have := congrArg (fun l => l[1]?) h4
    simp only [List.getElem?_take_of_lt (show 1 < 2 by omega)] at this
    rw [List.getElem?_eq_getElem (by omega)] at this
    simpa using this
theorem dt_no (hb : B8 xs) (h : (!((strOf ((xs.drop 0).take (2 - 0))).toList == (strOf [68, 84]).toList)) = true) (hk : headOk xs) : False := by
  have h4 : xs.take 2 = [68, 84] := by
    obtain ⟨h0, h1, h2, -⟩ := hk
    match xs, h0 with
    | a :: b :: c :: r, _ =>
      simp at h1 h2
      simp [h1, h2]
  have := (dt_take hb).2 h4
  rw [this] at h
  cases h
end
theorem c40l (xs : List Int) (hx : xs.length ≤ 2 ^ 40) : LiveC X 40 [.c (bys false xs)] (.c (.mu 0 0 xs.length 1)) [⟨flat be xs, 5, true⟩] := by
  refine LiveC.of_body (drawD_ok X) (fun _ _ => Go.Proofs.Try.call40 _ _) Go.Proofs.Try.func40 rfl (n := 22) rfl ?_
  refine w_seq ?_
  refine w_reg rfl ?_
  refine v_assign rfl ?_
  refine v_nil ?_
  refine q_n ?_
  refine w_seq ?_
  refine w_reg rfl ?_
  refine v_move rfl ?_
  refine v_len_sl lay47 rfl ?_
  refine v_make (enc := be) (a0 := (0 : Int)) (m := 0) (H' := [_]) rfl lay47 lay5 rfl rfl rfl rfl (xs.length) (rfl) (by unfold maxLen; simp only []; omega) rfl rfl ?_
  refine v_assign rfl ?_
  refine v_nil ?_
  refine q_n ?_
  refine w_seq ?_
  refine w_seq ?_
  refine w_reg rfl ?_
  refine v_assign (c := .v (.int .i64 0)) rfl ?_
  refine v_nil ?_
  refine q_n ?_
  refine w_block ?_
  refine w_loop (fun k sl H => ∃ i : Nat, k = xs.length - i ∧ i ≤ xs.length ∧ sl = sls [(0, .c (bys false xs)), (3, .c (.mu 0 0 xs.length 1)), (4, cI i)] ∧ H = [⟨flat be (xs.take i ++ List.replicate (xs.length - i) 0), 5, true⟩]) ?_ ?_
  · refine ⟨_, _, _, ?_, 0, rfl, Nat.zero_le _, rfl, rfl⟩
    exact turn [some 0] rfl rfl rfl ⟨⟨_, rfl, .stay (stays_flat be_sc _)⟩, trivial⟩ ⟨tr_sl, tr_mu rfl, tr_v, trivial⟩
  · rintro k sl H ⟨i, rfl, hi, rfl, rfl⟩
    refine w_seq ?_
    refine w_seq ?_
    refine w_reg rfl ?_
    refine v_move rfl ?_
    refine v_move rfl ?_
    refine v_len_sl lay47 rfl ?_
    refine v_lss lay3 rfl rfl (fun h1 => ?_) (fun h1 => ?_)
    · skip
      refine v_nil ?_
      refine q_n ?_
      refine w_t rfl ?_
      refine w_skip ?_
      refine q_n ?_
      refine w_seq ?_
      refine w_block ?_
      refine w_reg rfl ?_
      refine v_move rfl ?_
      refine v_move rfl ?_
      refine v_move rfl ?_
      refine v_move rfl ?_
      refine v_idx (k := 1) be_len lay47 lay5 rfl rfl rfl (rfl) rfl (by omega) (fun q2 hq2 e2 => ?_)
      obtain rfl : i = q2 := by omega
      refine v_load_vw (.c (.v _)) lay5 rfl rfl rfl ?_
      refine v_idx_mu (k := 1) (off := 0) lay47 lay5 rfl rfl rfl (by omega) (fun q3 hq3 e3 => ?_)
      obtain rfl : i = q3 := by omega
      refine v_store_flat (H' := [_]) i 0 (xs[i]) be_len lay5 rfl rfl rfl (by omega) (by simp; omega) rfl rfl (rfl) rfl ?_
      refine v_nil ?_
      refine q_bn ?_
      refine q_n ?_
      refine w_reg rfl ?_
      refine v_move rfl ?_
      refine v_add lay3 rfl rfl (i64r (by omega)) ?_
      refine v_assign rfl ?_
      refine v_nil ?_
      refine q_n ?_
      refine ⟨_, _, _, ?_, ⟨i + 1, rfl, by omega, rfl, rfl⟩, by omega⟩
      exact turn [some 0] rfl rfl rfl ⟨⟨_, rfl, by rw [fill_step hq2]; exact .stay (stays_flat be_sc _)⟩, trivial⟩ ⟨tr_sl, tr_mu rfl, tr_v, trivial⟩
    · skip
      refine v_nil ?_
      refine q_n ?_
      refine w_f rfl ?_
      refine w_exit ?_
      refine q_e ?_
      refine q_e ?_
      refine q_hit ?_
      refine q_n ?_
      refine w_seq ?_
      refine w_reg rfl ?_
      refine v_move rfl ?_
      refine v_assign rfl ?_
      refine v_nil ?_
      refine q_n ?_
      refine w_ret ?_
      refine r_r rfl ?_
      obtain rfl : i = xs.length := by omega
      exact l_ans [some 0] rfl rfl ⟨⟨_, rfl, trc_flat be_sc (by simp)⟩, trivial⟩ (tr_mu rfl)

theorem c40 (xs : List Int) (hx : xs.length ≤ 2 ^ 40) : PureC X 40 [.c (bys false xs)] (.c (bys true xs)) := (c40l xs hx).pure (a_flat be_sc be_len rfl rfl)

theorem c31 (xs ys : List Int) (hx : xs.length ≤ 2 ^ 40) : PureC X 31 [.c (bys false xs), .c (bys false ys)] (cB (decide (xs = ys))) := by
  refine PureC.of_body (drawD_ok X) (fun _ _ => Go.Proofs.Try.call31 _ _) Go.Proofs.Try.func31 rfl (n := 26) rfl ?_
  refine w_seq ?_
  refine w_reg rfl ?_
  refine v_assign (c := .v (.bool false)) rfl ?_
  refine v_nil ?_
  refine q_n ?_
  refine w_seq ?_
  refine w_seq ?_
  refine w_reg rfl ?_
  refine v_move rfl ?_
  refine v_len_sl lay47 rfl ?_
  refine v_move rfl ?_
  refine v_len_sl lay47 rfl ?_
  refine v_neq lay3 rfl rfl (fun h1 => ?_) (fun h1 => ?_)
  · skip
    refine v_nil ?_
    refine q_n ?_
    refine w_t rfl ?_
    refine w_seq ?_
    refine w_reg rfl ?_
    refine v_assign (c := .v (.bool false)) rfl ?_
    refine v_nil ?_
    refine q_n ?_
    refine w_ret (q_r ?_)
    refine r_r rfl ?_
    exact a_b (by simp only [Bool.false_eq_true, false_iff]; rintro rfl; exact h1 rfl)
  · skip
    refine v_nil ?_
    refine q_n ?_
    refine w_f rfl ?_
    refine w_skip ?_
    refine q_n ?_
    refine w_seq ?_
    refine w_seq ?_
    refine w_reg rfl ?_
    refine v_assign (c := .v (.int .i64 0)) rfl ?_
    refine v_nil ?_
    refine q_n ?_
    refine w_block ?_
    refine w_loop (fun k sl H => ∃ i : Nat, k = xs.length - i ∧ i ≤ xs.length ∧ xs.take i = ys.take i ∧ sl = sls [(0, .c (bys false xs)), (1, .c (bys false ys)), (5, cI i)] ∧ H = []) ?_ ?_
    · refine ⟨_, _, _, ?_, 0, rfl, Nat.zero_le _, rfl, rfl, rfl⟩
      exact turn0 ⟨tr_sl, tr_sl, tr_v, trivial⟩
    · rintro k sl H ⟨i, rfl, hi, hp, rfl, rfl⟩
      refine w_seq ?_
      refine w_seq ?_
      refine w_reg rfl ?_
      refine v_move rfl ?_
      refine v_move rfl ?_
      refine v_len_sl lay47 rfl ?_
      refine v_lss lay3 rfl rfl (fun h2 => ?_) (fun h2 => ?_)
      · skip
        refine v_nil ?_
        refine q_n ?_
        refine w_t rfl ?_
        refine w_skip ?_
        refine q_n ?_
        refine w_seq ?_
        refine w_block ?_
        refine w_seq ?_
        refine w_draw [0, 0, 3, 7, 0, 0, 48, 112, 255] [⟨0, 0, []⟩, ⟨1, 0, []⟩, ⟨2, 0, []⟩, ⟨3, 0, []⟩, ⟨4, 0, []⟩, ⟨5, 0, []⟩, ⟨6, 0, []⟩, ⟨7, 0, []⟩, ⟨8, 0, []⟩] rfl rfl ?_
        refine d_q rfl rfl rfl rfl rfl ?_
        refine v_move rfl ?_
        refine v_nil ?_
        refine d_q rfl rfl rfl rfl rfl ?_
        refine v_move rfl ?_
        refine v_nil ?_
        refine d_q rfl rfl rfl rfl rfl ?_
        refine v_idx (k := 1) be_len lay47 lay5 rfl rfl rfl (rfl) rfl (by omega) (fun q3 hq3 e3 => ?_)
        obtain rfl : i = q3 := by omega
        refine v_nil ?_
        refine d_q rfl rfl rfl rfl rfl ?_
        refine v_load_vw (.c (.v _)) lay5 rfl rfl rfl ?_
        refine v_nil ?_
        refine d_q rfl rfl rfl rfl rfl ?_
        refine v_move rfl ?_
        refine v_nil ?_
        refine d_q rfl rfl rfl rfl rfl ?_
        refine v_move rfl ?_
        refine v_nil ?_
        refine d_q rfl rfl rfl rfl rfl ?_
        refine v_idx (k := 1) be_len lay47 lay5 rfl rfl rfl (rfl) rfl (by omega) (fun q4 hq4 e4 => ?_)
        obtain rfl : i = q4 := by omega
        refine v_nil ?_
        refine d_q rfl rfl rfl rfl rfl ?_
        refine v_load_vw (.c (.v _)) lay5 rfl rfl rfl ?_
        refine v_nil ?_
        refine d_q rfl rfl rfl rfl rfl ?_
        refine v_neq lay5 rfl rfl (fun h5 => ?_) (fun h5 => ?_)
        · skip
          refine v_nil ?_
          refine d_nil ?_
          refine q_n ?_
          refine w_t rfl ?_
          refine w_seq ?_
          refine w_reg rfl ?_
          refine v_assign (c := .v (.bool false)) rfl ?_
          refine v_nil ?_
          refine q_n ?_
          refine w_ret (q_br (q_r (q_r (q_br (q_r ?_)))))
          refine r_r rfl ?_
          exact a_b (by simp only [Bool.false_eq_true, false_iff]; rintro rfl; exact h5 rfl)
        · skip
          refine v_nil ?_
          refine d_nil ?_
          refine q_n ?_
          refine w_f rfl ?_
          refine w_skip ?_
          refine q_bn ?_
          refine q_n ?_
          refine w_reg rfl ?_
          refine v_move rfl ?_
          refine v_add lay3 rfl rfl (i64r (by omega)) ?_
          refine v_assign rfl ?_
          refine v_nil ?_
          refine q_n ?_
          refine ⟨_, _, _, ?_, ⟨i + 1, rfl, by omega, ?_, rfl, rfl⟩, by omega⟩
          · exact turn0 ⟨tr_sl, tr_sl, tr_v, trivial⟩
          · rw [List.take_succ_eq_append_getElem hq3, List.take_succ_eq_append_getElem hq4, hp, h5]
      · skip
        refine v_nil ?_
        refine q_n ?_
        refine w_f rfl ?_
        refine w_exit ?_
        refine q_e ?_
        refine q_e ?_
        refine q_hit ?_
        refine q_n ?_
        refine w_seq ?_
        refine w_reg rfl ?_
        refine v_assign (c := .v (.bool true)) rfl ?_
        refine v_nil ?_
        refine q_n ?_
        refine w_ret ?_
        refine r_r rfl ?_
        have he : i = xs.length := by omega
        have hl : ys.length = xs.length := by omega
        rw [he, List.take_length, ← hl, List.take_length] at hp
        exact a_b (by simp only [true_iff]; exact hp)

theorem c32 (xs : List Int) (a : Int) (hx : xs.length ≤ 2 ^ 40) (ha : 0 ≤ a ∧ a ≤ 2 ^ 20) : MarkC X 32 xs.length 1 5 (flat be xs) (.int .i64 a) (.int .i64 (a + xs.length)) (flat be ((List.range xs.length).map (bmark a))) := by
  refine MarkC.of_body (drawD_ok X) (fun _ _ => Go.Proofs.Try.call32 _ _) Go.Proofs.Try.func32 rfl (sc_flat be_sc _) (q := 20) rfl ?_
  refine w_seq ?_
  refine w_reg rfl ?_
  refine v_assign (c := .v (.int .i64 0)) rfl ?_
  refine v_nil ?_
  refine q_n ?_
  refine w_seq ?_
  refine w_seq ?_
  refine w_reg rfl ?_
  refine v_assign (c := .v (.int .i64 0)) rfl ?_
  refine v_nil ?_
  refine q_n ?_
  refine w_block ?_
  refine w_loop (fun k sl H => ∃ i : Nat, k = xs.length - i ∧ i ≤ xs.length ∧ sl = sls [(0, .c (.mu 0 0 xs.length 1)), (1, cI (a + i)), (5, cI i)] ∧ H = [⟨flat be (marks (bmark a) i xs), 5, true⟩]) ?_ ?_
  · refine ⟨_, _, _, ?_, 0, rfl, Nat.zero_le _, rfl, rfl⟩
    exact turn [some 0] rfl rfl rfl ⟨⟨_, rfl, trc_flat be_sc rfl⟩, trivial⟩ ⟨tr_mu rfl, tr_i (by simp), tr_v, trivial⟩
  · rintro k sl H ⟨i, rfl, hi, rfl, rfl⟩
    refine w_seq ?_
    refine w_seq ?_
    refine w_reg rfl ?_
    refine v_move rfl ?_
    refine v_move rfl ?_
    refine v_len_mu lay47 rfl ?_
    refine v_lss lay3 rfl rfl (fun h1 => ?_) (fun h1 => ?_)
    · skip
      refine v_nil ?_
      refine q_n ?_
      refine w_t rfl ?_
      refine w_skip ?_
      refine q_n ?_
      refine w_seq ?_
      refine w_block ?_
      refine w_seq ?_
      refine w_reg rfl ?_
      refine v_move rfl ?_
      refine v_move rfl ?_
      refine v_move rfl ?_
      refine v_conv_iw lay3 lay5 rfl ?_
      refine v_idx_mu (k := 1) (off := 0) lay47 lay5 rfl rfl rfl (by omega) (fun q2 hq2 e2 => ?_)
      obtain rfl : i = q2 := by omega
      refine v_store_flat (H' := [_]) i 0 (IntKind.u8.wrap (a + i)) be_len lay5 rfl rfl rfl (by omega) (by rw [marks_len (by omega)]; omega) rfl rfl (rfl) rfl ?_
      refine v_nil ?_
      refine q_n ?_
      refine w_reg rfl ?_
      refine v_move rfl ?_
      refine v_add lay3 rfl rfl (i64r (by omega)) ?_
      refine v_assign rfl ?_
      refine v_nil ?_
      refine q_bn ?_
      refine q_n ?_
      refine w_reg rfl ?_
      refine v_move rfl ?_
      refine v_add lay3 rfl rfl (i64r (by omega)) ?_
      refine v_assign rfl ?_
      refine v_nil ?_
      refine q_n ?_
      refine ⟨_, _, _, ?_, ⟨i + 1, rfl, by omega, rfl, rfl⟩, by omega⟩
      exact turn [some 0] rfl rfl rfl ⟨⟨_, rfl, trc_flat be_sc (congrArg (flat be) (marks_step (by omega)))⟩, trivial⟩ ⟨tr_mu rfl, tr_i (by push_cast; omega), tr_v, trivial⟩
    · skip
      refine v_nil ?_
      refine q_n ?_
      refine w_f rfl ?_
      refine w_exit ?_
      refine q_e ?_
      refine q_e ?_
      refine q_hit ?_
      refine q_n ?_
      refine w_seq ?_
      refine w_reg rfl ?_
      refine v_move rfl ?_
      refine v_assign rfl ?_
      refine v_nil ?_
      refine q_n ?_
      refine w_ret ?_
      refine r_r rfl ?_
      obtain rfl : i = xs.length := by omega
      exact ⟨rfl, [], by rw [← marks_all]⟩

theorem c33 (n : Nat) (a : Int) (hx : n ≤ 2 ^ 40) (ha : 0 ≤ a ∧ a ≤ 2 ^ 20) : PureC X 33 [.c (.sl false n 1 (flat be ((List.range n).map (bmark a)))), cI a] (cI (a + n)) := by
  refine PureC.of_body (drawD_ok X) (fun _ _ => Go.Proofs.Try.call33 _ _) Go.Proofs.Try.func33 rfl (n := 22) rfl ?_
  refine w_seq ?_
  refine w_reg rfl ?_
  refine v_assign (c := .v (.int .i64 0)) rfl ?_
  refine v_nil ?_
  refine q_n ?_
  refine w_seq ?_
  refine w_seq ?_
  refine w_reg rfl ?_
  refine v_assign (c := .v (.int .i64 0)) rfl ?_
  refine v_nil ?_
  refine q_n ?_
  refine w_block ?_
  refine w_loop (fun k sl H => ∃ i : Nat, k = n - i ∧ i ≤ n ∧ sl = sls [(0, .c (.sl false n 1 (flat be ((List.range n).map (bmark a))))), (1, cI (a + i)), (5, cI i)] ∧ H = []) ?_ ?_
  · refine ⟨_, _, _, ?_, 0, rfl, Nat.zero_le _, rfl, rfl⟩
    exact turn0 ⟨tr_sl, tr_i (by simp), tr_v, trivial⟩
  · rintro k sl H ⟨i, rfl, hi, rfl, rfl⟩
    refine w_seq ?_
    refine w_seq ?_
    refine w_reg rfl ?_
    refine v_move rfl ?_
    refine v_move rfl ?_
    refine v_len_sl lay47 rfl ?_
    refine v_lss lay3 rfl rfl (fun h1 => ?_) (fun h1 => ?_)
    · skip
      refine v_nil ?_
      refine q_n ?_
      refine w_t rfl ?_
      refine w_skip ?_
      refine q_n ?_
      refine w_seq ?_
      refine w_block ?_
      refine w_seq ?_
      refine w_seq ?_
      refine w_reg rfl ?_
      refine v_move rfl ?_
      refine v_move rfl ?_
      refine v_idx (k := 1) be_len lay47 lay5 rfl rfl rfl (by simp) rfl (by rw [List.length_map, List.length_range]; omega) (fun q2 hq2 e2 => ?_)
      obtain rfl : i = q2 := by omega
      refine v_load_vw (.c (.v _)) lay5 rfl rfl rfl ?_
      refine v_move rfl ?_
      refine v_conv_iw lay3 lay5 rfl ?_
      refine v_neq lay5 rfl rfl (fun h3 => ?_) (fun h3 => ?_)
      · skip
        exact absurd (by rw [List.getElem_map, List.getElem_range]; rfl) h3
      · skip
        refine v_nil ?_
        refine q_n ?_
        refine w_f rfl ?_
        refine w_skip ?_
        refine q_n ?_
        refine w_reg rfl ?_
        refine v_move rfl ?_
        refine v_add lay3 rfl rfl (i64r (by omega)) ?_
        refine v_assign rfl ?_
        refine v_nil ?_
        refine q_bn ?_
        refine q_n ?_
        refine w_reg rfl ?_
        refine v_move rfl ?_
        refine v_add lay3 rfl rfl (i64r (by omega)) ?_
        refine v_assign rfl ?_
        refine v_nil ?_
        refine q_n ?_
        refine ⟨_, _, _, ?_, ⟨i + 1, rfl, by omega, rfl, rfl⟩, by omega⟩
        exact turn0 ⟨tr_sl, tr_i (by push_cast; omega), tr_v, trivial⟩
    · skip
      refine v_nil ?_
      refine q_n ?_
      refine w_f rfl ?_
      refine w_exit ?_
      refine q_e ?_
      refine q_e ?_
      refine q_hit ?_
      refine q_n ?_
      refine w_seq ?_
      refine w_reg rfl ?_
      refine v_move rfl ?_
      refine v_assign rfl ?_
      refine v_nil ?_
      refine q_n ?_
      refine w_ret ?_
      refine r_r rfl ?_
      obtain rfl : i = n := by omega
      exact a_i rfl

theorem c90 (xs ys : List Int) (hx : B8 xs) (hy : B8 ys) : PureC X 90 [.c (bys false xs), .c (bys false ys)] (cB (decide (xs = ys))) := by
  refine PureC.of_body (drawD_ok X) (fun _ _ => Go.Proofs.Try.call90 _ _) Go.Proofs.Try.func90 rfl (n := 10) rfl ?_
  refine w_seq ?_
  refine w_reg rfl ?_
  refine v_assign (c := .v (.bool false)) rfl ?_
  refine v_nil ?_
  refine q_n ?_
  refine w_seq ?_
  refine w_reg rfl ?_
  refine v_move rfl ?_
  refine v_conv_bs lay47 lay9 lay5 rfl (by_be _) ?_
  refine v_move rfl ?_
  refine v_conv_bs lay47 lay9 lay5 rfl (by_be _) ?_
  refine v_binb lay9 rfl rfl rfl (fun h1 => ?_) (fun h1 => ?_)
  · skip
    refine v_assign rfl ?_
    refine v_nil ?_
    refine q_n ?_
    refine w_ret ?_
    refine r_r rfl ?_
    exact a_b ⟨fun _ => (strOf_eq hx hy).1 h1, fun _ => rfl⟩
  · skip
    refine v_assign rfl ?_
    refine v_nil ?_
    refine q_n ?_
    refine w_ret ?_
    refine r_r rfl ?_
    exact a_b ⟨fun h => (by cases h), fun h => absurd (h1.symm.trans ((strOf_eq hx hy).2 h)) (by decide)⟩

theorem c85 (xs : List Int) (hx : xs.length ≤ 2 ^ 40) (hb : B8 xs) : PureC X 85 [.c (bys false xs)] (.tup [cI (hdR xs).1, cI (hdR xs).2]) := by
  refine PureC.of_body (drawD_ok X) (fun _ _ => Go.Proofs.Try.call85 _ _) Go.Proofs.Try.func85 rfl (n := 32) rfl ?_
  refine w_seq ?_
  refine w_reg rfl ?_
  refine v_assign (c := .v (.int .i64 0)) rfl ?_
  refine v_assign (c := .v (.int .i64 0)) rfl ?_
  refine v_nil ?_
  refine q_n ?_
  refine w_seq ?_
  refine w_seq ?_
  refine w_reg rfl ?_
  refine v_move rfl ?_
  refine v_len_sl lay47 rfl ?_
  refine v_gtr lay3 rfl rfl (fun h1 => ?_) (fun h1 => ?_)
  · skip
    refine v_nil ?_
    refine q_n ?_
    refine w_t rfl ?_
    refine w_seq ?_
    refine w_reg rfl ?_
    refine v_assign (c := .v (.int .i64 0)) rfl ?_
    refine v_assign (c := .v (.int .i64 2)) rfl ?_
    refine v_nil ?_
    refine q_n ?_
    refine w_ret (q_r ?_)
    refine r_r rfl ?_
    exact a_t2 (hd_2 (by omega))
  · skip
    refine v_nil ?_
    refine q_n ?_
    refine w_f rfl ?_
    refine w_skip ?_
    refine q_n ?_
    refine w_seq ?_
    refine w_seq ?_
    refine w_reg rfl ?_
    refine v_move rfl ?_
    refine v_len_sl lay47 rfl ?_
    refine v_lss lay3 rfl rfl (fun h2 => ?_) (fun h2 => ?_)
    · skip
      refine v_move rfl ?_
      refine v_guard_off rfl rfl rfl ?_
      refine v_guard_off rfl rfl rfl ?_
      refine v_guard_off rfl rfl rfl ?_
      refine v_guard_off rfl rfl rfl ?_
      refine v_pick_t (v := .v (.bool true)) rfl rfl ?_
      refine v_move rfl ?_
      refine v_guard_off rfl rfl rfl ?_
      refine v_guard_off rfl rfl rfl ?_
      refine v_guard_off rfl rfl rfl ?_
      refine v_guard_off rfl rfl rfl ?_
      refine v_pick_t (v := .v (.bool true)) rfl rfl ?_
      refine v_move rfl ?_
      refine v_guard_off rfl rfl rfl ?_
      refine v_guard_off rfl rfl rfl ?_
      refine v_guard_off rfl rfl rfl ?_
      refine v_guard_off rfl rfl rfl ?_
      refine v_pick_t (v := .v (.bool true)) rfl rfl ?_
      refine v_nil ?_
      refine q_n ?_
      refine w_t rfl ?_
      refine w_seq ?_
      refine w_reg rfl ?_
      refine v_assign (c := .v (.int .i64 0)) rfl ?_
      refine v_assign (c := .v (.int .i64 5)) rfl ?_
      refine v_nil ?_
      refine q_n ?_
      refine w_ret (q_r ?_)
      refine r_r rfl ?_
      exact a_t2 (hd_5 (by omega) fun h => by have h0 := h.1; omega)
    · skip
      refine v_move rfl ?_
      refine v_guard_on rfl rfl ?_
      refine v_move rfl ?_
      refine v_guard_on rfl rfl ?_
      refine v_idx (k := 1) be_len lay47 lay5 rfl rfl rfl (rfl) rfl (by omega) (fun q3 hq3 e3 => ?_)
      obtain rfl : q3 = 0 := by omega
      refine v_guard_on rfl rfl ?_
      refine v_load_vw (.c (.v _)) lay5 rfl rfl rfl ?_
      refine v_guard_on rfl rfl ?_
      refine v_neq lay5 rfl rfl (fun h4 => ?_) (fun h4 => ?_)
      · skip
        refine v_pick_f rfl rfl ?_
        refine v_move rfl ?_
        refine v_guard_off rfl rfl rfl ?_
        refine v_guard_off rfl rfl rfl ?_
        refine v_guard_off rfl rfl rfl ?_
        refine v_guard_off rfl rfl rfl ?_
        refine v_pick_t (v := .v (.bool true)) rfl rfl ?_
        refine v_move rfl ?_
        refine v_guard_off rfl rfl rfl ?_
        refine v_guard_off rfl rfl rfl ?_
        refine v_guard_off rfl rfl rfl ?_
        refine v_guard_off rfl rfl rfl ?_
        refine v_pick_t (v := .v (.bool true)) rfl rfl ?_
        refine v_nil ?_
        refine q_n ?_
        refine w_t rfl ?_
        refine w_seq ?_
        refine w_reg rfl ?_
        refine v_assign (c := .v (.int .i64 0)) rfl ?_
        refine v_assign (c := .v (.int .i64 5)) rfl ?_
        refine v_nil ?_
        refine q_n ?_
        refine w_ret (q_r ?_)
        refine r_r rfl ?_
        exact a_t2 (hd_5 (by omega) fun h => h4 h.2.1)
      · skip
        refine v_pick_f rfl rfl ?_
        refine v_move rfl ?_
        refine v_guard_on rfl rfl ?_
        refine v_move rfl ?_
        refine v_guard_on rfl rfl ?_
        refine v_idx (k := 1) be_len lay47 lay5 rfl rfl rfl (rfl) rfl (by omega) (fun q5 hq5 e5 => ?_)
        obtain rfl : q5 = 1 := by omega
        refine v_guard_on rfl rfl ?_
        refine v_load_vw (.c (.v _)) lay5 rfl rfl rfl ?_
        refine v_guard_on rfl rfl ?_
        refine v_neq lay5 rfl rfl (fun h6 => ?_) (fun h6 => ?_)
        · skip
          refine v_pick_f rfl rfl ?_
          refine v_move rfl ?_
          refine v_guard_off rfl rfl rfl ?_
          refine v_guard_off rfl rfl rfl ?_
          refine v_guard_off rfl rfl rfl ?_
          refine v_guard_off rfl rfl rfl ?_
          refine v_pick_t (v := .v (.bool true)) rfl rfl ?_
          refine v_nil ?_
          refine q_n ?_
          refine w_t rfl ?_
          refine w_seq ?_
          refine w_reg rfl ?_
          refine v_assign (c := .v (.int .i64 0)) rfl ?_
          refine v_assign (c := .v (.int .i64 5)) rfl ?_
          refine v_nil ?_
          refine q_n ?_
          refine w_ret (q_r ?_)
          refine r_r rfl ?_
          exact a_t2 (hd_5 (by omega) fun h => h6 h.2.2.1)
        · skip
          refine v_pick_f rfl rfl ?_
          refine v_move rfl ?_
          refine v_guard_on rfl rfl ?_
          refine v_move rfl ?_
          refine v_guard_on rfl rfl ?_
          refine v_idx (k := 1) be_len lay47 lay5 rfl rfl rfl (rfl) rfl (by omega) (fun q7 hq7 e7 => ?_)
          obtain rfl : q7 = 2 := by omega
          refine v_guard_on rfl rfl ?_
          refine v_load_vw (.c (.v _)) lay5 rfl rfl rfl ?_
          refine v_guard_on rfl rfl ?_
          refine v_gtr lay5 rfl rfl (fun h8 => ?_) (fun h8 => ?_)
          · skip
            refine v_pick_f rfl rfl ?_
            refine v_nil ?_
            refine q_n ?_
            refine w_t rfl ?_
            refine w_seq ?_
            refine w_reg rfl ?_
            refine v_assign (c := .v (.int .i64 0)) rfl ?_
            refine v_assign (c := .v (.int .i64 5)) rfl ?_
            refine v_nil ?_
            refine q_n ?_
            refine w_ret (q_r ?_)
            refine r_r rfl ?_
            exact a_t2 (hd_5 (by omega) fun h => by have h0 := h.2.2.2; omega)
          · skip
            refine v_pick_f rfl rfl ?_
            refine v_nil ?_
            refine q_n ?_
            refine w_f rfl ?_
            refine w_skip ?_
            refine q_n ?_
            refine w_seq ?_
            refine w_reg rfl ?_
            refine v_move rfl ?_
            refine v_idx (k := 1) be_len lay47 lay5 rfl rfl rfl (rfl) rfl (by omega) (fun q9 hq9 e9 => ?_)
            obtain rfl : q9 = 2 := by omega
            refine v_load_vw (.c (.v _)) lay5 rfl rfl rfl ?_
            refine v_conv_ii lay5 lay3 rfl (i64r (by have hx1 := bytes_in hb hq9; omega)) ?_
            refine v_assign rfl ?_
            refine v_assign (c := .v (.int .i64 0)) rfl ?_
            refine v_nil ?_
            refine q_n ?_
            refine w_ret ?_
            refine r_r rfl ?_
            exact a_t2 (hd_0 (by omega) ⟨by omega, h4, h6, by omega⟩)

theorem c87 (xs : List Int) (hx : xs.length ≤ 2 ^ 40) (hb : B8 xs) : PureC X 87 [.c (bys false xs)] (cI (hdR xs).2) := by
  refine PureC.of_body (drawD_ok X) (fun _ _ => Go.Proofs.Try.call87 _ _) Go.Proofs.Try.func87 rfl (n := 27) rfl ?_
  refine w_seq ?_
  refine w_reg rfl ?_
  refine v_assign (c := .v (.int .i64 0)) rfl ?_
  refine v_nil ?_
  refine q_n ?_
  refine w_seq ?_
  refine w_reg rfl ?_
  refine v_move rfl ?_
  refine v_len_sl lay47 rfl ?_
  refine v_lss lay3 rfl rfl (fun h1 => ?_) (fun h1 => ?_)
  · skip
    refine v_move rfl ?_
    refine v_guard_off rfl rfl rfl ?_
    refine v_guard_off rfl rfl rfl ?_
    refine v_guard_off rfl rfl rfl ?_
    refine v_guard_off rfl rfl rfl ?_
    refine v_pick_t (v := .v (.bool true)) rfl rfl ?_
    refine v_move rfl ?_
    refine v_guard_off rfl rfl rfl ?_
    refine v_guard_off rfl rfl rfl ?_
    refine v_guard_off rfl rfl rfl ?_
    refine v_guard_off rfl rfl rfl ?_
    refine v_pick_t (v := .v (.bool true)) rfl rfl ?_
    refine v_assign rfl ?_
    refine v_nil ?_
    refine q_n ?_
    refine w_seq ?_
    refine w_reg rfl ?_
    refine v_move rfl ?_
    refine v_len_sl lay47 rfl ?_
    refine v_gtr lay3 rfl rfl (fun h2 => ?_) (fun h2 => ?_)
    · skip
      refine v_call (c65 _ _) rfl rfl rfl (.cons vw_v (.cons vw_v .nil)) ?_
      refine v_move rfl ?_
      refine v_call (c65 _ _) rfl rfl rfl (.cons vw_v (.cons vw_v .nil)) ?_
      refine v_lit (flat int [_, _]) (H' := [_]) lay118 lay2 rfl rfl ⟨by decide, by decide⟩ rfl rfl ?_
      refine v_call (c64 [_, _] (Nat.le_of_ble_eq_true rfl)) rfl rfl rfl (.cons (vw_mu2 int_sc int_len rfl (by first | (simp; done) | (simp; omega))) .nil) ?_
      refine v_assign rfl ?_
      refine v_nil ?_
      refine q_n ?_
      refine w_ret ?_
      refine r_r rfl ?_
      exact a_i (Eq.trans (b := 2) (by decide) (congrArg Prod.snd (hd_2 (by omega))).symm)
    · skip
      refine v_call (c65 _ _) rfl rfl rfl (.cons vw_v (.cons vw_v .nil)) ?_
      refine v_move rfl ?_
      refine v_call (c65 _ _) rfl rfl rfl (.cons vw_v (.cons vw_v .nil)) ?_
      refine v_lit (flat int [_, _]) (H' := [_]) lay118 lay2 rfl rfl ⟨by decide, by decide⟩ rfl rfl ?_
      refine v_call (c64 [_, _] (Nat.le_of_ble_eq_true rfl)) rfl rfl rfl (.cons (vw_mu2 int_sc int_len rfl (by first | (simp; done) | (simp; omega))) .nil) ?_
      refine v_assign rfl ?_
      refine v_nil ?_
      refine q_n ?_
      refine w_ret ?_
      refine r_r rfl ?_
      exact a_i (Eq.trans (b := 5) (by decide) (congrArg Prod.snd (hd_5 (by omega) fun h => by have h0 := h.1; omega)).symm)
  · skip
    refine v_move rfl ?_
    refine v_guard_on rfl rfl ?_
    refine v_move rfl ?_
    refine v_guard_on rfl rfl ?_
    refine v_slice_sl (0) (2) be_len lay47 lay5 rfl rfl rfl rfl rfl (rfl) (rfl) (by omega) ?_
    refine v_guard_on rfl rfl ?_
    refine v_conv_bs lay47 lay9 lay5 rfl (by_be _) ?_
    refine v_guard_on rfl rfl ?_
    refine v_binb lay9 rfl rfl rfl (fun h3 => ?_) (fun h3 => ?_)
    · skip
      refine v_pick_f rfl rfl ?_
      refine v_move rfl ?_
      refine v_guard_off rfl rfl rfl ?_
      refine v_guard_off rfl rfl rfl ?_
      refine v_guard_off rfl rfl rfl ?_
      refine v_guard_off rfl rfl rfl ?_
      refine v_pick_t (v := .v (.bool true)) rfl rfl ?_
      refine v_assign rfl ?_
      refine v_nil ?_
      refine q_n ?_
      refine w_seq ?_
      refine w_reg rfl ?_
      refine v_move rfl ?_
      refine v_len_sl lay47 rfl ?_
      refine v_gtr lay3 rfl rfl (fun h4 => ?_) (fun h4 => ?_)
      · skip
        refine v_call (c65 _ _) rfl rfl rfl (.cons vw_v (.cons vw_v .nil)) ?_
        refine v_move rfl ?_
        refine v_call (c65 _ _) rfl rfl rfl (.cons vw_v (.cons vw_v .nil)) ?_
        refine v_lit (flat int [_, _]) (H' := [_]) lay118 lay2 rfl rfl ⟨by decide, by decide⟩ rfl rfl ?_
        refine v_call (c64 [_, _] (Nat.le_of_ble_eq_true rfl)) rfl rfl rfl (.cons (vw_mu2 int_sc int_len rfl (by first | (simp; done) | (simp; omega))) .nil) ?_
        refine v_assign rfl ?_
        refine v_nil ?_
        refine q_n ?_
        refine w_ret ?_
        refine r_r rfl ?_
        exact a_i (Eq.trans (b := 2) (by decide) (congrArg Prod.snd (hd_2 (by omega))).symm)
      · skip
        refine v_call (c65 _ _) rfl rfl rfl (.cons vw_v (.cons vw_v .nil)) ?_
        refine v_move rfl ?_
        refine v_call (c65 _ _) rfl rfl rfl (.cons vw_v (.cons vw_v .nil)) ?_
        refine v_lit (flat int [_, _]) (H' := [_]) lay118 lay2 rfl rfl ⟨by decide, by decide⟩ rfl rfl ?_
        refine v_call (c64 [_, _] (Nat.le_of_ble_eq_true rfl)) rfl rfl rfl (.cons (vw_mu2 int_sc int_len rfl (by first | (simp; done) | (simp; omega))) .nil) ?_
        refine v_assign rfl ?_
        refine v_nil ?_
        refine q_n ?_
        refine w_ret ?_
        refine r_r rfl ?_
        exact a_i (Eq.trans (b := 5) (by decide) (congrArg Prod.snd (hd_5 (by omega) fun h => dt_no hb h3 h)).symm)
    · skip
      refine v_pick_f rfl rfl ?_
      refine v_move rfl ?_
      refine v_guard_on rfl rfl ?_
      refine v_move rfl ?_
      refine v_guard_on rfl rfl ?_
      refine v_idx (k := 1) be_len lay47 lay5 rfl rfl rfl (rfl) rfl (by omega) (fun q5 hq5 e5 => ?_)
      obtain rfl : q5 = 2 := by omega
      refine v_guard_on rfl rfl ?_
      refine v_load_vw (.c (.v _)) lay5 rfl rfl rfl ?_
      refine v_guard_on rfl rfl ?_
      refine v_gtr lay5 rfl rfl (fun h6 => ?_) (fun h6 => ?_)
      · skip
        refine v_pick_f rfl rfl ?_
        refine v_assign rfl ?_
        refine v_nil ?_
        refine q_n ?_
        refine w_seq ?_
        refine w_reg rfl ?_
        refine v_move rfl ?_
        refine v_len_sl lay47 rfl ?_
        refine v_gtr lay3 rfl rfl (fun h7 => ?_) (fun h7 => ?_)
        · skip
          refine v_call (c65 _ _) rfl rfl rfl (.cons vw_v (.cons vw_v .nil)) ?_
          refine v_move rfl ?_
          refine v_call (c65 _ _) rfl rfl rfl (.cons vw_v (.cons vw_v .nil)) ?_
          refine v_lit (flat int [_, _]) (H' := [_]) lay118 lay2 rfl rfl ⟨by decide, by decide⟩ rfl rfl ?_
          refine v_call (c64 [_, _] (Nat.le_of_ble_eq_true rfl)) rfl rfl rfl (.cons (vw_mu2 int_sc int_len rfl (by first | (simp; done) | (simp; omega))) .nil) ?_
          refine v_assign rfl ?_
          refine v_nil ?_
          refine q_n ?_
          refine w_ret ?_
          refine r_r rfl ?_
          exact a_i (Eq.trans (b := 2) (by decide) (congrArg Prod.snd (hd_2 (by omega))).symm)
        · skip
          refine v_call (c65 _ _) rfl rfl rfl (.cons vw_v (.cons vw_v .nil)) ?_
          refine v_move rfl ?_
          refine v_call (c65 _ _) rfl rfl rfl (.cons vw_v (.cons vw_v .nil)) ?_
          refine v_lit (flat int [_, _]) (H' := [_]) lay118 lay2 rfl rfl ⟨by decide, by decide⟩ rfl rfl ?_
          refine v_call (c64 [_, _] (Nat.le_of_ble_eq_true rfl)) rfl rfl rfl (.cons (vw_mu2 int_sc int_len rfl (by first | (simp; done) | (simp; omega))) .nil) ?_
          refine v_assign rfl ?_
          refine v_nil ?_
          refine q_n ?_
          refine w_ret ?_
          refine r_r rfl ?_
          exact a_i (Eq.trans (b := 5) (by decide) (congrArg Prod.snd (hd_5 (by omega) fun h => by have h0 := h.2.2.2; omega)).symm)
      · skip
        refine v_pick_f rfl rfl ?_
        refine v_assign rfl ?_
        refine v_nil ?_
        refine q_n ?_
        refine w_seq ?_
        refine w_reg rfl ?_
        refine v_move rfl ?_
        refine v_len_sl lay47 rfl ?_
        refine v_gtr lay3 rfl rfl (fun h8 => ?_) (fun h8 => ?_)
        · skip
          refine v_call (c65 _ _) rfl rfl rfl (.cons vw_v (.cons vw_v .nil)) ?_
          refine v_move rfl ?_
          refine v_call (c65 _ _) rfl rfl rfl (.cons vw_v (.cons vw_v .nil)) ?_
          refine v_lit (flat int [_, _]) (H' := [_]) lay118 lay2 rfl rfl ⟨by decide, by decide⟩ rfl rfl ?_
          refine v_call (c64 [_, _] (Nat.le_of_ble_eq_true rfl)) rfl rfl rfl (.cons (vw_mu2 int_sc int_len rfl (by first | (simp; done) | (simp; omega))) .nil) ?_
          refine v_assign rfl ?_
          refine v_nil ?_
          refine q_n ?_
          refine w_ret ?_
          refine r_r rfl ?_
          exact a_i (Eq.trans (b := 2) (by decide) (congrArg Prod.snd (hd_2 (by omega))).symm)
        · skip
          refine v_call (c65 _ _) rfl rfl rfl (.cons vw_v (.cons vw_v .nil)) ?_
          refine v_move rfl ?_
          refine v_call (c65 _ _) rfl rfl rfl (.cons vw_v (.cons vw_v .nil)) ?_
          refine v_lit (flat int [_, _]) (H' := [_]) lay118 lay2 rfl rfl ⟨by decide, by decide⟩ rfl rfl ?_
          refine v_call (c64 [_, _] (Nat.le_of_ble_eq_true rfl)) rfl rfl rfl (.cons (vw_mu2 int_sc int_len rfl (by first | (simp; done) | (simp; omega))) .nil) ?_
          refine v_assign rfl ?_
          refine v_nil ?_
          refine q_n ?_
          refine w_ret ?_
          refine r_r rfl ?_
          exact a_i (Eq.trans (b := 0) (by decide) (congrArg Prod.snd (hd_0 (by omega) (dt_ok hb h3 hq5 (by omega)))).symm)
end Go.VL
