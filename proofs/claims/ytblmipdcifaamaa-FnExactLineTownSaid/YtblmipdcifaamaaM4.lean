/- Texts of one proof, put together: T14, L1, L2. -/
import Derived.Test.YtblmipdcifaamaaM3
import Derived.Test.YtblmipdcifaamaaM2
namespace Go.VL
open Go.RowKit
set_option maxRecDepth 20000
set_option maxHeartbeats 8000000
/-- What the joints of a town tell. -/
abbrev endT (t : Tw) : List Bool × List Bool × Bool := ends t.2.2.2.1.length t.2.2.1 (List.replicate t.1.length false) (List.replicate t.1.length false)
/-- A road of a town, and what is offered to it. -/
def rOkT (t : Tw) (i : Nat) : Prop := roadOk (t.1.getD i zR) ∧ amtB (t.2.1.getD i none) = true ∧ ((endT t).2.1.getD i false = true → feq (t.2.1.getD i none))
instance (t : Tw) (i : Nat) : Decidable (rOkT t i) := by unfold rOkT; infer_instance
def tBnd (t : Tw) : Prop := (1 ≤ (t.1.length : Int) ∧ (t.1.length : Int) ≤ 8) ∧ t.2.1.length = t.1.length ∧ t.2.2.1.length ≤ 4 ∧ t.2.2.2.1.length ≤ 6
instance (t : Tw) : Decidable (tBnd t) := by unfold tBnd; infer_instance
/-- A town that is valid, as the reference looks at it. -/
def townOk (t : Tw) : Prop := tBnd t ∧ ((endT t).2.2 = true ∧ (∀ i, i < t.1.length → rOkT t i) ∧ ∀ p ∈ t.2.2.2.1, okP p.1 p.2.1 p.2.2) ∧ (0 ≤ t.2.2.2.2.1 ∧ t.2.2.2.2.1 ≤ 1000000000) ∧ amtB t.2.2.2.2.2.1 = true ∧ amtB t.2.2.2.2.2.2 = true
instance (t : Tw) : Decidable (townOk t) := by unfold townOk; infer_instance
theorem ends_len {np : Nat} : ∀ {js : List Jo} {a b : List Bool}, (ends np js a b).2.1.length = b.length
  | [], a, b => rfl
  | j :: r, a, b => by
    unfold ends
    split
    · split
      · split
        · split
          · rw [ends_len, usd_len]
          · exact usd_len
        · exact usd_len
      · rfl
    · rfl
theorem endT_len (t : Tw) : (endT t).2.1.length = t.1.length := by rw [ends_len, List.length_replicate]
theorem gd {α : Type} {xs : List α} {i : Nat} {d : α} (h : i < xs.length) : xs.getD i d = xs[i] := by
  rw [List.getD_eq_getElem?_getD, List.getElem?_eq_getElem h]
  rfl
theorem rok_of {t : Tw} {i : Nat} (h1 : i < t.1.length) (h2 : i < t.2.1.length) (h3 : i < (endT t).2.1.length) (ha : roadOk t.1[i]) (hb : amtB t.2.1[i] = true) (hc : (endT t).2.1[i] = true → feq t.2.1[i]) : rOkT t i := by
  unfold rOkT
  rw [gd h1, gd h2, gd h3]
  exact ⟨ha, hb, hc⟩
theorem rok_no {t : Tw} {i : Nat} (h1 : i < t.1.length) (h2 : i < t.2.1.length) (h3 : i < (endT t).2.1.length) (h : ¬ (roadOk t.1[i] ∧ amtB t.2.1[i] = true ∧ ((endT t).2.1[i] = true → feq t.2.1[i]))) : ¬ townOk t := fun ho => by
  have := ho.2.1.2.1 i h1
  unfold rOkT at this
  rw [gd h1, gd h2, gd h3] at this
  exact h this
theorem cTwS (t : Tw) (hB : tB (2 ^ 20) t) (hF : tF t) : PureC X 11 [.c (.vw false (twf true t) 0)] (cB (decide (townOk t))) := by
  refine PureC.of_body (drawD_ok X) (fun _ _ => Go.Proofs.Try.call11 _ _) Go.Proofs.Try.func11 rfl (n := 137) rfl ?_
  refine w_seq ?_
  refine w_reg rfl ?_
  refine v_assign (c := .v (.bool false)) rfl ?_
  refine v_nil ?_
  refine q_n ?_
  refine w_seq ?_
  refine w_seq ?_
  refine w_draw [0, 1, 3, 7, 15, 31, 63, 127, 255, 511, 1023, 2047, 4095, 255, 8447, 24831, 57599, 123135, 262143, 524287, 1048575, 2097151, 4194303, 8388607, 16777215, 33554431, 67108863, 134217727, 268435455, 536870911, 1073741823, 2147483647, 4294967295, 8589934591, 17179869183, 34359738367] [⟨0, 0, []⟩, ⟨1, 0, []⟩, ⟨2, 0, []⟩, ⟨3, 0, []⟩, ⟨4, 0, []⟩, ⟨5, 0, []⟩, ⟨6, 0, []⟩, ⟨7, 0, []⟩, ⟨8, 0, []⟩, ⟨9, 0, []⟩, ⟨10, 0, []⟩, ⟨11, 0, []⟩, ⟨12, 0, []⟩, ⟨13, 0, []⟩, ⟨14, 0, []⟩, ⟨15, 0, []⟩, ⟨16, 0, []⟩, ⟨17, 0, []⟩, ⟨18, 0, []⟩, ⟨19, 0, []⟩, ⟨20, 0, []⟩, ⟨21, 0, []⟩, ⟨22, 0, []⟩, ⟨23, 0, []⟩, ⟨24, 0, []⟩, ⟨25, 0, []⟩, ⟨26, 0, []⟩, ⟨27, 0, []⟩, ⟨28, 0, []⟩, ⟨29, 0, []⟩, ⟨30, 0, []⟩, ⟨31, 0, []⟩, ⟨32, 0, []⟩, ⟨33, 0, []⟩, ⟨34, 0, []⟩, ⟨35, 0, []⟩] rfl rfl ?_
  refine d_q rfl rfl rfl rfl rfl ?_
  refine v_move rfl ?_
  refine v_nil ?_
  refine d_q rfl rfl rfl rfl rfl ?_
  refine v_nil_vw rfl ?_
  refine v_nil ?_
  refine d_q rfl rfl rfl rfl rfl ?_
  refine v_fa_vw (off' := 0) lay28 rfl rfl rfl ?_
  refine v_nil ?_
  refine d_q rfl rfl rfl rfl rfl ?_
  refine v_load_vw (.c (_)) lay23 rfl rfl rfl ?_
  refine v_nil ?_
  refine d_q rfl rfl rfl rfl rfl ?_
  refine v_len_sl lay23 rfl ?_
  refine v_nil ?_
  refine d_callb (cIn _ _ _) rfl rfl rfl rfl (.cons vw_v (.cons vw_v (.cons vw_v .nil))) (fun h1 => ?_) (fun h1 => ?_)
  rotate_left
  · have hbn : ¬ tBnd t := fun hb => by unfold tBnd at hb; omega
    refine d_q rfl rfl rfl rfl rfl ?_
    refine v_not true rfl rfl ?_
    refine v_nil ?_
    refine d_q rfl rfl rfl rfl rfl ?_
    refine v_move rfl ?_
    refine v_nil ?_
    refine d_off rfl rfl ?_
    refine d_off rfl rfl ?_
    refine d_off rfl rfl ?_
    refine d_off rfl rfl ?_
    refine d_off rfl rfl ?_
    refine d_off rfl rfl ?_
    refine d_off rfl rfl ?_
    refine d_off rfl rfl ?_
    refine d_off rfl rfl ?_
    refine d_off rfl rfl ?_
    refine d_off rfl rfl ?_
    refine d_q rfl rfl rfl rfl rfl ?_
    refine v_pick_t (v := .v (.bool true)) rfl rfl ?_
    refine v_nil ?_
    refine d_q rfl rfl rfl rfl rfl ?_
    refine v_move rfl ?_
    refine v_nil ?_
    refine d_off rfl rfl ?_
    refine d_off rfl rfl ?_
    refine d_off rfl rfl ?_
    refine d_off rfl rfl ?_
    refine d_off rfl rfl ?_
    refine d_off rfl rfl ?_
    refine d_q rfl rfl rfl rfl rfl ?_
    refine v_pick_t (v := .v (.bool true)) rfl rfl ?_
    refine v_nil ?_
    refine d_q rfl rfl rfl rfl rfl ?_
    refine v_move rfl ?_
    refine v_nil ?_
    refine d_off rfl rfl ?_
    refine d_off rfl rfl ?_
    refine d_off rfl rfl ?_
    refine d_off rfl rfl ?_
    refine d_off rfl rfl ?_
    refine d_off rfl rfl ?_
    refine d_q rfl rfl rfl rfl rfl ?_
    refine v_pick_t (v := .v (.bool true)) rfl rfl ?_
    refine v_nil ?_
    refine d_nil ?_
    refine q_n ?_
    refine w_t rfl ?_
    refine w_seq ?_
    refine w_reg rfl ?_
    refine v_assign (c := .v (.bool false)) rfl ?_
    refine v_nil ?_
    refine q_n ?_
    refine w_ret (q_r ?_)
    refine r_r rfl ?_
    exact a_b (by simp only [Bool.false_eq_true, false_iff]; exact fun ho => hbn ho.1)
  refine d_q rfl rfl rfl rfl rfl ?_
  refine v_not false rfl rfl ?_
  refine v_nil ?_
  refine d_q rfl rfl rfl rfl rfl ?_
  refine v_move rfl ?_
  refine v_nil ?_
  refine d_q rfl rfl rfl rfl rfl ?_
  refine v_move rfl ?_
  refine v_nil ?_
  refine d_q rfl rfl rfl rfl rfl ?_
  refine v_nil_vw rfl ?_
  refine v_nil ?_
  refine d_q rfl rfl rfl rfl rfl ?_
  refine v_fa_vw (off' := 1) lay28 rfl rfl rfl ?_
  refine v_nil ?_
  refine d_q rfl rfl rfl rfl rfl ?_
  refine v_load_vw (.c (_)) lay24 rfl rfl rfl ?_
  refine v_nil ?_
  refine d_q rfl rfl rfl rfl rfl ?_
  refine v_len_sl lay24 rfl ?_
  refine v_nil ?_
  refine d_q rfl rfl rfl rfl rfl ?_
  refine v_move rfl ?_
  refine v_nil ?_
  refine d_q rfl rfl rfl rfl rfl ?_
  refine v_nil_vw rfl ?_
  refine v_nil ?_
  refine d_q rfl rfl rfl rfl rfl ?_
  refine v_fa_vw (off' := 0) lay28 rfl rfl rfl ?_
  refine v_nil ?_
  refine d_q rfl rfl rfl rfl rfl ?_
  refine v_load_vw (.c (_)) lay23 rfl rfl rfl ?_
  refine v_nil ?_
  refine d_q rfl rfl rfl rfl rfl ?_
  refine v_len_sl lay23 rfl ?_
  refine v_nil ?_
  refine d_q rfl rfl rfl rfl rfl ?_
  refine v_neq lay3 rfl rfl (fun h2 => ?_) (fun h2 => ?_)
  · have hbn : ¬ tBnd t := fun hb => by unfold tBnd at hb; omega
    refine v_nil ?_
    refine d_q rfl rfl rfl rfl rfl ?_
    refine v_pick_f rfl rfl ?_
    refine v_nil ?_
    refine d_q rfl rfl rfl rfl rfl ?_
    refine v_move rfl ?_
    refine v_nil ?_
    refine d_off rfl rfl ?_
    refine d_off rfl rfl ?_
    refine d_off rfl rfl ?_
    refine d_off rfl rfl ?_
    refine d_off rfl rfl ?_
    refine d_off rfl rfl ?_
    refine d_q rfl rfl rfl rfl rfl ?_
    refine v_pick_t (v := .v (.bool true)) rfl rfl ?_
    refine v_nil ?_
    refine d_q rfl rfl rfl rfl rfl ?_
    refine v_move rfl ?_
    refine v_nil ?_
    refine d_off rfl rfl ?_
    refine d_off rfl rfl ?_
    refine d_off rfl rfl ?_
    refine d_off rfl rfl ?_
    refine d_off rfl rfl ?_
    refine d_off rfl rfl ?_
    refine d_q rfl rfl rfl rfl rfl ?_
    refine v_pick_t (v := .v (.bool true)) rfl rfl ?_
    refine v_nil ?_
    refine d_nil ?_
    refine q_n ?_
    refine w_t rfl ?_
    refine w_seq ?_
    refine w_reg rfl ?_
    refine v_assign (c := .v (.bool false)) rfl ?_
    refine v_nil ?_
    refine q_n ?_
    refine w_ret (q_r ?_)
    refine r_r rfl ?_
    exact a_b (by simp only [Bool.false_eq_true, false_iff]; exact fun ho => hbn ho.1)
  refine v_nil ?_
  refine d_q rfl rfl rfl rfl rfl ?_
  refine v_pick_f rfl rfl ?_
  refine v_nil ?_
  refine d_q rfl rfl rfl rfl rfl ?_
  refine v_move rfl ?_
  refine v_nil ?_
  refine d_q rfl rfl rfl rfl rfl ?_
  refine v_move rfl ?_
  refine v_nil ?_
  refine d_q rfl rfl rfl rfl rfl ?_
  refine v_nil_vw rfl ?_
  refine v_nil ?_
  refine d_q rfl rfl rfl rfl rfl ?_
  refine v_fa_vw (off' := 2) lay28 rfl rfl rfl ?_
  refine v_nil ?_
  refine d_q rfl rfl rfl rfl rfl ?_
  refine v_load_vw (.c (_)) lay25 rfl rfl rfl ?_
  refine v_nil ?_
  refine d_q rfl rfl rfl rfl rfl ?_
  refine v_len_sl lay25 rfl ?_
  refine v_nil ?_
  refine d_q rfl rfl rfl rfl rfl ?_
  refine v_gtr lay3 rfl rfl (fun h3 => ?_) (fun h3 => ?_)
  · have hbn : ¬ tBnd t := fun hb => by unfold tBnd at hb; omega
    refine v_nil ?_
    refine d_q rfl rfl rfl rfl rfl ?_
    refine v_pick_f rfl rfl ?_
    refine v_nil ?_
    refine d_q rfl rfl rfl rfl rfl ?_
    refine v_move rfl ?_
    refine v_nil ?_
    refine d_off rfl rfl ?_
    refine d_off rfl rfl ?_
    refine d_off rfl rfl ?_
    refine d_off rfl rfl ?_
    refine d_off rfl rfl ?_
    refine d_off rfl rfl ?_
    refine d_q rfl rfl rfl rfl rfl ?_
    refine v_pick_t (v := .v (.bool true)) rfl rfl ?_
    refine v_nil ?_
    refine d_nil ?_
    refine q_n ?_
    refine w_t rfl ?_
    refine w_seq ?_
    refine w_reg rfl ?_
    refine v_assign (c := .v (.bool false)) rfl ?_
    refine v_nil ?_
    refine q_n ?_
    refine w_ret (q_r ?_)
    refine r_r rfl ?_
    exact a_b (by simp only [Bool.false_eq_true, false_iff]; exact fun ho => hbn ho.1)
  refine v_nil ?_
  refine d_q rfl rfl rfl rfl rfl ?_
  refine v_pick_f rfl rfl ?_
  refine v_nil ?_
  refine d_q rfl rfl rfl rfl rfl ?_
  refine v_move rfl ?_
  refine v_nil ?_
  refine d_q rfl rfl rfl rfl rfl ?_
  refine v_move rfl ?_
  refine v_nil ?_
  refine d_q rfl rfl rfl rfl rfl ?_
  refine v_nil_vw rfl ?_
  refine v_nil ?_
  refine d_q rfl rfl rfl rfl rfl ?_
  refine v_fa_vw (off' := 3) lay28 rfl rfl rfl ?_
  refine v_nil ?_
  refine d_q rfl rfl rfl rfl rfl ?_
  refine v_load_vw (.c (_)) lay26 rfl rfl rfl ?_
  refine v_nil ?_
  refine d_q rfl rfl rfl rfl rfl ?_
  refine v_len_sl lay26 rfl ?_
  refine v_nil ?_
  refine d_q rfl rfl rfl rfl rfl ?_
  refine v_gtr lay3 rfl rfl (fun h4 => ?_) (fun h4 => ?_)
  · have hbn : ¬ tBnd t := fun hb => by unfold tBnd at hb; omega
    refine v_nil ?_
    refine d_q rfl rfl rfl rfl rfl ?_
    refine v_pick_f rfl rfl ?_
    refine v_nil ?_
    refine d_nil ?_
    refine q_n ?_
    refine w_t rfl ?_
    refine w_seq ?_
    refine w_reg rfl ?_
    refine v_assign (c := .v (.bool false)) rfl ?_
    refine v_nil ?_
    refine q_n ?_
    refine w_ret (q_r ?_)
    refine r_r rfl ?_
    exact a_b (by simp only [Bool.false_eq_true, false_iff]; exact fun ho => hbn ho.1)
  have hbn : tBnd t := ⟨by omega, by omega, by omega, by omega⟩
  refine v_nil ?_
  refine d_q rfl rfl rfl rfl rfl ?_
  refine v_pick_f rfl rfl ?_
  refine v_nil ?_
  refine d_nil ?_
  refine q_n ?_
  refine w_f rfl ?_
  refine w_skip ?_
  refine q_n ?_
  refine w_seq ?_
  refine w_reg rfl ?_
  refine v_move rfl ?_
  refine v_call (cEnds t hB hF) rfl rfl rfl (.cons vw_vw .nil) ?_
  refine v_move_t rfl ?_
  refine v_extract_c rfl rfl ?_
  refine v_extract_c rfl rfl ?_
  refine v_extract_c rfl rfl ?_
  refine v_assign rfl ?_
  refine v_assign rfl ?_
  refine v_assign rfl ?_
  refine v_nil ?_
  refine q_n ?_
  refine w_seq ?_
  refine w_seq ?_
  refine w_reg rfl ?_
  refine v_assign (c := .v (.int .i64 0)) rfl ?_
  refine v_nil ?_
  refine q_n ?_
  refine w_block ?_
  refine w_loop (fun k sl H => ∃ (i : Nat) (acc : Bool), k = t.1.length - i ∧ i ≤ t.1.length ∧ (acc = true → (endT t).2.2 = true ∧ ∀ q, q < i → rOkT t q) ∧ (acc = false → ¬ townOk t) ∧ sl = sls [(0, .c (.vw false (twf true t) 0)), (4, .c (bls true (endT t).2.1)), (5, cB acc), (6, cI i)] ∧ H = []) ?_ ?_
  · refine ⟨_, _, _, ?_, 0, (endT t).2.2, rfl, Nat.zero_le _, fun h => ⟨h, fun q hq => by omega⟩, (fun h ho => by have := ho.2.1.1; rw [h] at this; cases this), rfl, rfl⟩
    exact turn0 ⟨tr_vw, tr_sl, tr_v, tr_v, trivial⟩
  rintro k sl H ⟨i, acc, rfl, hi, hA, hN, rfl, rfl⟩
  rcases acc with _ | _
  · skip
    refine w_seq ?_
    refine w_seq ?_
    refine w_reg rfl ?_
    refine v_move rfl ?_
    refine v_move rfl ?_
    refine v_nil_vw rfl ?_
    refine v_fa_vw (off' := 0) lay28 rfl rfl rfl ?_
    refine v_load_vw (.c (_)) lay23 rfl rfl rfl ?_
    refine v_len_sl lay23 rfl ?_
    refine v_lss lay3 rfl rfl (fun h5 => ?_) (fun h5 => ?_)
    rotate_left
    · refine v_move rfl ?_
      refine v_guard_off rfl rfl rfl ?_
      refine v_pick_f (v := .v (.bool false)) rfl rfl ?_
      refine v_nil ?_
      refine q_n ?_
      refine w_f rfl ?_
      refine w_exit ?_
      refine q_e ?_
      refine q_e ?_
      refine q_hit ?_
      refine q_n ?_
      refine w_seq ?_
      refine w_seq ?_
      refine w_reg rfl ?_
      refine v_assign (c := .v (.int .i64 0)) rfl ?_
      refine v_nil ?_
      refine q_n ?_
      refine w_block ?_
      refine w_loop (fun k sl H => ∃ (i : Nat) (acc : Bool), k = t.2.2.2.1.length - i ∧ i ≤ t.2.2.2.1.length ∧ (acc = true → ((endT t).2.2 = true ∧ ∀ q, q < t.1.length → rOkT t q) ∧ ∀ p ∈ t.2.2.2.1.take i, okP p.1 p.2.1 p.2.2) ∧ (acc = false → ¬ townOk t) ∧ sl = sls [(0, .c (.vw false (twf true t) 0)), (5, cB acc), (7, cI i)] ∧ H = []) ?_ ?_
      · refine ⟨_, _, _, ?_, 0, false, rfl, Nat.zero_le _, (fun h => by cases h), (fun _ => hN rfl), rfl, rfl⟩
        exact turn0 ⟨tr_vw, tr_v, tr_v, trivial⟩
      rintro k sl H ⟨i, acc, rfl, hi, hA, hN, rfl, rfl⟩
      rcases acc with _ | _
      · skip
        refine w_seq ?_
        refine w_seq ?_
        refine w_reg rfl ?_
        refine v_move rfl ?_
        refine v_move rfl ?_
        refine v_nil_vw rfl ?_
        refine v_fa_vw (off' := 3) lay28 rfl rfl rfl ?_
        refine v_load_vw (.c (_)) lay26 rfl rfl rfl ?_
        refine v_len_sl lay26 rfl ?_
        refine v_lss lay3 rfl rfl (fun h13 => ?_) (fun h13 => ?_)
        rotate_left
        · refine v_move rfl ?_
          refine v_guard_off rfl rfl rfl ?_
          refine v_pick_f (v := .v (.bool false)) rfl rfl ?_
          refine v_nil ?_
          refine q_n ?_
          refine w_f rfl ?_
          refine w_exit ?_
          refine q_e ?_
          refine q_e ?_
          refine q_hit ?_
          refine q_n ?_
          refine w_seq ?_
          refine w_reg rfl ?_
          refine v_move rfl ?_
          refine v_move rfl ?_
          refine v_guard_off rfl rfl rfl ?_
          refine v_guard_off rfl rfl rfl ?_
          refine v_guard_off rfl rfl rfl ?_
          refine v_guard_off rfl rfl rfl ?_
          refine v_guard_off rfl rfl rfl ?_
          refine v_pick_f (v := .v (.bool false)) rfl rfl ?_
          refine v_move rfl ?_
          refine v_guard_off rfl rfl rfl ?_
          refine v_guard_off rfl rfl rfl ?_
          refine v_guard_off rfl rfl rfl ?_
          refine v_guard_off rfl rfl rfl ?_
          refine v_guard_off rfl rfl rfl ?_
          refine v_pick_f (v := .v (.bool false)) rfl rfl ?_
          refine v_move rfl ?_
          refine v_guard_off rfl rfl rfl ?_
          refine v_guard_off rfl rfl rfl ?_
          refine v_guard_off rfl rfl rfl ?_
          refine v_guard_off rfl rfl rfl ?_
          refine v_guard_off rfl rfl rfl ?_
          refine v_pick_f (v := .v (.bool false)) rfl rfl ?_
          refine v_assign rfl ?_
          refine v_nil ?_
          refine q_n ?_
          refine w_ret ?_
          refine r_r rfl ?_
          exact a_b (by simp only [Bool.false_eq_true, false_iff]; exact hN rfl)
        have hi1 : i < t.2.2.2.1.length := by omega
        refine v_move rfl ?_
        refine v_guard_on rfl rfl ?_
        refine v_move rfl ?_
        refine v_pick_t rfl rfl ?_
        refine v_nil ?_
        refine q_n ?_
        refine w_f rfl ?_
        refine w_exit ?_
        refine q_e ?_
        refine q_e ?_
        refine q_hit ?_
        refine q_n ?_
        refine w_seq ?_
        refine w_reg rfl ?_
        refine v_move rfl ?_
        refine v_move rfl ?_
        refine v_guard_off rfl rfl rfl ?_
        refine v_guard_off rfl rfl rfl ?_
        refine v_guard_off rfl rfl rfl ?_
        refine v_guard_off rfl rfl rfl ?_
        refine v_guard_off rfl rfl rfl ?_
        refine v_pick_f (v := .v (.bool false)) rfl rfl ?_
        refine v_move rfl ?_
        refine v_guard_off rfl rfl rfl ?_
        refine v_guard_off rfl rfl rfl ?_
        refine v_guard_off rfl rfl rfl ?_
        refine v_guard_off rfl rfl rfl ?_
        refine v_guard_off rfl rfl rfl ?_
        refine v_pick_f (v := .v (.bool false)) rfl rfl ?_
        refine v_move rfl ?_
        refine v_guard_off rfl rfl rfl ?_
        refine v_guard_off rfl rfl rfl ?_
        refine v_guard_off rfl rfl rfl ?_
        refine v_guard_off rfl rfl rfl ?_
        refine v_guard_off rfl rfl rfl ?_
        refine v_pick_f (v := .v (.bool false)) rfl rfl ?_
        refine v_assign rfl ?_
        refine v_nil ?_
        refine q_n ?_
        refine w_ret ?_
        refine r_r rfl ?_
        exact a_b (by simp only [Bool.false_eq_true, false_iff]; exact hN rfl)
      · skip
        refine w_seq ?_
        refine w_seq ?_
        refine w_reg rfl ?_
        refine v_move rfl ?_
        refine v_move rfl ?_
        refine v_nil_vw rfl ?_
        refine v_fa_vw (off' := 3) lay28 rfl rfl rfl ?_
        refine v_load_vw (.c (_)) lay26 rfl rfl rfl ?_
        refine v_len_sl lay26 rfl ?_
        refine v_lss lay3 rfl rfl (fun h14 => ?_) (fun h14 => ?_)
        · have hi1 : i < t.2.2.2.1.length := by omega
          refine v_move rfl ?_
          refine v_guard_on rfl rfl ?_
          refine v_move rfl ?_
          refine v_pick_t rfl rfl ?_
          refine v_nil ?_
          refine q_n ?_
          refine w_t rfl ?_
          refine w_skip ?_
          refine q_n ?_
          refine w_seq ?_
          refine w_block ?_
          refine w_reg rfl ?_
          refine v_move rfl ?_
          refine v_nil_vw rfl ?_
          refine v_fa_vw (off' := 3) lay28 rfl rfl rfl ?_
          refine v_load_vw (.c (_)) lay26 rfl rfl rfl ?_
          refine v_move rfl ?_
          refine v_idx_e (k := 3) (i) plc_len lay26 lay74 rfl rfl rfl (rfl) rfl (rfl) (hi1) ?_
          refine v_callb (cPlS _ _ _ (by have := hB.2.2.2.2.2 _ (List.getElem_mem hi1); omega)) rfl rfl (.cons vw_vw .nil) (fun h16 => ?_) (fun h16 => ?_)
          · have hpk := h16
            refine v_assign rfl ?_
            refine v_nil ?_
            refine q_bn ?_
            refine q_n ?_
            refine w_reg rfl ?_
            refine v_move rfl ?_
            refine v_add lay3 rfl rfl (i64r (by have q1 := hB.2.2.2.2.1; have q2 := hB.1; omega)) ?_
            refine v_assign rfl ?_
            refine v_nil ?_
            refine q_n ?_
            refine ⟨_, _, _, ?_, ⟨i + 1, true, rfl, by omega, fun _ => ⟨(hA rfl).1, all_step hi1 (hA rfl).2 hpk⟩, (fun h => by cases h), rfl, rfl⟩, by omega⟩
            exact turn0 ⟨tr_vw, tr_v, tr_v, trivial⟩
          have hpk := h16
          refine v_assign rfl ?_
          refine v_nil ?_
          refine q_bn ?_
          refine q_n ?_
          refine w_reg rfl ?_
          refine v_move rfl ?_
          refine v_add lay3 rfl rfl (i64r (by have q1 := hB.2.2.2.2.1; have q2 := hB.1; omega)) ?_
          refine v_assign rfl ?_
          refine v_nil ?_
          refine q_n ?_
          refine ⟨_, _, _, ?_, ⟨i + 1, false, rfl, by omega, (fun h => by cases h), fun _ ho => hpk (ho.2.1.2.2 _ (List.getElem_mem hi1)), rfl, rfl⟩, by omega⟩
          exact turn0 ⟨tr_vw, tr_v, tr_v, trivial⟩
        refine v_move rfl ?_
        refine v_guard_off rfl rfl rfl ?_
        refine v_pick_f (v := .v (.bool false)) rfl rfl ?_
        refine v_nil ?_
        refine q_n ?_
        refine w_f rfl ?_
        refine w_exit ?_
        refine q_e ?_
        refine q_e ?_
        refine q_hit ?_
        refine q_n ?_
        refine w_seq ?_
        refine w_reg rfl ?_
        refine v_move rfl ?_
        refine v_move rfl ?_
        refine v_guard_on rfl rfl ?_
        refine v_move rfl ?_
        refine v_guard_on rfl rfl ?_
        refine v_nil_vw rfl ?_
        refine v_guard_on rfl rfl ?_
        refine v_fa_vw (off' := 4) lay28 rfl rfl rfl ?_
        refine v_guard_on rfl rfl ?_
        refine v_load_vw (.c (.v _)) lay2 rfl rfl rfl ?_
        refine v_guard_on rfl rfl ?_
        refine v_callb (cIn _ _ _) rfl rfl (.cons vw_v (.cons vw_v (.cons vw_v .nil))) (fun h17 => ?_) (fun h17 => ?_)
        rotate_left
        · have htk := h17
          refine v_pick_t rfl rfl ?_
          refine v_move rfl ?_
          refine v_guard_off rfl rfl rfl ?_
          refine v_guard_off rfl rfl rfl ?_
          refine v_guard_off rfl rfl rfl ?_
          refine v_guard_off rfl rfl rfl ?_
          refine v_guard_off rfl rfl rfl ?_
          refine v_pick_f (v := .v (.bool false)) rfl rfl ?_
          refine v_move rfl ?_
          refine v_guard_off rfl rfl rfl ?_
          refine v_guard_off rfl rfl rfl ?_
          refine v_guard_off rfl rfl rfl ?_
          refine v_guard_off rfl rfl rfl ?_
          refine v_guard_off rfl rfl rfl ?_
          refine v_pick_f (v := .v (.bool false)) rfl rfl ?_
          refine v_assign rfl ?_
          refine v_nil ?_
          refine q_n ?_
          refine w_ret ?_
          refine r_r rfl ?_
          exact a_b (by simp only [Bool.false_eq_true, false_iff]; exact fun ho => htk ho.2.2.1)
        have htk := h17
        refine v_pick_t rfl rfl ?_
        refine v_move rfl ?_
        refine v_guard_on rfl rfl ?_
        refine v_move rfl ?_
        refine v_guard_on rfl rfl ?_
        refine v_nil_vw rfl ?_
        refine v_guard_on rfl rfl ?_
        refine v_fa_vw (off' := 5) lay28 rfl rfl rfl ?_
        refine v_guard_on rfl rfl ?_
        refine v_load_vw (.c (.f _ _)) lay22 rfl rfl rfl ?_
        refine v_guard_on rfl rfl ?_
        refine v_callb (cAmS _) rfl rfl (.cons vw_f .nil) (fun h18 => ?_) (fun h18 => ?_)
        rotate_left
        · have hca := h18
          refine v_pick_t rfl rfl ?_
          refine v_move rfl ?_
          refine v_guard_off rfl rfl rfl ?_
          refine v_guard_off rfl rfl rfl ?_
          refine v_guard_off rfl rfl rfl ?_
          refine v_guard_off rfl rfl rfl ?_
          refine v_guard_off rfl rfl rfl ?_
          refine v_pick_f (v := .v (.bool false)) rfl rfl ?_
          refine v_assign rfl ?_
          refine v_nil ?_
          refine q_n ?_
          refine w_ret ?_
          refine r_r rfl ?_
          exact a_b (by simp only [Bool.false_eq_true, false_iff]; exact fun ho => hca ho.2.2.2.1)
        have hca := h18
        refine v_pick_t rfl rfl ?_
        refine v_move rfl ?_
        refine v_guard_on rfl rfl ?_
        refine v_move rfl ?_
        refine v_guard_on rfl rfl ?_
        refine v_nil_vw rfl ?_
        refine v_guard_on rfl rfl ?_
        refine v_fa_vw (off' := 6) lay28 rfl rfl rfl ?_
        refine v_guard_on rfl rfl ?_
        refine v_load_vw (.c (.f _ _)) lay22 rfl rfl rfl ?_
        refine v_guard_on rfl rfl ?_
        refine v_callb (cAmS _) rfl rfl (.cons vw_f .nil) (fun h19 => ?_) (fun h19 => ?_)
        rotate_left
        · have hwe := h19
          refine v_pick_t rfl rfl ?_
          refine v_assign rfl ?_
          refine v_nil ?_
          refine q_n ?_
          refine w_ret ?_
          refine r_r rfl ?_
          exact a_b (by simp only [Bool.false_eq_true, false_iff]; exact fun ho => hwe ho.2.2.2.2)
        have hwe := h19
        refine v_pick_t rfl rfl ?_
        refine v_assign rfl ?_
        refine v_nil ?_
        refine q_n ?_
        refine w_ret ?_
        refine r_r rfl ?_
        obtain ⟨⟨q1, q2⟩, q3⟩ := hA rfl
        obtain rfl : i = t.2.2.2.1.length := by omega
        rw [List.take_length] at q3
        exact a_b (by simp only [true_iff]; exact ⟨hbn, ⟨q1, q2, q3⟩, htk, hca, hwe⟩)
    have i1 : i < t.1.length := by omega
    have hi1 := i1
    have i2 : i < t.2.1.length := by have := hbn.2.1; omega
    have i3 : i < (endT t).2.1.length := by rw [endT_len]; exact i1
    refine v_move rfl ?_
    refine v_guard_on rfl rfl ?_
    refine v_move rfl ?_
    refine v_pick_t rfl rfl ?_
    refine v_nil ?_
    refine q_n ?_
    refine w_f rfl ?_
    refine w_exit ?_
    refine q_e ?_
    refine q_e ?_
    refine q_hit ?_
    refine q_n ?_
    refine w_seq ?_
    refine w_seq ?_
    refine w_reg rfl ?_
    refine v_assign (c := .v (.int .i64 0)) rfl ?_
    refine v_nil ?_
    refine q_n ?_
    refine w_block ?_
    refine w_loop (fun k sl H => ∃ (i : Nat) (acc : Bool), k = t.2.2.2.1.length - i ∧ i ≤ t.2.2.2.1.length ∧ (acc = true → ((endT t).2.2 = true ∧ ∀ q, q < t.1.length → rOkT t q) ∧ ∀ p ∈ t.2.2.2.1.take i, okP p.1 p.2.1 p.2.2) ∧ (acc = false → ¬ townOk t) ∧ sl = sls [(0, .c (.vw false (twf true t) 0)), (5, cB acc), (7, cI i)] ∧ H = []) ?_ ?_
    · refine ⟨_, _, _, ?_, 0, false, rfl, Nat.zero_le _, (fun h => by cases h), (fun _ => hN rfl), rfl, rfl⟩
      exact turn0 ⟨tr_vw, tr_v, tr_v, trivial⟩
    rintro k sl H ⟨i, acc, rfl, hi, hA, hN, rfl, rfl⟩
    rcases acc with _ | _
    · skip
      refine w_seq ?_
      refine w_seq ?_
      refine w_reg rfl ?_
      refine v_move rfl ?_
      refine v_move rfl ?_
      refine v_nil_vw rfl ?_
      refine v_fa_vw (off' := 3) lay28 rfl rfl rfl ?_
      refine v_load_vw (.c (_)) lay26 rfl rfl rfl ?_
      refine v_len_sl lay26 rfl ?_
      refine v_lss lay3 rfl rfl (fun h6 => ?_) (fun h6 => ?_)
      rotate_left
      · refine v_move rfl ?_
        refine v_guard_off rfl rfl rfl ?_
        refine v_pick_f (v := .v (.bool false)) rfl rfl ?_
        refine v_nil ?_
        refine q_n ?_
        refine w_f rfl ?_
        refine w_exit ?_
        refine q_e ?_
        refine q_e ?_
        refine q_hit ?_
        refine q_n ?_
        refine w_seq ?_
        refine w_reg rfl ?_
        refine v_move rfl ?_
        refine v_move rfl ?_
        refine v_guard_off rfl rfl rfl ?_
        refine v_guard_off rfl rfl rfl ?_
        refine v_guard_off rfl rfl rfl ?_
        refine v_guard_off rfl rfl rfl ?_
        refine v_guard_off rfl rfl rfl ?_
        refine v_pick_f (v := .v (.bool false)) rfl rfl ?_
        refine v_move rfl ?_
        refine v_guard_off rfl rfl rfl ?_
        refine v_guard_off rfl rfl rfl ?_
        refine v_guard_off rfl rfl rfl ?_
        refine v_guard_off rfl rfl rfl ?_
        refine v_guard_off rfl rfl rfl ?_
        refine v_pick_f (v := .v (.bool false)) rfl rfl ?_
        refine v_move rfl ?_
        refine v_guard_off rfl rfl rfl ?_
        refine v_guard_off rfl rfl rfl ?_
        refine v_guard_off rfl rfl rfl ?_
        refine v_guard_off rfl rfl rfl ?_
        refine v_guard_off rfl rfl rfl ?_
        refine v_pick_f (v := .v (.bool false)) rfl rfl ?_
        refine v_assign rfl ?_
        refine v_nil ?_
        refine q_n ?_
        refine w_ret ?_
        refine r_r rfl ?_
        exact a_b (by simp only [Bool.false_eq_true, false_iff]; exact hN rfl)
      have hi1 : i < t.2.2.2.1.length := by omega
      refine v_move rfl ?_
      refine v_guard_on rfl rfl ?_
      refine v_move rfl ?_
      refine v_pick_t rfl rfl ?_
      refine v_nil ?_
      refine q_n ?_
      refine w_f rfl ?_
      refine w_exit ?_
      refine q_e ?_
      refine q_e ?_
      refine q_hit ?_
      refine q_n ?_
      refine w_seq ?_
      refine w_reg rfl ?_
      refine v_move rfl ?_
      refine v_move rfl ?_
      refine v_guard_off rfl rfl rfl ?_
      refine v_guard_off rfl rfl rfl ?_
      refine v_guard_off rfl rfl rfl ?_
      refine v_guard_off rfl rfl rfl ?_
      refine v_guard_off rfl rfl rfl ?_
      refine v_pick_f (v := .v (.bool false)) rfl rfl ?_
      refine v_move rfl ?_
      refine v_guard_off rfl rfl rfl ?_
      refine v_guard_off rfl rfl rfl ?_
      refine v_guard_off rfl rfl rfl ?_
      refine v_guard_off rfl rfl rfl ?_
      refine v_guard_off rfl rfl rfl ?_
      refine v_pick_f (v := .v (.bool false)) rfl rfl ?_
      refine v_move rfl ?_
      refine v_guard_off rfl rfl rfl ?_
      refine v_guard_off rfl rfl rfl ?_
      refine v_guard_off rfl rfl rfl ?_
      refine v_guard_off rfl rfl rfl ?_
      refine v_guard_off rfl rfl rfl ?_
      refine v_pick_f (v := .v (.bool false)) rfl rfl ?_
      refine v_assign rfl ?_
      refine v_nil ?_
      refine q_n ?_
      refine w_ret ?_
      refine r_r rfl ?_
      exact a_b (by simp only [Bool.false_eq_true, false_iff]; exact hN rfl)
    · skip
      refine w_seq ?_
      refine w_seq ?_
      refine w_reg rfl ?_
      refine v_move rfl ?_
      refine v_move rfl ?_
      refine v_nil_vw rfl ?_
      refine v_fa_vw (off' := 3) lay28 rfl rfl rfl ?_
      refine v_load_vw (.c (_)) lay26 rfl rfl rfl ?_
      refine v_len_sl lay26 rfl ?_
      refine v_lss lay3 rfl rfl (fun h7 => ?_) (fun h7 => ?_)
      · have hi1 : i < t.2.2.2.1.length := by omega
        refine v_move rfl ?_
        refine v_guard_on rfl rfl ?_
        refine v_move rfl ?_
        refine v_pick_t rfl rfl ?_
        refine v_nil ?_
        refine q_n ?_
        refine w_t rfl ?_
        refine w_skip ?_
        refine q_n ?_
        refine w_seq ?_
        refine w_block ?_
        refine w_reg rfl ?_
        refine v_move rfl ?_
        refine v_nil_vw rfl ?_
        refine v_fa_vw (off' := 3) lay28 rfl rfl rfl ?_
        refine v_load_vw (.c (_)) lay26 rfl rfl rfl ?_
        refine v_move rfl ?_
        refine v_idx_e (k := 3) (i) plc_len lay26 lay74 rfl rfl rfl (rfl) rfl (rfl) (hi1) ?_
        refine v_callb (cPlS _ _ _ (by have := hB.2.2.2.2.2 _ (List.getElem_mem hi1); omega)) rfl rfl (.cons vw_vw .nil) (fun h9 => ?_) (fun h9 => ?_)
        · have hpk := h9
          refine v_assign rfl ?_
          refine v_nil ?_
          refine q_bn ?_
          refine q_n ?_
          refine w_reg rfl ?_
          refine v_move rfl ?_
          refine v_add lay3 rfl rfl (i64r (by have q1 := hB.2.2.2.2.1; have q2 := hB.1; omega)) ?_
          refine v_assign rfl ?_
          refine v_nil ?_
          refine q_n ?_
          refine ⟨_, _, _, ?_, ⟨i + 1, true, rfl, by omega, fun _ => ⟨(hA rfl).1, all_step hi1 (hA rfl).2 hpk⟩, (fun h => by cases h), rfl, rfl⟩, by omega⟩
          exact turn0 ⟨tr_vw, tr_v, tr_v, trivial⟩
        have hpk := h9
        refine v_assign rfl ?_
        refine v_nil ?_
        refine q_bn ?_
        refine q_n ?_
        refine w_reg rfl ?_
        refine v_move rfl ?_
        refine v_add lay3 rfl rfl (i64r (by have q1 := hB.2.2.2.2.1; have q2 := hB.1; omega)) ?_
        refine v_assign rfl ?_
        refine v_nil ?_
        refine q_n ?_
        refine ⟨_, _, _, ?_, ⟨i + 1, false, rfl, by omega, (fun h => by cases h), fun _ ho => hpk (ho.2.1.2.2 _ (List.getElem_mem hi1)), rfl, rfl⟩, by omega⟩
        exact turn0 ⟨tr_vw, tr_v, tr_v, trivial⟩
      refine v_move rfl ?_
      refine v_guard_off rfl rfl rfl ?_
      refine v_pick_f (v := .v (.bool false)) rfl rfl ?_
      refine v_nil ?_
      refine q_n ?_
      refine w_f rfl ?_
      refine w_exit ?_
      refine q_e ?_
      refine q_e ?_
      refine q_hit ?_
      refine q_n ?_
      refine w_seq ?_
      refine w_reg rfl ?_
      refine v_move rfl ?_
      refine v_move rfl ?_
      refine v_guard_on rfl rfl ?_
      refine v_move rfl ?_
      refine v_guard_on rfl rfl ?_
      refine v_nil_vw rfl ?_
      refine v_guard_on rfl rfl ?_
      refine v_fa_vw (off' := 4) lay28 rfl rfl rfl ?_
      refine v_guard_on rfl rfl ?_
      refine v_load_vw (.c (.v _)) lay2 rfl rfl rfl ?_
      refine v_guard_on rfl rfl ?_
      refine v_callb (cIn _ _ _) rfl rfl (.cons vw_v (.cons vw_v (.cons vw_v .nil))) (fun h10 => ?_) (fun h10 => ?_)
      rotate_left
      · have htk := h10
        refine v_pick_t rfl rfl ?_
        refine v_move rfl ?_
        refine v_guard_off rfl rfl rfl ?_
        refine v_guard_off rfl rfl rfl ?_
        refine v_guard_off rfl rfl rfl ?_
        refine v_guard_off rfl rfl rfl ?_
        refine v_guard_off rfl rfl rfl ?_
        refine v_pick_f (v := .v (.bool false)) rfl rfl ?_
        refine v_move rfl ?_
        refine v_guard_off rfl rfl rfl ?_
        refine v_guard_off rfl rfl rfl ?_
        refine v_guard_off rfl rfl rfl ?_
        refine v_guard_off rfl rfl rfl ?_
        refine v_guard_off rfl rfl rfl ?_
        refine v_pick_f (v := .v (.bool false)) rfl rfl ?_
        refine v_assign rfl ?_
        refine v_nil ?_
        refine q_n ?_
        refine w_ret ?_
        refine r_r rfl ?_
        exact a_b (by simp only [Bool.false_eq_true, false_iff]; exact fun ho => htk ho.2.2.1)
      have htk := h10
      refine v_pick_t rfl rfl ?_
      refine v_move rfl ?_
      refine v_guard_on rfl rfl ?_
      refine v_move rfl ?_
      refine v_guard_on rfl rfl ?_
      refine v_nil_vw rfl ?_
      refine v_guard_on rfl rfl ?_
      refine v_fa_vw (off' := 5) lay28 rfl rfl rfl ?_
      refine v_guard_on rfl rfl ?_
      refine v_load_vw (.c (.f _ _)) lay22 rfl rfl rfl ?_
      refine v_guard_on rfl rfl ?_
      refine v_callb (cAmS _) rfl rfl (.cons vw_f .nil) (fun h11 => ?_) (fun h11 => ?_)
      rotate_left
      · have hca := h11
        refine v_pick_t rfl rfl ?_
        refine v_move rfl ?_
        refine v_guard_off rfl rfl rfl ?_
        refine v_guard_off rfl rfl rfl ?_
        refine v_guard_off rfl rfl rfl ?_
        refine v_guard_off rfl rfl rfl ?_
        refine v_guard_off rfl rfl rfl ?_
        refine v_pick_f (v := .v (.bool false)) rfl rfl ?_
        refine v_assign rfl ?_
        refine v_nil ?_
        refine q_n ?_
        refine w_ret ?_
        refine r_r rfl ?_
        exact a_b (by simp only [Bool.false_eq_true, false_iff]; exact fun ho => hca ho.2.2.2.1)
      have hca := h11
      refine v_pick_t rfl rfl ?_
      refine v_move rfl ?_
      refine v_guard_on rfl rfl ?_
      refine v_move rfl ?_
      refine v_guard_on rfl rfl ?_
      refine v_nil_vw rfl ?_
      refine v_guard_on rfl rfl ?_
      refine v_fa_vw (off' := 6) lay28 rfl rfl rfl ?_
      refine v_guard_on rfl rfl ?_
      refine v_load_vw (.c (.f _ _)) lay22 rfl rfl rfl ?_
      refine v_guard_on rfl rfl ?_
      refine v_callb (cAmS _) rfl rfl (.cons vw_f .nil) (fun h12 => ?_) (fun h12 => ?_)
      rotate_left
      · have hwe := h12
        refine v_pick_t rfl rfl ?_
        refine v_assign rfl ?_
        refine v_nil ?_
        refine q_n ?_
        refine w_ret ?_
        refine r_r rfl ?_
        exact a_b (by simp only [Bool.false_eq_true, false_iff]; exact fun ho => hwe ho.2.2.2.2)
      have hwe := h12
      refine v_pick_t rfl rfl ?_
      refine v_assign rfl ?_
      refine v_nil ?_
      refine q_n ?_
      refine w_ret ?_
      refine r_r rfl ?_
      obtain ⟨⟨q1, q2⟩, q3⟩ := hA rfl
      obtain rfl : i = t.2.2.2.1.length := by omega
      rw [List.take_length] at q3
      exact a_b (by simp only [true_iff]; exact ⟨hbn, ⟨q1, q2, q3⟩, htk, hca, hwe⟩)
  · skip
    refine w_seq ?_
    refine w_seq ?_
    refine w_reg rfl ?_
    refine v_move rfl ?_
    refine v_move rfl ?_
    refine v_nil_vw rfl ?_
    refine v_fa_vw (off' := 0) lay28 rfl rfl rfl ?_
    refine v_load_vw (.c (_)) lay23 rfl rfl rfl ?_
    refine v_len_sl lay23 rfl ?_
    refine v_lss lay3 rfl rfl (fun h20 => ?_) (fun h20 => ?_)
    · have i1 : i < t.1.length := by omega
      have hi1 := i1
      have i2 : i < t.2.1.length := by have := hbn.2.1; omega
      have i3 : i < (endT t).2.1.length := by rw [endT_len]; exact i1
      refine v_move rfl ?_
      refine v_guard_on rfl rfl ?_
      refine v_move rfl ?_
      refine v_pick_t rfl rfl ?_
      refine v_nil ?_
      refine q_n ?_
      refine w_t rfl ?_
      refine w_skip ?_
      refine q_n ?_
      refine w_seq ?_
      refine w_block ?_
      refine w_reg rfl ?_
      refine v_move rfl ?_
      refine v_nil_vw rfl ?_
      refine v_fa_vw (off' := 0) lay28 rfl rfl rfl ?_
      refine v_load_vw (.c (_)) lay23 rfl rfl rfl ?_
      refine v_move rfl ?_
      refine v_idx_e (k := 19) (i) rdc_len lay23 lay41 rfl rfl rfl (rfl) rfl (rfl) (i1) ?_
      refine v_callb (cRdS _ (hF.1 _ (List.getElem_mem hi1))) rfl rfl (.cons vw_vw .nil) (fun h22 => ?_) (fun h22 => ?_)
      rotate_left
      · have hro := h22
        refine v_move rfl ?_
        refine v_guard_off rfl rfl rfl ?_
        refine v_guard_off rfl rfl rfl ?_
        refine v_guard_off rfl rfl rfl ?_
        refine v_guard_off rfl rfl rfl ?_
        refine v_guard_off rfl rfl rfl ?_
        refine v_guard_off rfl rfl rfl ?_
        refine v_guard_off rfl rfl rfl ?_
        refine v_guard_off rfl rfl rfl ?_
        refine v_pick_f (v := .v (.bool false)) rfl rfl ?_
        refine v_move rfl ?_
        refine v_guard_off rfl rfl rfl ?_
        refine v_guard_off rfl rfl rfl ?_
        refine v_guard_off rfl rfl rfl ?_
        refine v_guard_off rfl rfl rfl ?_
        refine v_guard_off rfl rfl rfl ?_
        refine v_guard_off rfl rfl rfl ?_
        refine v_guard_un rfl rfl ?_
        refine v_guard_un rfl rfl ?_
        refine v_guard_un rfl rfl ?_
        refine v_guard_un rfl rfl ?_
        refine v_guard_un rfl rfl ?_
        refine v_guard_un rfl rfl ?_
        refine v_guard_un rfl rfl ?_
        refine v_guard_un rfl rfl ?_
        refine v_guard_off rfl rfl rfl ?_
        refine v_pick_f (v := .v (.bool false)) rfl rfl ?_
        refine v_assign rfl ?_
        refine v_nil ?_
        refine q_bn ?_
        refine q_n ?_
        refine w_reg rfl ?_
        refine v_move rfl ?_
        refine v_add lay3 rfl rfl (i64r (by have q1 := hB.2.2.2.2.1; have q2 := hB.1; omega)) ?_
        refine v_assign rfl ?_
        refine v_nil ?_
        refine q_n ?_
        refine ⟨_, _, _, ?_, ⟨i + 1, false, rfl, by omega, (fun h => by cases h), fun _ => rok_no i1 i2 i3 (fun h => by first | exact hro h.1 | exact ham h.2.1 | exact hfe (h.2.2 hou)), rfl, rfl⟩, by omega⟩
        exact turn0 ⟨tr_vw, tr_sl, tr_v, tr_v, trivial⟩
      have hro := h22
      refine v_move rfl ?_
      refine v_guard_on rfl rfl ?_
      refine v_move rfl ?_
      refine v_guard_on rfl rfl ?_
      refine v_nil_vw rfl ?_
      refine v_guard_on rfl rfl ?_
      refine v_fa_vw (off' := 1) lay28 rfl rfl rfl ?_
      refine v_guard_on rfl rfl ?_
      refine v_load_vw (.c (_)) lay24 rfl rfl rfl ?_
      refine v_guard_on rfl rfl ?_
      refine v_move rfl ?_
      refine v_guard_on rfl rfl ?_
      refine v_idx_e (k := 1) (i) fe_len lay24 lay22 rfl rfl rfl (rfl) rfl (rfl) (i2) ?_
      refine v_guard_on rfl rfl ?_
      refine v_load_vw (.c (.f _ _)) lay22 rfl rfl rfl ?_
      refine v_guard_on rfl rfl ?_
      refine v_callb (cAmS _) rfl rfl (.cons vw_f .nil) (fun h24 => ?_) (fun h24 => ?_)
      rotate_left
      · have ham := h24
        refine v_pick_t rfl rfl ?_
        refine v_move rfl ?_
        refine v_guard_off rfl rfl rfl ?_
        refine v_guard_off rfl rfl rfl ?_
        refine v_guard_off rfl rfl rfl ?_
        refine v_guard_off rfl rfl rfl ?_
        refine v_guard_off rfl rfl rfl ?_
        refine v_guard_off rfl rfl rfl ?_
        refine v_guard_un rfl rfl ?_
        refine v_guard_un rfl rfl ?_
        refine v_guard_un rfl rfl ?_
        refine v_guard_un rfl rfl ?_
        refine v_guard_un rfl rfl ?_
        refine v_guard_un rfl rfl ?_
        refine v_guard_un rfl rfl ?_
        refine v_guard_un rfl rfl ?_
        refine v_guard_off rfl rfl rfl ?_
        refine v_pick_f (v := .v (.bool false)) rfl rfl ?_
        refine v_assign rfl ?_
        refine v_nil ?_
        refine q_bn ?_
        refine q_n ?_
        refine w_reg rfl ?_
        refine v_move rfl ?_
        refine v_add lay3 rfl rfl (i64r (by have q1 := hB.2.2.2.2.1; have q2 := hB.1; omega)) ?_
        refine v_assign rfl ?_
        refine v_nil ?_
        refine q_n ?_
        refine ⟨_, _, _, ?_, ⟨i + 1, false, rfl, by omega, (fun h => by cases h), fun _ => rok_no i1 i2 i3 (fun h => by first | exact hro h.1 | exact ham h.2.1 | exact hfe (h.2.2 hou)), rfl, rfl⟩, by omega⟩
        exact turn0 ⟨tr_vw, tr_sl, tr_v, tr_v, trivial⟩
      have ham := h24
      refine v_pick_t rfl rfl ?_
      refine v_move rfl ?_
      refine v_guard_on rfl rfl ?_
      refine v_move rfl ?_
      refine v_guard_on rfl rfl ?_
      refine v_move rfl ?_
      refine v_guard_on rfl rfl ?_
      refine v_idx_e (k := 1) (i) bo_len lay64 lay4 rfl rfl rfl (rfl) rfl (rfl) (i3) ?_
      refine v_guard_on rfl rfl ?_
      refine v_load_vwb lay4 rfl rfl rfl (fun h26 => ?_) (fun h26 => ?_)
      rotate_left
      · have hou := h26
        refine v_guard_on rfl rfl ?_
        refine v_not true rfl rfl ?_
        refine v_guard_on rfl rfl ?_
        refine v_move rfl ?_
        refine v_guard_off rfl rfl rfl ?_
        refine v_guard_off rfl rfl rfl ?_
        refine v_guard_off rfl rfl rfl ?_
        refine v_guard_off rfl rfl rfl ?_
        refine v_guard_off rfl rfl rfl ?_
        refine v_guard_off rfl rfl rfl ?_
        refine v_guard_off rfl rfl rfl ?_
        refine v_guard_off rfl rfl rfl ?_
        refine v_guard_on rfl rfl ?_
        refine v_pick_t (v := .v (.bool true)) rfl rfl ?_
        refine v_pick_t rfl rfl ?_
        refine v_assign rfl ?_
        refine v_nil ?_
        refine q_bn ?_
        refine q_n ?_
        refine w_reg rfl ?_
        refine v_move rfl ?_
        refine v_add lay3 rfl rfl (i64r (by have q1 := hB.2.2.2.2.1; have q2 := hB.1; omega)) ?_
        refine v_assign rfl ?_
        refine v_nil ?_
        refine q_n ?_
        refine ⟨_, _, _, ?_, ⟨i + 1, true, rfl, by omega, fun _ => ⟨(hA rfl).1, fun q hq => ?_⟩, (fun h => by cases h), rfl, rfl⟩, by omega⟩
        · exact turn0 ⟨tr_vw, tr_sl, tr_v, tr_v, trivial⟩
        · rcases Nat.lt_or_eq_of_le (Nat.le_of_lt_succ hq) with h | rfl
          · exact (hA rfl).2 q h
          · exact rok_of i1 i2 i3 hro ham (fun h => by first | exact hfe | (rw [hou] at h; cases h))
      have hou := h26
      refine v_guard_on rfl rfl ?_
      refine v_not false rfl rfl ?_
      refine v_guard_on rfl rfl ?_
      refine v_move rfl ?_
      refine v_guard_on rfl rfl ?_
      refine v_move rfl ?_
      refine v_guard_on rfl rfl ?_
      refine v_nil_vw rfl ?_
      refine v_guard_on rfl rfl ?_
      refine v_fa_vw (off' := 1) lay28 rfl rfl rfl ?_
      refine v_guard_on rfl rfl ?_
      refine v_load_vw (.c (_)) lay24 rfl rfl rfl ?_
      refine v_guard_on rfl rfl ?_
      refine v_move rfl ?_
      refine v_guard_on rfl rfl ?_
      refine v_idx_e (k := 1) (i) fe_len lay24 lay22 rfl rfl rfl (rfl) rfl (rfl) (i2) ?_
      refine v_guard_on rfl rfl ?_
      refine v_load_vw (.c (.f _ _)) lay22 rfl rfl rfl ?_
      refine v_guard_on rfl rfl ?_
      refine v_binb lay22 rfl rfl rfl (fun h28 => ?_) (fun h28 => ?_)
      rotate_left
      · have hfe : ¬ feq t.2.1[i] := fun h => absurd (h28.symm.trans h) (by decide)
        refine v_guard_on rfl rfl ?_
        refine v_pick_f rfl rfl ?_
        refine v_pick_t rfl rfl ?_
        refine v_assign rfl ?_
        refine v_nil ?_
        refine q_bn ?_
        refine q_n ?_
        refine w_reg rfl ?_
        refine v_move rfl ?_
        refine v_add lay3 rfl rfl (i64r (by have q1 := hB.2.2.2.2.1; have q2 := hB.1; omega)) ?_
        refine v_assign rfl ?_
        refine v_nil ?_
        refine q_n ?_
        refine ⟨_, _, _, ?_, ⟨i + 1, false, rfl, by omega, (fun h => by cases h), fun _ => rok_no i1 i2 i3 (fun h => by first | exact hro h.1 | exact ham h.2.1 | exact hfe (h.2.2 hou)), rfl, rfl⟩, by omega⟩
        exact turn0 ⟨tr_vw, tr_sl, tr_v, tr_v, trivial⟩
      have hfe : feq t.2.1[i] := h28
      refine v_guard_on rfl rfl ?_
      refine v_pick_f rfl rfl ?_
      refine v_pick_t rfl rfl ?_
      refine v_assign rfl ?_
      refine v_nil ?_
      refine q_bn ?_
      refine q_n ?_
      refine w_reg rfl ?_
      refine v_move rfl ?_
      refine v_add lay3 rfl rfl (i64r (by have q1 := hB.2.2.2.2.1; have q2 := hB.1; omega)) ?_
      refine v_assign rfl ?_
      refine v_nil ?_
      refine q_n ?_
      refine ⟨_, _, _, ?_, ⟨i + 1, true, rfl, by omega, fun _ => ⟨(hA rfl).1, fun q hq => ?_⟩, (fun h => by cases h), rfl, rfl⟩, by omega⟩
      · exact turn0 ⟨tr_vw, tr_sl, tr_v, tr_v, trivial⟩
      · rcases Nat.lt_or_eq_of_le (Nat.le_of_lt_succ hq) with h | rfl
        · exact (hA rfl).2 q h
        · exact rok_of i1 i2 i3 hro ham (fun h => by first | exact hfe | (rw [hou] at h; cases h))
    refine v_move rfl ?_
    refine v_guard_off rfl rfl rfl ?_
    refine v_pick_f (v := .v (.bool false)) rfl rfl ?_
    refine v_nil ?_
    refine q_n ?_
    refine w_f rfl ?_
    refine w_exit ?_
    refine q_e ?_
    refine q_e ?_
    refine q_hit ?_
    refine q_n ?_
    refine w_seq ?_
    refine w_seq ?_
    refine w_reg rfl ?_
    refine v_assign (c := .v (.int .i64 0)) rfl ?_
    refine v_nil ?_
    refine q_n ?_
    refine w_block ?_
    refine w_loop (fun k sl H => ∃ (i : Nat) (acc : Bool), k = t.2.2.2.1.length - i ∧ i ≤ t.2.2.2.1.length ∧ (acc = true → ((endT t).2.2 = true ∧ ∀ q, q < t.1.length → rOkT t q) ∧ ∀ p ∈ t.2.2.2.1.take i, okP p.1 p.2.1 p.2.2) ∧ (acc = false → ¬ townOk t) ∧ sl = sls [(0, .c (.vw false (twf true t) 0)), (5, cB acc), (7, cI i)] ∧ H = []) ?_ ?_
    · refine ⟨_, _, _, ?_, 0, true, rfl, Nat.zero_le _, (fun _ => ⟨⟨(hA rfl).1, fun q hq => (hA rfl).2 q (by omega)⟩, by simp⟩), (fun h => by cases h), rfl, rfl⟩
      exact turn0 ⟨tr_vw, tr_v, tr_v, trivial⟩
    rintro k sl H ⟨i, acc, rfl, hi, hA, hN, rfl, rfl⟩
    rcases acc with _ | _
    · skip
      refine w_seq ?_
      refine w_seq ?_
      refine w_reg rfl ?_
      refine v_move rfl ?_
      refine v_move rfl ?_
      refine v_nil_vw rfl ?_
      refine v_fa_vw (off' := 3) lay28 rfl rfl rfl ?_
      refine v_load_vw (.c (_)) lay26 rfl rfl rfl ?_
      refine v_len_sl lay26 rfl ?_
      refine v_lss lay3 rfl rfl (fun h29 => ?_) (fun h29 => ?_)
      rotate_left
      · refine v_move rfl ?_
        refine v_guard_off rfl rfl rfl ?_
        refine v_pick_f (v := .v (.bool false)) rfl rfl ?_
        refine v_nil ?_
        refine q_n ?_
        refine w_f rfl ?_
        refine w_exit ?_
        refine q_e ?_
        refine q_e ?_
        refine q_hit ?_
        refine q_n ?_
        refine w_seq ?_
        refine w_reg rfl ?_
        refine v_move rfl ?_
        refine v_move rfl ?_
        refine v_guard_off rfl rfl rfl ?_
        refine v_guard_off rfl rfl rfl ?_
        refine v_guard_off rfl rfl rfl ?_
        refine v_guard_off rfl rfl rfl ?_
        refine v_guard_off rfl rfl rfl ?_
        refine v_pick_f (v := .v (.bool false)) rfl rfl ?_
        refine v_move rfl ?_
        refine v_guard_off rfl rfl rfl ?_
        refine v_guard_off rfl rfl rfl ?_
        refine v_guard_off rfl rfl rfl ?_
        refine v_guard_off rfl rfl rfl ?_
        refine v_guard_off rfl rfl rfl ?_
        refine v_pick_f (v := .v (.bool false)) rfl rfl ?_
        refine v_move rfl ?_
        refine v_guard_off rfl rfl rfl ?_
        refine v_guard_off rfl rfl rfl ?_
        refine v_guard_off rfl rfl rfl ?_
        refine v_guard_off rfl rfl rfl ?_
        refine v_guard_off rfl rfl rfl ?_
        refine v_pick_f (v := .v (.bool false)) rfl rfl ?_
        refine v_assign rfl ?_
        refine v_nil ?_
        refine q_n ?_
        refine w_ret ?_
        refine r_r rfl ?_
        exact a_b (by simp only [Bool.false_eq_true, false_iff]; exact hN rfl)
      have hi1 : i < t.2.2.2.1.length := by omega
      refine v_move rfl ?_
      refine v_guard_on rfl rfl ?_
      refine v_move rfl ?_
      refine v_pick_t rfl rfl ?_
      refine v_nil ?_
      refine q_n ?_
      refine w_f rfl ?_
      refine w_exit ?_
      refine q_e ?_
      refine q_e ?_
      refine q_hit ?_
      refine q_n ?_
      refine w_seq ?_
      refine w_reg rfl ?_
      refine v_move rfl ?_
      refine v_move rfl ?_
      refine v_guard_off rfl rfl rfl ?_
      refine v_guard_off rfl rfl rfl ?_
      refine v_guard_off rfl rfl rfl ?_
      refine v_guard_off rfl rfl rfl ?_
      refine v_guard_off rfl rfl rfl ?_
      refine v_pick_f (v := .v (.bool false)) rfl rfl ?_
      refine v_move rfl ?_
      refine v_guard_off rfl rfl rfl ?_
      refine v_guard_off rfl rfl rfl ?_
      refine v_guard_off rfl rfl rfl ?_
      refine v_guard_off rfl rfl rfl ?_
      refine v_guard_off rfl rfl rfl ?_
      refine v_pick_f (v := .v (.bool false)) rfl rfl ?_
      refine v_move rfl ?_
      refine v_guard_off rfl rfl rfl ?_
      refine v_guard_off rfl rfl rfl ?_
      refine v_guard_off rfl rfl rfl ?_
      refine v_guard_off rfl rfl rfl ?_
      refine v_guard_off rfl rfl rfl ?_
      refine v_pick_f (v := .v (.bool false)) rfl rfl ?_
      refine v_assign rfl ?_
      refine v_nil ?_
      refine q_n ?_
      refine w_ret ?_
      refine r_r rfl ?_
      exact a_b (by simp only [Bool.false_eq_true, false_iff]; exact hN rfl)
    · skip
      refine w_seq ?_
      refine w_seq ?_
      refine w_reg rfl ?_
      refine v_move rfl ?_
      refine v_move rfl ?_
      refine v_nil_vw rfl ?_
      refine v_fa_vw (off' := 3) lay28 rfl rfl rfl ?_
      refine v_load_vw (.c (_)) lay26 rfl rfl rfl ?_
      refine v_len_sl lay26 rfl ?_
      refine v_lss lay3 rfl rfl (fun h30 => ?_) (fun h30 => ?_)
      · have hi1 : i < t.2.2.2.1.length := by omega
        refine v_move rfl ?_
        refine v_guard_on rfl rfl ?_
        refine v_move rfl ?_
        refine v_pick_t rfl rfl ?_
        refine v_nil ?_
        refine q_n ?_
        refine w_t rfl ?_
        refine w_skip ?_
        refine q_n ?_
        refine w_seq ?_
        refine w_block ?_
        refine w_reg rfl ?_
        refine v_move rfl ?_
        refine v_nil_vw rfl ?_
        refine v_fa_vw (off' := 3) lay28 rfl rfl rfl ?_
        refine v_load_vw (.c (_)) lay26 rfl rfl rfl ?_
        refine v_move rfl ?_
        refine v_idx_e (k := 3) (i) plc_len lay26 lay74 rfl rfl rfl (rfl) rfl (rfl) (hi1) ?_
        refine v_callb (cPlS _ _ _ (by have := hB.2.2.2.2.2 _ (List.getElem_mem hi1); omega)) rfl rfl (.cons vw_vw .nil) (fun h32 => ?_) (fun h32 => ?_)
        · have hpk := h32
          refine v_assign rfl ?_
          refine v_nil ?_
          refine q_bn ?_
          refine q_n ?_
          refine w_reg rfl ?_
          refine v_move rfl ?_
          refine v_add lay3 rfl rfl (i64r (by have q1 := hB.2.2.2.2.1; have q2 := hB.1; omega)) ?_
          refine v_assign rfl ?_
          refine v_nil ?_
          refine q_n ?_
          refine ⟨_, _, _, ?_, ⟨i + 1, true, rfl, by omega, fun _ => ⟨(hA rfl).1, all_step hi1 (hA rfl).2 hpk⟩, (fun h => by cases h), rfl, rfl⟩, by omega⟩
          exact turn0 ⟨tr_vw, tr_v, tr_v, trivial⟩
        have hpk := h32
        refine v_assign rfl ?_
        refine v_nil ?_
        refine q_bn ?_
        refine q_n ?_
        refine w_reg rfl ?_
        refine v_move rfl ?_
        refine v_add lay3 rfl rfl (i64r (by have q1 := hB.2.2.2.2.1; have q2 := hB.1; omega)) ?_
        refine v_assign rfl ?_
        refine v_nil ?_
        refine q_n ?_
        refine ⟨_, _, _, ?_, ⟨i + 1, false, rfl, by omega, (fun h => by cases h), fun _ ho => hpk (ho.2.1.2.2 _ (List.getElem_mem hi1)), rfl, rfl⟩, by omega⟩
        exact turn0 ⟨tr_vw, tr_v, tr_v, trivial⟩
      refine v_move rfl ?_
      refine v_guard_off rfl rfl rfl ?_
      refine v_pick_f (v := .v (.bool false)) rfl rfl ?_
      refine v_nil ?_
      refine q_n ?_
      refine w_f rfl ?_
      refine w_exit ?_
      refine q_e ?_
      refine q_e ?_
      refine q_hit ?_
      refine q_n ?_
      refine w_seq ?_
      refine w_reg rfl ?_
      refine v_move rfl ?_
      refine v_move rfl ?_
      refine v_guard_on rfl rfl ?_
      refine v_move rfl ?_
      refine v_guard_on rfl rfl ?_
      refine v_nil_vw rfl ?_
      refine v_guard_on rfl rfl ?_
      refine v_fa_vw (off' := 4) lay28 rfl rfl rfl ?_
      refine v_guard_on rfl rfl ?_
      refine v_load_vw (.c (.v _)) lay2 rfl rfl rfl ?_
      refine v_guard_on rfl rfl ?_
      refine v_callb (cIn _ _ _) rfl rfl (.cons vw_v (.cons vw_v (.cons vw_v .nil))) (fun h33 => ?_) (fun h33 => ?_)
      rotate_left
      · have htk := h33
        refine v_pick_t rfl rfl ?_
        refine v_move rfl ?_
        refine v_guard_off rfl rfl rfl ?_
        refine v_guard_off rfl rfl rfl ?_
        refine v_guard_off rfl rfl rfl ?_
        refine v_guard_off rfl rfl rfl ?_
        refine v_guard_off rfl rfl rfl ?_
        refine v_pick_f (v := .v (.bool false)) rfl rfl ?_
        refine v_move rfl ?_
        refine v_guard_off rfl rfl rfl ?_
        refine v_guard_off rfl rfl rfl ?_
        refine v_guard_off rfl rfl rfl ?_
        refine v_guard_off rfl rfl rfl ?_
        refine v_guard_off rfl rfl rfl ?_
        refine v_pick_f (v := .v (.bool false)) rfl rfl ?_
        refine v_assign rfl ?_
        refine v_nil ?_
        refine q_n ?_
        refine w_ret ?_
        refine r_r rfl ?_
        exact a_b (by simp only [Bool.false_eq_true, false_iff]; exact fun ho => htk ho.2.2.1)
      have htk := h33
      refine v_pick_t rfl rfl ?_
      refine v_move rfl ?_
      refine v_guard_on rfl rfl ?_
      refine v_move rfl ?_
      refine v_guard_on rfl rfl ?_
      refine v_nil_vw rfl ?_
      refine v_guard_on rfl rfl ?_
      refine v_fa_vw (off' := 5) lay28 rfl rfl rfl ?_
      refine v_guard_on rfl rfl ?_
      refine v_load_vw (.c (.f _ _)) lay22 rfl rfl rfl ?_
      refine v_guard_on rfl rfl ?_
      refine v_callb (cAmS _) rfl rfl (.cons vw_f .nil) (fun h34 => ?_) (fun h34 => ?_)
      rotate_left
      · have hca := h34
        refine v_pick_t rfl rfl ?_
        refine v_move rfl ?_
        refine v_guard_off rfl rfl rfl ?_
        refine v_guard_off rfl rfl rfl ?_
        refine v_guard_off rfl rfl rfl ?_
        refine v_guard_off rfl rfl rfl ?_
        refine v_guard_off rfl rfl rfl ?_
        refine v_pick_f (v := .v (.bool false)) rfl rfl ?_
        refine v_assign rfl ?_
        refine v_nil ?_
        refine q_n ?_
        refine w_ret ?_
        refine r_r rfl ?_
        exact a_b (by simp only [Bool.false_eq_true, false_iff]; exact fun ho => hca ho.2.2.2.1)
      have hca := h34
      refine v_pick_t rfl rfl ?_
      refine v_move rfl ?_
      refine v_guard_on rfl rfl ?_
      refine v_move rfl ?_
      refine v_guard_on rfl rfl ?_
      refine v_nil_vw rfl ?_
      refine v_guard_on rfl rfl ?_
      refine v_fa_vw (off' := 6) lay28 rfl rfl rfl ?_
      refine v_guard_on rfl rfl ?_
      refine v_load_vw (.c (.f _ _)) lay22 rfl rfl rfl ?_
      refine v_guard_on rfl rfl ?_
      refine v_callb (cAmS _) rfl rfl (.cons vw_f .nil) (fun h35 => ?_) (fun h35 => ?_)
      rotate_left
      · have hwe := h35
        refine v_pick_t rfl rfl ?_
        refine v_assign rfl ?_
        refine v_nil ?_
        refine q_n ?_
        refine w_ret ?_
        refine r_r rfl ?_
        exact a_b (by simp only [Bool.false_eq_true, false_iff]; exact fun ho => hwe ho.2.2.2.2)
      have hwe := h35
      refine v_pick_t rfl rfl ?_
      refine v_assign rfl ?_
      refine v_nil ?_
      refine q_n ?_
      refine w_ret ?_
      refine r_r rfl ?_
      obtain ⟨⟨q1, q2⟩, q3⟩ := hA rfl
      obtain rfl : i = t.2.2.2.1.length := by omega
      rw [List.take_length] at q3
      exact a_b (by simp only [true_iff]; exact ⟨hbn, ⟨q1, q2, q3⟩, htk, hca, hwe⟩)
end Go.VL
namespace Go.VL
open Go.RowKit
set_option maxRecDepth 20000
set_option maxHeartbeats 8000000
/-! Towns that are live: marks -/
def fl (x : Int) : Option Nat := some (FloatKind.f32.nearest x)
theorem fl_ok (x : Int) : okF .f32 (fl x) := okF_near x
def fmark (a : Int) (i : Nat) : Option Nat := fl (a + i)
def rmark (a : Int) (i : Nat) : Rd := (fun j => fl (a + 19 * i + j.val), fl (a + 19 * i + 16), fl (a + 19 * i + 17), fl (a + 19 * i + 18))
theorem marks_at {α : Type} {f : Nat → α} {i : Nat} {xs : List α} (h : i < xs.length) (h' : i < (marks f i xs).length) : (marks f i xs)[i] = xs[i] := by
  have e : (marks f i xs)[i]? = some xs[i] := by
    unfold marks
    rw [List.getElem?_append_right (by simp)]
    simp [h]
  exact Option.some.inj ((List.getElem?_eq_getElem h').symm.trans e)
/-- In the midst of a road. -/
def rmid (a : Int) (i j : Nat) (xs : List Rd) (s : Rd) : List Rd := (marks (rmark a) i xs).set i (mixF j (rmark a i).1 s.1, s.2)
theorem rmid_len {a : Int} {i j : Nat} {xs : List Rd} {s : Rd} (h : i < xs.length) : (rmid a i j xs s).length = xs.length := by unfold rmid; rw [List.length_set, marks_len (by omega)]
theorem rmid_get {a : Int} {i j : Nat} {xs : List Rd} {s : Rd} (h : i < (rmid a i j xs s).length) : (rmid a i j xs s)[i] = (mixF j (rmark a i).1 s.1, s.2) := List.getElem_set_self h
theorem rmid_0 {a : Int} {i : Nat} {xs : List Rd} (h : i < xs.length) : rmid a i 0 xs xs[i] = marks (rmark a) i xs := by
  unfold rmid
  rw [mixF_0]
  have h' : i < (marks (rmark a) i xs).length := by rw [marks_len (by omega)]; exact h
  have e : ((xs[i].1, xs[i].2) : Rd) = (marks (rmark a) i xs)[i] := by rw [marks_at h h']
  rw [e, List.set_getElem_self]
theorem rmid_step {a : Int} {i j : Nat} {xs : List Rd} {s : Rd} (hj : j < 16) : (rmid a i j xs s).set i (putF (mixF j (rmark a i).1 s.1) j (fl (a + 19 * i + j)), s.2) = rmid a i (j + 1) xs s := by
  unfold rmid
  rw [List.set_set, ← mixF_put _ _ hj]
  rfl
theorem rmid_end {a : Int} {i : Nat} {xs : List Rd} {s y z : Rd} {u v w : Int} (h : i < xs.length) (hu : u = a + 19 * i + 16) (hv : v = a + 19 * i + 17) (hw : w = a + 19 * i + 18) : (((rmid a i 16 xs s).set i y).set i z).set i ((rmark a i).1, fl u, fl v, fl w) = marks (rmark a) (i + 1) xs := by
  unfold rmid
  rw [List.set_set, List.set_set, List.set_set, hu, hv, hw]
  exact marks_step (f := rmark a) h
theorem rd_put (s : Rd) {j : Nat} (hj : j < 16) (b : Option Nat) : rdc (putF s.1 j b, s.2) = setCells (rdc s) (0 + j * 1) [.f .f32 b] := by
  rw [show 0 + j * 1 = j by omega]
  exact (cac_set s.1 [.f .f32 s.2.1, .f .f32 s.2.2.1, .f .f32 s.2.2.2] hj b).symm
theorem rd_get (s : Rd) {j : Nat} (hj : j < 16) : mkV false (reowns false (sub (rdc s) (0 + j * 1) 1)) = some (.c (.f .f32 (s.1 ⟨j, hj⟩))) := by
  have e : sub (rdc s) (0 + j * 1) 1 = [.f .f32 (s.1 ⟨j, hj⟩)] := by
    rw [show 0 + j * 1 = j by omega]
    exact cac_sub s.1 [.f .f32 s.2.1, .f .f32 s.2.2.1, .f .f32 s.2.2.2] hj
  rw [e]
  rfl
abbrev imk (a : Int) (ts : List Int) : List Int := (List.range ts.length).map (imark a)
/-- How joints lie, their ins and outs behind them. -/
def JN : Nest Jo := ⟨2, 25, fun N j => [.v (.int .i64 j.1.1), .v (.int .i64 j.1.2.1), .f .f32 (j.1.2.2.1 0 0), .f .f32 (j.1.2.2.1 0 1), .f .f32 (j.1.2.2.1 0 2), .f .f32 (j.1.2.2.1 0 3), .f .f32 (j.1.2.2.1 1 0), .f .f32 (j.1.2.2.1 1 1), .f .f32 (j.1.2.2.1 1 2), .f .f32 (j.1.2.2.1 1 3), .f .f32 (j.1.2.2.1 2 0), .f .f32 (j.1.2.2.1 2 1), .f .f32 (j.1.2.2.1 2 2), .f .f32 (j.1.2.2.1 2 3), .f .f32 (j.1.2.2.1 3 0), .f .f32 (j.1.2.2.1 3 1), .f .f32 (j.1.2.2.1 3 2), .f .f32 (j.1.2.2.1 3 3), .f .f32 (j.1.2.2.2 0), .f .f32 (j.1.2.2.2 1), .f .f32 (j.1.2.2.2 2), .f .f32 (j.1.2.2.2 3),
  .mu N 0 j.2.1.length 1, .mu (N + 1) 0 j.2.2.1.length 1, .v (.int .i64 j.2.2.2)], fun j => [⟨flat int j.2.1, 2, true⟩, ⟨flat int j.2.2.1, 2, true⟩], joc⟩
theorem JN_ok : JN.Ok where
  ks _ := rfl
  cl _ _ := rfl
  fl _ := rfl
  dn h := (.cons .v (.cons .v (.cons .f (.cons .f (.cons .f (.cons .f (.cons .f (.cons .f (.cons .f (.cons .f (.cons .f (.cons .f (.cons .f (.cons .f (.cons .f (.cons .f (.cons .f (.cons .f (.cons .f (.cons .f (.cons .f (.cons .f (.cons (dn_flat int_sc int_len (h 0 _ rfl).1 (h 0 _ rfl).2 rfl) (.cons (dn_flat int_sc int_len (h 1 _ rfl).1 (h 1 _ rfl).2 rfl) (.cons .v .nil)))))))))))))))))))))))))
  live x o ho := by
    simp only [JN, List.mem_cons, List.not_mem_nil, or_false] at ho
    rcases ho with rfl | rfl <;> rfl
  sc x o ho c hc := by
    simp only [JN, List.mem_cons, List.not_mem_nil, or_false] at ho
    rcases ho with rfl | rfl <;> exact sc_flat int_sc _ c hc
  tr h := (.cons tr_v (.cons tr_v (.cons tr_f (.cons tr_f (.cons tr_f (.cons tr_f (.cons tr_f (.cons tr_f (.cons tr_f (.cons tr_f (.cons tr_f (.cons tr_f (.cons tr_f (.cons tr_f (.cons tr_f (.cons tr_f (.cons tr_f (.cons tr_f (.cons tr_f (.cons tr_f (.cons tr_f (.cons tr_f (.cons (tr_mu (h 0 (by decide))) (.cons (tr_mu (h 1 (by decide))) (.cons tr_v .nil)))))))))))))))))))))))))
  cc {N n x} h c hc := List.all_eq_true.1 (show (JN.cells N x).all (clC n) = true by
    have h2 : N + 2 ≤ n := h
    simp only [JN, List.all_cons, List.all_nil, clC, Bool.and_true, Bool.true_and, Bool.and_eq_true, decide_eq_true_eq]
    omega) c hc
  ans {N x} c hc := List.all_eq_true.1 (show (JN.cells N x).all ansC = true from rfl) c hc
  sh := rfl
abbrev zJ : Jo := ((0, 0, fun _ _ => some 0, fun _ => some 0), [], [], 0)
def jA (a : Int) (js : List Jo) : Nat → Int
  | 0 => a
  | i + 1 => jA a js i + 7 + (js.getD i zJ).2.1.length + (js.getD i zJ).2.2.1.length
/-- A joint behind its marks. -/
def jmk (a : Int) (j : Jo) : Jo := ((a, a + 1, j.1.2.2.1, fun p => fl (a + 2 + p.val)), imk (a + 6) j.2.1, imk (a + 6 + j.2.1.length) j.2.2.1, a + 6 + j.2.1.length + j.2.2.1.length)
def jmf (a : Int) (js : List Jo) (i : Nat) : Jo := jmk (jA a js i) (js.getD i zJ)
abbrev jmks (a : Int) (js : List Jo) : List Jo := (List.range js.length).map (jmf a js)
theorem jgd {js : List Jo} {i : Nat} (h : i < js.length) : js.getD i zJ = js[i] := by
  rw [List.getD_eq_getElem?_getD, List.getElem?_eq_getElem h]
  rfl
theorem jA_rng {a : Int} {js : List Jo} (hJ : ∀ j ∈ js, j.2.1.length ≤ 2 ^ 20 ∧ j.2.2.1.length ≤ 2 ^ 20) : ∀ {i : Nat}, i ≤ js.length → a ≤ jA a js i ∧ jA a js i ≤ a + 4194304 * i
  | 0, _ => by simp [jA]
  | i + 1, h => by
    have := jA_rng (a := a) hJ (i := i) (by omega)
    have h2 := hJ _ (List.getElem_mem (show i < js.length by omega))
    rw [jA, jgd (by omega)]
    omega
theorem jA_step {a : Int} {js : List Jo} {i : Nat} (h : i < js.length) : jA a js (i + 1) = jA a js i + 7 + js[i].2.1.length + js[i].2.2.1.length := by rw [jA, jgd h]
theorem jst {D : List Jo} {i N off : Nat} {x y : Jo} {c : C} {t : TypeId} (h : i < D.length) (e : N = i * 25 + off) (hb : off + 1 ≤ 25) (hc : ∀ M, setCells (JN.cells M x) off [c] = JN.cells M y) (hk : JN.ks y = JN.ks x) : List.set (rowN JN t (D.set i x)) 0 ⟨setCells (refsN JN 1 (D.set i x)) N [c], t, true⟩ = rowN JN t (D.set i y) := by
  subst e
  have h' : i < (D.set i x).length := by rw [List.length_set]; exact h
  have e1 : setCells (refsN JN 1 (D.set i x)) (i * 25 + off) [c] = refsN JN 1 ((D.set i x).set i y) := rowN_store JN_ok h' hb fun M => by rw [List.getElem_set_self]; exact hc M
  have e2 : kidsN JN ((D.set i x).set i y) = kidsN JN (D.set i x) := kidsN_same h' (by rw [List.getElem_set_self]; exact hk)
  rw [List.set_set] at e1 e2
  rw [List.set_cons_zero, e1, ← e2]
theorem jbd {D : List Jo} {i N off : Nat} {x : Jo} (h : i < D.length) (e : N = i * 25 + off) (hb : off + 1 ≤ 25) : N + 1 ≤ (refsN JN 1 (D.set i x)).length := by
  rw [refsN_len JN_ok, List.length_set]
  show _ ≤ _ * 25
  omega
theorem jld {D : List Jo} {i N off : Nat} {x : Jo} {v : V} (h : i < D.length) (e : N = i * 25 + off) (hb : off + 1 ≤ 25) (hv : mkV false (sub (JN.cells (1 + 2 * i) x) off 1) = some v) : mkV false (sub (refsN JN 1 (D.set i x)) N 1) = some v := by
  subst e
  have h' : i < (D.set i x).length := by rw [List.length_set]; exact h
  have e1 : sub (refsN JN 1 (D.set i x)) (i * 25 + off) 1 = sub (JN.cells (1 + 2 * i) (D.set i x)[i]) off 1 := rowN_sub JN_ok h' hb
  rw [e1, List.getElem_set_self]
  exact hv
theorem jkid {D : List Jo} {i q : Nat} {x : Jo} {t : TypeId} {ob : Ob} (h : i < D.length) (hq : q < 2) (hk : (JN.ks x)[q]? = some ob) : (rowN JN t (D.set i x))[1 + 2 * i + q]? = some ob := by
  have h' : i < (D.set i x).length := by rw [List.length_set]; exact h
  rw [show 1 + 2 * i + q = (2 * i + q) + 1 by omega, List.getElem?_cons_succ]
  have := kidsN_at JN_ok (xs := D.set i x) (i := i) (j := q) h' hq
  rw [List.getElem_set_self] at this
  exact this.trans hk
theorem jkset {D : List Jo} {i q : Nat} {x y : Jo} {t : TypeId} {ob : Ob} (h : i < D.length) (hq : q < 2) (hk : JN.ks y = (JN.ks x).set q ob) (hc : ∀ M, JN.cells M y = JN.cells M x) : (rowN JN t (D.set i x)).set (1 + 2 * i + q) ob = rowN JN t (D.set i y) := by
  have h' : i < (D.set i x).length := by rw [List.length_set]; exact h
  have e1 : (kidsN JN (D.set i x)).set (2 * i + q) ob = kidsN JN ((D.set i x).set i y) := kidsN_set JN_ok h' hq (by rw [List.getElem_set_self]; exact hk)
  have e2 : refsN JN 1 ((D.set i x).set i y) = refsN JN 1 (D.set i x) := refsN_same (P := JN) h' fun M => by rw [List.getElem_set_self]; exact hc M
  rw [List.set_set] at e1 e2
  rw [show 1 + 2 * i + q = (2 * i + q) + 1 by omega, List.set_cons_succ, e1, ← e2]
theorem jpr_set (j : Jo) {p M : Nat} (hp : p < 4) (b : Option Nat) : setCells (JN.cells M j) (18 + p) [.f .f32 b] = JN.cells M ((j.1.1, j.1.2.1, j.1.2.2.1, putF j.1.2.2.2 p b), j.2) := by
  match p, hp with
  | 0, _ => rfl
  | 1, _ => rfl
  | 2, _ => rfl
  | 3, _ => rfl
theorem jrow_0 {D : List Jo} {i : Nat} {x : Jo} (h : i < D.length) (e : D[i] = x) : D.set i x = D := by
  subst e
  exact List.set_getElem_self h
section
variable {X : Cx} {all r : List Oper} {K : Sl → List Ob → Prop} {sl : Sl} {H : List Ob} {d : Tmp} {ty : TypeId} {ps : String} {af : Array Edge}
theorem v_load_at {t : TypeId} {x : Operand} {L : Lay} {id off : Nat} {ocs : List C} {tt : TypeId} (v : V) (hL : X.lay t = some L) (hx : rho X.G sl x = .c (.pt id off)) (ho : H[id]? = some ⟨ocs, tt, true⟩) (hb : off + L.size ≤ ocs.length) (hv : mkV L.kind.agg (sub ocs off L.size) = some v) (h : vops X all r K (upd sl d v) H) : vops X all (⟨some d, .load t x, ty, ps, af, none⟩ :: r) K sl H := by
  refine v_q v rfl ?_ h
  simp only [evq, hL, hx, ho]
  rw [if_pos ⟨trivial, hb⟩, hv]
theorem v_store_at {t : TypeId} {a x : Operand} {L : Lay} {id off : Nat} {cs ocs : List C} {tt : TypeId} {H' : List Ob} (hL : X.lay t = some L) (ha : rho X.G sl a = .c (.pt id off)) (hx : (rho X.G sl x).cells = some cs) (ho : H[id]? = some ⟨ocs, tt, true⟩)
    (hl : cs.length = L.size) (hb : off + L.size ≤ ocs.length) (hH : H.set id ⟨setCells ocs off cs, tt, true⟩ = H') (h : vops X all r K sl H') : vops X all (⟨none, .store t a x, ty, ps, af, none⟩ :: r) K sl H := by
  refine v_e (f := ⟨.any, H', True⟩) rfl rfl ?_ trivial rfl rfl h
  simp only [eve, hL, ha, hx, ho]
  rw [if_pos ⟨trivial, hl, hb⟩, hH]
end
theorem nodup_ids {M : Nat} : ∀ {n : Nat}, nodupO (ids M n) = true := by
  intro n
  induction n generalizing M with
  | zero => rfl
  | succ n ih =>
    have e : ids M (n + 1) = some M :: ids (M + 1) n := by
      unfold ids
      rw [List.range_succ_eq_map, List.map_cons, List.map_map]
      congr 1
      refine List.map_congr_left fun i _ => ?_
      simp only [Function.comp, Nat.succ_eq_add_one]
      congr 1
      omega
    rw [e]
    simp only [nodupO, Bool.and_eq_true, Bool.not_eq_true', List.contains_eq_mem, decide_eq_false_iff_not]
    refine ⟨fun h => ?_, ih⟩
    obtain ⟨i, -, hi⟩ := List.mem_map.1 h
    simp only [Option.some.injEq] at hi
    omega
theorem ids_cons (M n : Nat) : ids M (n + 1) = some M :: ids (M + 1) n := by
  unfold ids
  rw [List.range_succ_eq_map, List.map_cons, List.map_map]
  congr 1
  refine List.map_congr_left fun i _ => ?_
  simp only [Function.comp, Nat.succ_eq_add_one]
  congr 1
  omega
theorem lt_ids {n m : Nat} (h : n ≤ m) : ((ids 0 n).all fun x => match x with | some i => Nat.blt i m | none => true) = true := by
  refine List.all_eq_true.2 fun x hx => ?_
  obtain ⟨i, hi, rfl⟩ := List.mem_map.1 hx
  have := List.mem_range.1 hi
  exact Nat.ble_eq_true_of_le (by omega)
theorem fix_ids {n : Nat} : ∀ {m : Nat}, m ≤ n → fixO (ids 0 n) m = true
  | 0, _ => rfl
  | m + 1, h => by
    have e : (ids 0 n)[m]? = some (some m) := by rw [ids_at (n := n) (i := m) (by omega), Nat.zero_add]
    show ((ids 0 n)[m]? == some (some m) && fixO (ids 0 n) m) = true
    rw [e, fix_ids (n := n) (m := m) (by omega)]
    simp
theorem turnp_of {H : List Ob} {g : List (Option Nat)} : ∀ {gs : List (Option Nat)} {os : List Ob}, TurnO H g gs os → TurnP H g gs os
  | [], [], _ => trivial
  | none :: _, _ :: _, h => ⟨fun _ => h.1, turnp_of h.2⟩
  | some _ :: _, _ :: _, h => ⟨fun _ => h.1, turnp_of h.2⟩
  | [], _ :: _, h => h.elim
  | none :: _, [], h => h.elim
  | some _ :: _, [], h => h.elim
theorem turn_row {js : List Jo} {n : Nat} {t : TypeId} {B : List Ob} (hn : 2 * js.length + 1 = n) : TurnO (rowN JN t js ++ B) (ids 0 n) (ids 0 n) (rowN JN t js) := by
  subst hn
  rw [ids_cons, Nat.zero_add]
  exact turn_rowN JN_ok rfl
/-- The objects of a town without plans. -/
abbrev FT (rs : List Rd) (os : List (Option Nat)) (js : List Jo) : List Ob := ⟨flat rdc rs, 41, true⟩ :: ⟨flat fe os, 22, true⟩ :: ⟨[], 74, true⟩ :: seg 3 (rowN JN 53 js)
abbrev fta (n m q : Nat) (tk : Int) (x y : Option Nat) : List C := [.mu 0 0 n 19, .mu 1 0 m 1, .mu 3 0 q 25, .mu 2 0 0 3, .v (.int .i64 tk), .f .f32 x, .f .f32 y]
theorem FT_len (rs : List Rd) (os : List (Option Nat)) (js : List Jo) : (FT rs os js).length = 2 * js.length + 4 := by
  show (List.map _ (rowN JN 53 js)).length + 1 + 1 + 1 = _
  rw [List.length_map, rowN_len JN_ok]
  show 2 * js.length + 1 + 1 + 1 + 1 = _
  omega
theorem FT_row (js : List Jo) : seg 3 (rowN JN 53 js) = ⟨refsN JN 4 js, 53, true⟩ :: kidsN JN js := by
  show shO 3 _ :: List.map (shO 3) (kidsN JN js) = _
  congr 1
  · show (⟨(refsN JN 1 js).map (shC 3), 53, true⟩ : Ob) = _
    rw [refsN_sh JN_ok]
  · refine (List.map_congr_left fun o ho => ?_).trans (List.map_id _)
    obtain ⟨h1, h2⟩ := kidsN_sc JN_ok o ho
    obtain ⟨cs, t, l⟩ := o
    show (⟨cs.map (shC 3), t, l⟩ : Ob) = _
    congr 1
    refine (List.map_congr_left fun c hc => ?_).trans (List.map_id _)
    have := h2 c hc
    cases c <;> first | rfl | cases this
theorem turn_FT {rs : List Rd} {os : List (Option Nat)} {js : List Jo} {n : Nat} {B : List Ob} (hn : 2 * js.length + 4 = n) : TurnO (FT rs os js ++ B) (ids 0 n) (ids 0 n) (FT rs os js) := by
  subst hn
  unfold FT
  rw [FT_row]
  rw [ids_cons 0, ids_cons (0 + 1), ids_cons (0 + 1 + 1), ids_cons (0 + 1 + 1 + 1)]
  refine ⟨⟨_, rfl, trc_flat rdc_sc rfl⟩, ⟨_, rfl, trc_flat fe_sc rfl⟩, ⟨_, rfl, .nil⟩, ⟨_, rfl, trc_refsN JN_ok fun j hj => ?_⟩, turno_sc (by rw [kidsN_len JN_ok]; simp [ids, JN]) (kidsN_sc JN_ok) fun i o ho => ?_⟩
  · rw [Nat.add_comm 4 j]
    show (ids (0 + 1 + 1 + 1 + 1) (2 * js.length))[j]? = _
    rw [ids_at (show j < 2 * js.length from hj), Nat.add_comm j 4]
  · have hi := (List.getElem?_eq_some_iff.1 ho).1
    rw [kidsN_len JN_ok] at hi
    refine ⟨4 + i, ids_at hi, ?_⟩
    rw [Nat.add_comm 4 i]
    show (kidsN JN js ++ B)[i]? = _
    rw [List.getElem?_append_left (by rw [kidsN_len JN_ok]; exact hi)]
    exact ho
theorem FT_live (rs : List Rd) (os : List (Option Nat)) (js : List Jo) : ∀ o ∈ FT rs os js, o.live = true := fun o ho => by
  rcases List.mem_cons.1 ho with rfl | ho
  · rfl
  rcases List.mem_cons.1 ho with rfl | ho
  · rfl
  rcases List.mem_cons.1 ho with rfl | ho
  · rfl
  rw [FT_row] at ho
  rcases List.mem_cons.1 ho with rfl | ho
  · rfl
  exact (kidsN_sc JN_ok o ho).1
theorem scl {n : Nat} {c : C} (h : sc c = true) : clC n c = true := by cases c <;> first | rfl | cases h
theorem FT_cl (rs : List Rd) (os : List (Option Nat)) (js : List Jo) {n : Nat} (hn : 2 * js.length + 4 = n) : ∀ o ∈ FT rs os js, ∀ c ∈ o.cs, clC n c = true := fun o ho c hc => by
  rcases List.mem_cons.1 ho with rfl | ho
  · exact scl (sc_flat rdc_sc _ c hc)
  rcases List.mem_cons.1 ho with rfl | ho
  · exact scl (sc_flat fe_sc _ c hc)
  rcases List.mem_cons.1 ho with rfl | ho
  · cases hc
  rw [FT_row] at ho
  rcases List.mem_cons.1 ho with rfl | ho
  · refine refsN_all (P := JN) (Q := clC n) (fun i hi x d hd => JN_ok.cc ?_ d hd) c hc
    show 4 + 2 * i + 2 ≤ n
    omega
  exact scl ((kidsN_sc JN_ok o ho).2 c hc)
theorem FT_ans (rs : List Rd) (os : List (Option Nat)) (js : List Jo) : ∀ o ∈ FT rs os js, ∀ c ∈ o.cs, ansC c = true := fun o ho c hc => by
  rcases List.mem_cons.1 ho with rfl | ho
  · exact ans_sc (sc_flat rdc_sc _) c hc
  rcases List.mem_cons.1 ho with rfl | ho
  · exact ans_sc (sc_flat fe_sc _) c hc
  rcases List.mem_cons.1 ho with rfl | ho
  · cases hc
  rw [FT_row] at ho
  rcases List.mem_cons.1 ho with rfl | ho
  · exact refsN_all (P := JN) (Q := ansC) (fun i hi x d hd => JN_ok.ans d hd) c hc
  exact ans_sc (kidsN_sc JN_ok o ho).2 c hc
theorem cMkI (xs : List Int) (a : Int) (hx : xs.length ≤ 2 ^ 40) (ha : 0 ≤ a ∧ a ≤ 2 ^ 50) : MarkC X 37 xs.length 1 2 (flat int xs) (.int .i64 a) (.int .i64 (a + xs.length)) (flat int ((List.range xs.length).map (imark a))) := by
  refine MarkC.of_body (drawD_ok X) (fun _ _ => Go.Proofs.Try.call37 _ _) Go.Proofs.Try.func37 rfl (sc_flat int_sc _) (q := 19) rfl ?_
  refine w_seq ?_
  refine w_reg rfl ?_
  refine v_assign (c := .v (.int .i64 0)) rfl ?_
  refine v_nil ?_
  refine q_n ?_
  refine w_seq ?_
  refine w_seq ?_
  refine w_reg rfl ?_
  refine v_assign (c := .v (.int .i64 0)) rfl ?_
  refine v_nil ?_
  refine q_n ?_
  refine w_block ?_
  refine w_loop (fun k sl H => ∃ i : Nat, k = xs.length - i ∧ i ≤ xs.length ∧ sl = sls [(0, .c (.mu 0 0 xs.length 1)), (1, cI (a + i)), (5, cI i)] ∧ H = [⟨flat int (marks (imark a) i xs), 2, true⟩]) ?_ ?_
  · refine ⟨_, _, _, ?_, 0, rfl, Nat.zero_le _, rfl, rfl⟩
    exact turn [some 0] rfl rfl rfl ⟨⟨_, rfl, trc_flat int_sc rfl⟩, trivial⟩ ⟨tr_mu rfl, tr_i (by simp), tr_v, trivial⟩
  rintro k sl H ⟨i, rfl, hi, rfl, rfl⟩
  refine w_seq ?_
  refine w_seq ?_
  refine w_reg rfl ?_
  refine v_move rfl ?_
  refine v_move rfl ?_
  refine v_len_mu lay51 rfl ?_
  refine v_lss lay3 rfl rfl (fun h1 => ?_) (fun h1 => ?_)
  rotate_left
  · refine v_nil ?_
    refine q_n ?_
    refine w_f rfl ?_
    refine w_exit ?_
    refine q_e ?_
    refine q_e ?_
    refine q_hit ?_
    refine q_n ?_
    refine w_seq ?_
    refine w_reg rfl ?_
    refine v_move rfl ?_
    refine v_assign rfl ?_
    refine v_nil ?_
    refine q_n ?_
    refine w_ret ?_
    refine r_r rfl ?_
    obtain rfl : i = xs.length := by omega
    exact ⟨rfl, [], by rw [← marks_all]⟩
  have hi1 : i < xs.length := by omega
  refine v_nil ?_
  refine q_n ?_
  refine w_t rfl ?_
  refine w_skip ?_
  refine q_n ?_
  refine w_seq ?_
  refine w_block ?_
  refine w_seq ?_
  refine w_reg rfl ?_
  refine v_move rfl ?_
  refine v_move rfl ?_
  refine v_move rfl ?_
  refine v_idx_mu_e (k := 1) (off := 0) (i) lay51 lay2 rfl rfl rfl (rfl) (by omega) ?_
  refine v_store_flat (H' := [_]) i 0 ((a + i)) int_len lay2 rfl rfl rfl (by omega) (by rw [marks_len (by omega)]; omega) rfl rfl (rfl) rfl ?_
  refine v_nil ?_
  refine q_n ?_
  refine w_reg rfl ?_
  refine v_move rfl ?_
  refine v_add lay3 rfl rfl (i64r (by omega)) ?_
  refine v_assign rfl ?_
  refine v_nil ?_
  refine q_bn ?_
  refine q_n ?_
  refine w_reg rfl ?_
  refine v_move rfl ?_
  refine v_add lay3 rfl rfl (i64r (by omega)) ?_
  refine v_assign rfl ?_
  refine v_nil ?_
  refine q_n ?_
  refine ⟨_, _, _, ?_, ⟨i + 1, rfl, by omega, rfl, rfl⟩, by omega⟩
  exact turn [some 0] rfl rfl rfl ⟨⟨_, rfl, trc_flat int_sc (congrArg (flat int) (marks_step (f := imark a) hi1))⟩, trivial⟩ ⟨tr_mu rfl, tr_i (by push_cast; omega), tr_v, trivial⟩
theorem cMkF (xs : List (Option Nat)) (a : Int) (hx : xs.length ≤ 2 ^ 40) (ha : 0 ≤ a ∧ a ≤ 2 ^ 50) : MarkC X 21 xs.length 1 22 (flat fe xs) (.int .i64 a) (.int .i64 (a + xs.length)) (flat fe ((List.range xs.length).map (fmark a))) := by
  refine MarkC.of_body (drawD_ok X) (fun _ _ => Go.Proofs.Try.call21 _ _) Go.Proofs.Try.func21 rfl (sc_flat fe_sc _) (q := 20) rfl ?_
  refine w_seq ?_
  refine w_reg rfl ?_
  refine v_assign (c := .v (.int .i64 0)) rfl ?_
  refine v_nil ?_
  refine q_n ?_
  refine w_seq ?_
  refine w_seq ?_
  refine w_reg rfl ?_
  refine v_assign (c := .v (.int .i64 0)) rfl ?_
  refine v_nil ?_
  refine q_n ?_
  refine w_block ?_
  refine w_loop (fun k sl H => ∃ i : Nat, k = xs.length - i ∧ i ≤ xs.length ∧ sl = sls [(0, .c (.mu 0 0 xs.length 1)), (1, cI (a + i)), (5, cI i)] ∧ H = [⟨flat fe (marks (fmark a) i xs), 22, true⟩]) ?_ ?_
  · refine ⟨_, _, _, ?_, 0, rfl, Nat.zero_le _, rfl, rfl⟩
    exact turn [some 0] rfl rfl rfl ⟨⟨_, rfl, trc_flat fe_sc rfl⟩, trivial⟩ ⟨tr_mu rfl, tr_i (by simp), tr_v, trivial⟩
  rintro k sl H ⟨i, rfl, hi, rfl, rfl⟩
  refine w_seq ?_
  refine w_seq ?_
  refine w_reg rfl ?_
  refine v_move rfl ?_
  refine v_move rfl ?_
  refine v_len_mu lay24 rfl ?_
  refine v_lss lay3 rfl rfl (fun h1 => ?_) (fun h1 => ?_)
  rotate_left
  · refine v_nil ?_
    refine q_n ?_
    refine w_f rfl ?_
    refine w_exit ?_
    refine q_e ?_
    refine q_e ?_
    refine q_hit ?_
    refine q_n ?_
    refine w_seq ?_
    refine w_reg rfl ?_
    refine v_move rfl ?_
    refine v_assign rfl ?_
    refine v_nil ?_
    refine q_n ?_
    refine w_ret ?_
    refine r_r rfl ?_
    obtain rfl : i = xs.length := by omega
    exact ⟨rfl, [], by rw [← marks_all]⟩
  have hi1 : i < xs.length := by omega
  refine v_nil ?_
  refine q_n ?_
  refine w_t rfl ?_
  refine w_skip ?_
  refine q_n ?_
  refine w_seq ?_
  refine w_block ?_
  refine w_seq ?_
  refine w_reg rfl ?_
  refine v_move rfl ?_
  refine v_move rfl ?_
  refine v_move rfl ?_
  refine v_conv_if lay3 lay22 rfl ?_
  refine v_idx_mu_e (k := 1) (off := 0) (i) lay24 lay22 rfl rfl rfl (rfl) (by omega) ?_
  refine v_store_flat (H' := [_]) i 0 ((fl (a + i))) fe_len lay22 rfl rfl rfl (by omega) (by rw [marks_len (by omega)]; omega) rfl rfl (rfl) rfl ?_
  refine v_nil ?_
  refine q_n ?_
  refine w_reg rfl ?_
  refine v_move rfl ?_
  refine v_add lay3 rfl rfl (i64r (by omega)) ?_
  refine v_assign rfl ?_
  refine v_nil ?_
  refine q_bn ?_
  refine q_n ?_
  refine w_reg rfl ?_
  refine v_move rfl ?_
  refine v_add lay3 rfl rfl (i64r (by omega)) ?_
  refine v_assign rfl ?_
  refine v_nil ?_
  refine q_n ?_
  refine ⟨_, _, _, ?_, ⟨i + 1, rfl, by omega, rfl, rfl⟩, by omega⟩
  exact turn [some 0] rfl rfl rfl ⟨⟨_, rfl, trc_flat fe_sc (congrArg (flat fe) (marks_step (f := fmark a) hi1))⟩, trivial⟩ ⟨tr_mu rfl, tr_i (by push_cast; omega), tr_v, trivial⟩
theorem cMkR (xs : List Rd) (a : Int) (hx : xs.length ≤ 2 ^ 40) (ha : 0 ≤ a ∧ a ≤ 2 ^ 50) : MarkC X 20 xs.length 19 41 (flat rdc xs) (.int .i64 a) (.int .i64 (a + 19 * xs.length)) (flat rdc ((List.range xs.length).map (rmark a))) := by
  refine MarkC.of_body (drawD_ok X) (fun _ _ => Go.Proofs.Try.call20 _ _) Go.Proofs.Try.func20 rfl (sc_flat rdc_sc _) (q := 52) rfl ?_
  refine w_seq ?_
  refine w_reg rfl ?_
  refine v_assign (c := .v (.int .i64 0)) rfl ?_
  refine v_nil ?_
  refine q_n ?_
  refine w_seq ?_
  refine w_seq ?_
  refine w_reg rfl ?_
  refine v_assign (c := .v (.int .i64 0)) rfl ?_
  refine v_nil ?_
  refine q_n ?_
  refine w_block ?_
  refine w_loop (fun k sl H => ∃ i : Nat, k = xs.length - i ∧ i ≤ xs.length ∧ sl = sls [(0, .c (.mu 0 0 xs.length 19)), (1, cI (a + 19 * i)), (5, cI i)] ∧ H = [⟨flat rdc (marks (rmark a) i xs), 41, true⟩]) ?_ ?_
  · refine ⟨_, _, _, ?_, 0, rfl, Nat.zero_le _, rfl, rfl⟩
    exact turn [some 0] rfl rfl rfl ⟨⟨_, rfl, trc_flat rdc_sc rfl⟩, trivial⟩ ⟨tr_mu rfl, tr_i (by simp), tr_v, trivial⟩
  rintro k sl H ⟨i, rfl, hi, rfl, rfl⟩
  refine w_seq ?_
  refine w_seq ?_
  refine w_reg rfl ?_
  refine v_move rfl ?_
  refine v_move rfl ?_
  refine v_len_mu lay23 rfl ?_
  refine v_lss lay3 rfl rfl (fun h1 => ?_) (fun h1 => ?_)
  rotate_left
  · refine v_nil ?_
    refine q_n ?_
    refine w_f rfl ?_
    refine w_exit ?_
    refine q_e ?_
    refine q_e ?_
    refine q_hit ?_
    refine q_n ?_
    refine w_seq ?_
    refine w_reg rfl ?_
    refine v_move rfl ?_
    refine v_assign rfl ?_
    refine v_nil ?_
    refine q_n ?_
    refine w_ret ?_
    refine r_r rfl ?_
    obtain rfl : i = xs.length := by omega
    exact ⟨rfl, [], by rw [← marks_all]⟩
  have hi1 : i < xs.length := by omega
  refine v_nil ?_
  refine q_n ?_
  refine w_t rfl ?_
  refine w_skip ?_
  refine q_n ?_
  refine w_seq ?_
  refine w_block ?_
  refine w_seq ?_
  refine w_seq ?_
  refine w_reg rfl ?_
  refine v_assign (c := .v (.int .i64 0)) rfl ?_
  refine v_nil ?_
  refine q_n ?_
  refine w_block ?_
  refine w_loop (fun k sl H => ∃ j : Nat, k = 16 - j ∧ j ≤ 16 ∧ sl = sls [(0, .c (.mu 0 0 xs.length 19)), (1, cI (a + 19 * i + j)), (5, cI i), (6, cI j)] ∧ H = [⟨flat rdc (rmid a i j xs xs[i]), 41, true⟩]) ?_ ?_
  · refine ⟨_, _, _, ?_, 0, rfl, Nat.zero_le _, rfl, rfl⟩
    exact turn [some 0] rfl rfl rfl ⟨⟨_, rfl, trc_flat rdc_sc (congrArg (flat rdc) (rmid_0 hi1).symm)⟩, trivial⟩ ⟨tr_mu rfl, tr_i (by simp), tr_v, tr_v, trivial⟩
  rintro k sl H ⟨j, rfl, hj, rfl, rfl⟩
  refine w_seq ?_
  refine w_seq ?_
  refine w_reg rfl ?_
  refine v_move rfl ?_
  refine v_lss lay3 rfl rfl (fun h2 => ?_) (fun h2 => ?_)
  · have hj1 : j < 16 := by omega
    refine v_nil ?_
    refine q_n ?_
    refine w_t rfl ?_
    refine w_skip ?_
    refine q_n ?_
    refine w_seq ?_
    refine w_block ?_
    refine w_seq ?_
    refine w_reg rfl ?_
    refine v_move rfl ?_
    refine v_move rfl ?_
    refine v_move rfl ?_
    refine v_move rfl ?_
    refine v_conv_if lay3 lay22 rfl ?_
    refine v_idx_mu_e (k := 19) (off := 0) (i) lay23 lay41 rfl rfl rfl (rfl) (hi1) ?_
    refine v_fa_pt (off' := _) lay41 rfl rfl rfl ?_
    refine v_idx_arr_e (k := 1) (j) lay39 lay22 rfl rfl rfl (rfl) (hj1) ?_
    refine v_store_flat_e (H' := [_]) (i) (0 + j * 1) ((putF (mixF j (rmark a i).1 (xs[i]).1) j (fl (a + 19 * i + j)), (xs[i]).2)) rdc_len lay22 rfl rfl rfl (by omega) (by simp only [List.length_set, rmid_len hi1]; exact hi1) rfl (by show 0 + j * 1 + 1 ≤ 19; omega) (by rw [rmid_get]; exact rd_put (mixF j (rmark a i).1 (xs[i]).1, (xs[i]).2) hj1 _) rfl ?_
    refine v_nil ?_
    refine q_n ?_
    refine w_reg rfl ?_
    refine v_move rfl ?_
    refine v_add lay3 rfl rfl (i64r (by omega)) ?_
    refine v_assign rfl ?_
    refine v_nil ?_
    refine q_bn ?_
    refine q_n ?_
    refine w_reg rfl ?_
    refine v_move rfl ?_
    refine v_add lay3 rfl rfl (i64r (by omega)) ?_
    refine v_assign rfl ?_
    refine v_nil ?_
    refine q_n ?_
    refine ⟨_, _, _, ?_, ⟨j + 1, rfl, by omega, rfl, rfl⟩, by omega⟩
    exact turn [some 0] rfl rfl rfl ⟨⟨_, rfl, trc_flat rdc_sc (congrArg (flat rdc) (rmid_step hj1))⟩, trivial⟩ ⟨tr_mu rfl, tr_i (by push_cast; omega), tr_v, tr_v, trivial⟩
  refine v_nil ?_
  refine q_n ?_
  refine w_f rfl ?_
  refine w_exit ?_
  refine q_e ?_
  refine q_e ?_
  refine q_hit ?_
  refine q_n ?_
  refine w_seq ?_
  refine w_reg rfl ?_
  refine v_move rfl ?_
  refine v_move rfl ?_
  refine v_move rfl ?_
  refine v_conv_if lay3 lay22 rfl ?_
  refine v_idx_mu_e (k := 19) (off := 0) (i) lay23 lay41 rfl rfl rfl (rfl) (hi1) ?_
  refine v_fa_pt (off' := _) lay41 rfl rfl rfl ?_
  refine v_store_flat (H' := [_]) i 16 ((mixF j (rmark a i).1 (xs[i]).1, fl (a + 19 * i + j), (xs[i]).2.2)) rdc_len lay22 rfl rfl rfl (by omega) (by simp only [List.length_set, rmid_len hi1]; exact hi1) rfl rfl (by rw [rmid_get]; rfl) rfl ?_
  refine v_nil ?_
  refine q_n ?_
  refine w_seq ?_
  refine w_reg rfl ?_
  refine v_move rfl ?_
  refine v_add lay3 rfl rfl (i64r (by omega)) ?_
  refine v_assign rfl ?_
  refine v_nil ?_
  refine q_n ?_
  refine w_seq ?_
  refine w_reg rfl ?_
  refine v_move rfl ?_
  refine v_move rfl ?_
  refine v_move rfl ?_
  refine v_conv_if lay3 lay22 rfl ?_
  refine v_idx_mu_e (k := 19) (off := 0) (i) lay23 lay41 rfl rfl rfl (rfl) (hi1) ?_
  refine v_fa_pt (off' := _) lay41 rfl rfl rfl ?_
  refine v_store_flat (H' := [_]) i 17 ((mixF j (rmark a i).1 (xs[i]).1, fl (a + 19 * i + j), fl (a + 19 * i + j + 1), (xs[i]).2.2.2)) rdc_len lay22 rfl rfl rfl (by omega) (by simp only [List.length_set, rmid_len hi1]; exact hi1) rfl rfl (by rw [List.getElem_set_self]; rfl) rfl ?_
  refine v_nil ?_
  refine q_n ?_
  refine w_seq ?_
  refine w_reg rfl ?_
  refine v_move rfl ?_
  refine v_add lay3 rfl rfl (i64r (by omega)) ?_
  refine v_assign rfl ?_
  refine v_nil ?_
  refine q_n ?_
  refine w_seq ?_
  refine w_reg rfl ?_
  refine v_move rfl ?_
  refine v_move rfl ?_
  refine v_move rfl ?_
  refine v_conv_if lay3 lay22 rfl ?_
  refine v_idx_mu_e (k := 19) (off := 0) (i) lay23 lay41 rfl rfl rfl (rfl) (hi1) ?_
  refine v_fa_pt (off' := _) lay41 rfl rfl rfl ?_
  refine v_store_flat (H' := [_]) i 18 (((rmark a i).1, fl (a + 19 * i + j), fl (a + 19 * i + j + 1), fl (a + 19 * i + j + 1 + 1))) rdc_len lay22 rfl rfl rfl (by omega) (by simp only [List.length_set, rmid_len hi1]; exact hi1) rfl rfl (by rw [List.getElem_set_self]; obtain rfl : j = 16 := (by omega); rw [mixF_all]; rfl) rfl ?_
  refine v_nil ?_
  refine q_n ?_
  refine w_reg rfl ?_
  refine v_move rfl ?_
  refine v_add lay3 rfl rfl (i64r (by omega)) ?_
  refine v_assign rfl ?_
  refine v_nil ?_
  refine q_bn ?_
  refine q_n ?_
  refine w_reg rfl ?_
  refine v_move rfl ?_
  refine v_add lay3 rfl rfl (i64r (by omega)) ?_
  refine v_assign rfl ?_
  refine v_nil ?_
  refine q_n ?_
  obtain rfl : j = 16 := by omega
  refine ⟨_, _, _, ?_, ⟨i + 1, rfl, by omega, rfl, rfl⟩, by omega⟩
  exact turn [some 0] rfl rfl rfl ⟨⟨_, rfl, trc_flat rdc_sc (congrArg (flat rdc) (rmid_end hi1 (by omega) (by omega) (by omega)))⟩, trivial⟩ ⟨tr_mu rfl, tr_i (by push_cast; omega), tr_v, trivial⟩
theorem cMkJ (js : List Jo) (a : Int) (hx : js.length ≤ 2 ^ 20) (hJ : ∀ j ∈ js, j.2.1.length ≤ 2 ^ 20 ∧ j.2.2.1.length ≤ 2 ^ 20) (ha : 0 ≤ a ∧ a ≤ 2 ^ 40) : DetC X 22 [.c (.mu 0 0 js.length 25), cI a] (rowN JN 53 js) (cI (jA a js js.length)) (rowN JN 53 (jmks a js)) := by
  refine GraphC.of_body (drawD_ok X) (fun _ _ => Go.Proofs.Try.call22 _ _) Go.Proofs.Try.func22 rfl (n := 66) rfl rfl ?_
  refine w_seq ?_
  refine w_reg rfl ?_
  refine v_assign (c := .v (.int .i64 0)) rfl ?_
  refine v_nil ?_
  refine q_n ?_
  refine w_seq ?_
  refine w_seq ?_
  refine w_reg rfl ?_
  refine v_assign (c := .v (.int .i64 0)) rfl ?_
  refine v_nil ?_
  refine q_n ?_
  refine w_block ?_
  refine w_loop (fun k sl H => ∃ i : Nat, k = js.length - i ∧ i ≤ js.length ∧ sl = sls [(0, .c (.mu 0 0 js.length 25)), (1, cI (jA a js i)), (5, cI i)] ∧ H = rowN JN 53 (marks (jmf a js) i js)) ?_ ?_
  · refine ⟨_, _, _, ?_, 0, rfl, Nat.zero_le _, rfl, rfl⟩
    exact turn (ids 0 (2 * js.length + 1)) nodup_ids (fix_ids (by rw [rowN_len JN_ok]; show 2 * js.length + 1 ≤ _; omega)) (lt_ids (by rw [rowN_len JN_ok]; show _ ≤ 2 * _ + 1; omega)) (by have h := turn_row (js := js) (t := 53) (n := 2 * js.length + 1) (B := []) (by omega); rwa [List.append_nil] at h) ⟨tr_mu (ids_at (by omega)), tr_v, tr_v, trivial⟩
  rintro k sl H ⟨i, rfl, hi, rfl, rfl⟩
  refine w_seq ?_
  refine w_seq ?_
  refine w_reg rfl ?_
  refine v_move rfl ?_
  refine v_move rfl ?_
  refine v_len_mu lay25 rfl ?_
  refine v_lss lay3 rfl rfl (fun h1 => ?_) (fun h1 => ?_)
  rotate_left
  · refine v_nil ?_
    refine q_n ?_
    refine w_f rfl ?_
    refine w_exit ?_
    refine q_e ?_
    refine q_e ?_
    refine q_hit ?_
    refine q_n ?_
    refine w_seq ?_
    refine w_reg rfl ?_
    refine v_move rfl ?_
    refine v_assign rfl ?_
    refine v_nil ?_
    refine q_n ?_
    refine w_ret ?_
    refine r_r rfl ?_
    obtain rfl : i = js.length := by omega
    rw [marks_all]
    have hl2 : ((List.range js.length).map (jmf a js)).length = js.length := by simp
    have hl3 : (jmks a js).length = js.length := hl2
    exact g_ans (H1 := rowN JN 53 (jmks a js)) (ids 0 (2 * js.length + 1)) nodup_ids (fix_ids (by rw [rowN_len JN_ok]; show 2 * js.length + 1 ≤ _; omega)) (lt_ids (by rw [rowN_len JN_ok]; show _ ≤ 2 * _ + 1; omega)) (turnp_of (by have h := turn_row (js := jmks a js) (t := 53) (n := 2 * js.length + 1) (B := []) (by omega); rwa [List.append_nil] at h)) tr_v ⟨rfl, rfl⟩
  have hi1 : i < js.length := by omega
  have hA := jA_rng (a := a) hJ (i := i) (by omega)
  have hl := hJ _ (List.getElem_mem hi1)
  have hst := jA_step (a := a) hi1
  have hML : (marks (jmf a js) i js).length = js.length := marks_len (by omega)
  have hD : i < (marks (jmf a js) i js).length := by omega
  have hDi : (marks (jmf a js) i js)[i] = js[i] := marks_at hi1 hD
  have hE : jmf a js i = ((jA a js i, jA a js i + 1, js[i].1.2.2.1, fun p : Fin 4 => fl (jA a js i + 2 + p.val)), imk (jA a js i + 6) js[i].2.1, imk (jA a js i + 6 + (js[i].2.1.length : Int)) js[i].2.2.1, jA a js i + 6 + (js[i].2.1.length : Int) + (js[i].2.2.1.length : Int)) := by unfold jmf jmk; rw [jgd hi1]
  rw [← jrow_0 hD hDi]
  refine v_nil ?_
  refine q_n ?_
  refine w_t rfl ?_
  refine w_skip ?_
  refine q_n ?_
  refine w_seq ?_
  refine w_block ?_
  refine w_seq ?_
  refine w_reg rfl ?_
  refine v_move rfl ?_
  refine v_move rfl ?_
  refine v_move rfl ?_
  refine v_idx_mu_e (k := 25) (off := 0) (i) lay25 lay53 rfl rfl rfl (rfl) (hi1) ?_
  refine v_fa_pt (off' := _) lay53 rfl rfl rfl ?_
  refine v_fa_pt (off' := _) lay49 rfl rfl rfl ?_
  refine v_store_at (H' := rowN JN 53 ((marks (jmf a js) i js).set i ((jA a js i, js[i].1.2.1, js[i].1.2.2.1, js[i].1.2.2.2), js[i].2))) lay2 rfl rfl rfl rfl (jbd (off := 0) hD (by omega) (by omega)) (jst (off := 0) hD (by omega) (by omega) (fun _ => rfl) rfl) ?_
  refine v_nil ?_
  refine q_n ?_
  refine w_seq ?_
  refine w_reg rfl ?_
  refine v_move rfl ?_
  refine v_add lay3 rfl rfl (i64r (by omega)) ?_
  refine v_assign rfl ?_
  refine v_nil ?_
  refine q_n ?_
  refine w_seq ?_
  refine w_reg rfl ?_
  refine v_move rfl ?_
  refine v_move rfl ?_
  refine v_move rfl ?_
  refine v_idx_mu_e (k := 25) (off := 0) (i) lay25 lay53 rfl rfl rfl (rfl) (hi1) ?_
  refine v_fa_pt (off' := _) lay53 rfl rfl rfl ?_
  refine v_fa_pt (off' := _) lay49 rfl rfl rfl ?_
  refine v_store_at (H' := rowN JN 53 ((marks (jmf a js) i js).set i ((jA a js i, jA a js i + 1, js[i].1.2.2.1, js[i].1.2.2.2), js[i].2))) lay2 rfl rfl rfl rfl (jbd (off := 1) hD (by omega) (by omega)) (jst (off := 1) hD (by omega) (by omega) (fun _ => rfl) rfl) ?_
  refine v_nil ?_
  refine q_n ?_
  refine w_seq ?_
  refine w_reg rfl ?_
  refine v_move rfl ?_
  refine v_add lay3 rfl rfl (i64r (by omega)) ?_
  refine v_assign rfl ?_
  refine v_nil ?_
  refine q_n ?_
  refine w_seq ?_
  refine w_seq ?_
  refine w_reg rfl ?_
  refine v_assign (c := .v (.int .i64 0)) rfl ?_
  refine v_nil ?_
  refine q_n ?_
  refine w_block ?_
  refine w_loop (fun k sl H => ∃ p : Nat, k = 4 - p ∧ p ≤ 4 ∧ sl = sls [(0, .c (.mu 0 0 js.length 25)), (1, cI (jA a js i + 2 + p)), (5, cI i), (6, cI p)] ∧ H = rowN JN 53 ((marks (jmf a js) i js).set i ((jA a js i, jA a js i + 1, js[i].1.2.2.1, mixF p (fun p : Fin 4 => fl (jA a js i + 2 + p.val)) js[i].1.2.2.2), js[i].2))) ?_ ?_
  · refine ⟨_, _, _, ?_, 0, rfl, Nat.zero_le _, rfl, rfl⟩
    rw [mixF_0]
    exact turn (ids 0 (2 * js.length + 1)) nodup_ids (fix_ids (by rw [rowN_len JN_ok]; show 2 * js.length + 1 ≤ _; omega)) (lt_ids (by rw [rowN_len JN_ok]; show _ ≤ 2 * _ + 1; simp only [List.length_set, marks_len (show i ≤ js.length by omega)]; omega)) (by have h := turn_row (js := (marks (jmf a js) i js).set i ((jA a js i, jA a js i + 1, js[i].1.2.2.1, js[i].1.2.2.2), js[i].2)) (t := 53) (n := 2 * js.length + 1) (B := []) (by simp only [List.length_set, marks_len (show i ≤ js.length by omega)]); rwa [List.append_nil] at h) ⟨tr_mu (ids_at (by omega)), tr_i (by simp only [Int.natCast_zero]; omega), tr_v, tr_v, trivial⟩
  rintro k sl H ⟨p, rfl, hp, rfl, rfl⟩
  refine w_seq ?_
  refine w_seq ?_
  refine w_reg rfl ?_
  refine v_move rfl ?_
  refine v_lss lay3 rfl rfl (fun h4 => ?_) (fun h4 => ?_)
  · have hp1 : p < 4 := by omega
    refine v_nil ?_
    refine q_n ?_
    refine w_t rfl ?_
    refine w_skip ?_
    refine q_n ?_
    refine w_seq ?_
    refine w_block ?_
    refine w_seq ?_
    refine w_reg rfl ?_
    refine v_move rfl ?_
    refine v_move rfl ?_
    refine v_move rfl ?_
    refine v_move rfl ?_
    refine v_conv_if lay3 lay22 rfl ?_
    refine v_idx_mu_e (k := 25) (off := 0) (i) lay25 lay53 rfl rfl rfl (rfl) (hi1) ?_
    refine v_fa_pt (off' := _) lay53 rfl rfl rfl ?_
    refine v_fa_pt (off' := _) lay49 rfl rfl rfl ?_
    refine v_idx_arr_e (k := 1) (p) lay47 lay22 rfl rfl rfl (rfl) (hp1) ?_
    refine v_store_at (H' := rowN JN 53 ((marks (jmf a js) i js).set i ((jA a js i, jA a js i + 1, js[i].1.2.2.1, mixF (p + 1) (fun p : Fin 4 => fl (jA a js i + 2 + p.val)) js[i].1.2.2.2), js[i].2))) lay22 rfl rfl rfl rfl (jbd (off := 18 + p) hD (by omega) (by omega)) (jst (off := 18 + p) hD (by omega) (by omega) (fun M => (jpr_set _ hp1 _).trans (congrArg (JN.cells M) (congrArg (fun z => ((jA a js i, jA a js i + 1, js[i].1.2.2.1, z), js[i].2)) (mixF_put (fun p : Fin 4 => fl (jA a js i + 2 + p.val)) _ hp1)))) rfl) ?_
    refine v_nil ?_
    refine q_n ?_
    refine w_reg rfl ?_
    refine v_move rfl ?_
    refine v_add lay3 rfl rfl (i64r (by omega)) ?_
    refine v_assign rfl ?_
    refine v_nil ?_
    refine q_bn ?_
    refine q_n ?_
    refine w_reg rfl ?_
    refine v_move rfl ?_
    refine v_add lay3 rfl rfl (i64r (by omega)) ?_
    refine v_assign rfl ?_
    refine v_nil ?_
    refine q_n ?_
    refine ⟨_, _, _, ?_, ⟨p + 1, rfl, by omega, rfl, rfl⟩, by omega⟩
    exact turn (ids 0 (2 * js.length + 1)) nodup_ids (fix_ids (by rw [rowN_len JN_ok]; show 2 * js.length + 1 ≤ _; omega)) (lt_ids (by rw [rowN_len JN_ok]; show _ ≤ 2 * _ + 1; simp only [List.length_set, marks_len (show i ≤ js.length by omega)]; omega)) (by have h := turn_row (js := (marks (jmf a js) i js).set i ((jA a js i, jA a js i + 1, js[i].1.2.2.1, mixF (p + 1) (fun p : Fin 4 => fl (jA a js i + 2 + p.val)) js[i].1.2.2.2), js[i].2)) (t := 53) (n := 2 * js.length + 1) (B := []) (by simp only [List.length_set, marks_len (show i ≤ js.length by omega)]); rwa [List.append_nil] at h) ⟨tr_mu (ids_at (by omega)), tr_i (by push_cast; omega), tr_i (by push_cast; omega), tr_i (by push_cast; omega), trivial⟩
  obtain rfl : p = 4 := by omega
  rw [mixF_all, show jA a js i + 2 + ((4 : Nat) : Int) = jA a js i + 6 from by omega]
  refine v_nil ?_
  refine q_n ?_
  refine w_f rfl ?_
  refine w_exit ?_
  refine q_e ?_
  refine q_e ?_
  refine q_hit ?_
  refine q_n ?_
  refine w_seq ?_
  refine w_reg rfl ?_
  refine v_move rfl ?_
  refine v_move rfl ?_
  refine v_idx_mu_e (k := 25) (off := 0) (i) lay25 lay53 rfl rfl rfl (rfl) (hi1) ?_
  refine v_fa_pt (off' := _) lay53 rfl rfl rfl ?_
  refine v_load_at (.c (.mu (1 + 2 * i + 0) 0 (js[i].2.1).length 1)) lay51 rfl rfl (jbd (off := 22) hD (by omega) (by omega)) (jld (off := 22) hD (by omega) (by omega) rfl) ?_
  refine v_move rfl ?_
  refine v_mark (H' := rowN JN 53 ((marks (jmf a js) i js).set i ((jA a js i, jA a js i + 1, js[i].1.2.2.1, fun p : Fin 4 => fl (jA a js i + 2 + p.val)), imk (jA a js i + 6) js[i].2.1, js[i].2.2))) (cMkI (js[i].2.1) (jA a js i + 6) (by omega) (by omega)) (jkid hD (by omega) rfl) (sc_flat int_sc _) (sc_flat int_sc _) rfl (jkset hD (by omega) (show _ = List.set _ 0 _ from rfl) (fun _ => by simp [JN])) rfl rfl ?_
  refine v_assign rfl ?_
  refine v_nil ?_
  refine q_n ?_
  refine w_seq ?_
  refine w_reg rfl ?_
  refine v_move rfl ?_
  refine v_move rfl ?_
  refine v_idx_mu_e (k := 25) (off := 0) (i) lay25 lay53 rfl rfl rfl (rfl) (hi1) ?_
  refine v_fa_pt (off' := _) lay53 rfl rfl rfl ?_
  refine v_load_at (.c (.mu (1 + 2 * i + 1) 0 (js[i].2.2.1).length 1)) lay51 rfl rfl (jbd (off := 23) hD (by omega) (by omega)) (jld (off := 23) hD (by omega) (by omega) rfl) ?_
  refine v_move rfl ?_
  refine v_mark (H' := rowN JN 53 ((marks (jmf a js) i js).set i ((jA a js i, jA a js i + 1, js[i].1.2.2.1, fun p : Fin 4 => fl (jA a js i + 2 + p.val)), imk (jA a js i + 6) js[i].2.1, imk (jA a js i + 6 + (js[i].2.1.length : Int)) js[i].2.2.1, js[i].2.2.2))) (cMkI (js[i].2.2.1) (jA a js i + 6 + (js[i].2.1.length : Int)) (by omega) (by omega)) (jkid hD (by omega) rfl) (sc_flat int_sc _) (sc_flat int_sc _) rfl (jkset hD (by omega) (show _ = List.set _ 1 _ from rfl) (fun _ => by simp [JN])) rfl rfl ?_
  refine v_assign rfl ?_
  refine v_nil ?_
  refine q_n ?_
  refine w_seq ?_
  refine w_reg rfl ?_
  refine v_move rfl ?_
  refine v_move rfl ?_
  refine v_move rfl ?_
  refine v_idx_mu_e (k := 25) (off := 0) (i) lay25 lay53 rfl rfl rfl (rfl) (hi1) ?_
  refine v_fa_pt (off' := _) lay53 rfl rfl rfl ?_
  refine v_store_at (H' := rowN JN 53 ((marks (jmf a js) i js).set i ((jA a js i, jA a js i + 1, js[i].1.2.2.1, fun p : Fin 4 => fl (jA a js i + 2 + p.val)), imk (jA a js i + 6) js[i].2.1, imk (jA a js i + 6 + (js[i].2.1.length : Int)) js[i].2.2.1, jA a js i + 6 + (js[i].2.1.length : Int) + (js[i].2.2.1.length : Int)))) lay2 rfl rfl rfl rfl (jbd (off := 24) hD (by omega) (by omega)) (jst (off := 24) hD (by omega) (by omega) (fun _ => rfl) rfl) ?_
  refine v_nil ?_
  refine q_n ?_
  refine w_reg rfl ?_
  refine v_move rfl ?_
  refine v_add lay3 rfl rfl (i64r (by omega)) ?_
  refine v_assign rfl ?_
  refine v_nil ?_
  refine q_bn ?_
  refine q_n ?_
  refine w_reg rfl ?_
  refine v_move rfl ?_
  refine v_add lay3 rfl rfl (i64r (by omega)) ?_
  refine v_assign rfl ?_
  refine v_nil ?_
  refine q_n ?_
  have hS : (marks (jmf a js) i js).set i ((jA a js i, jA a js i + 1, js[i].1.2.2.1, fun p : Fin 4 => fl (jA a js i + 2 + p.val)), imk (jA a js i + 6) js[i].2.1, imk (jA a js i + 6 + (js[i].2.1.length : Int)) js[i].2.2.1, jA a js i + 6 + (js[i].2.1.length : Int) + (js[i].2.2.1.length : Int)) = marks (jmf a js) (i + 1) js := by rw [← hE]; exact marks_step (f := jmf a js) hi1
  rw [hS]
  have hML2 : (marks (jmf a js) (i + 1) js).length = js.length := marks_len (by omega)
  refine ⟨_, _, _, ?_, ⟨i + 1, rfl, by omega, rfl, rfl⟩, by omega⟩
  exact turn (ids 0 (2 * js.length + 1)) nodup_ids (fix_ids (by rw [rowN_len JN_ok]; show 2 * js.length + 1 ≤ _; omega)) (lt_ids (by rw [rowN_len JN_ok]; show _ ≤ 2 * _ + 1; omega)) (by have h := turn_row (js := marks (jmf a js) (i + 1) js) (t := 53) (n := 2 * js.length + 1) (B := []) (by omega); rwa [List.append_nil] at h) ⟨tr_mu (ids_at (by omega)), tr_i (by rw [hst]; omega), tr_i (by push_cast; omega), trivial⟩
end Go.VL
namespace Go.VL
open Go.RowKit
set_option maxRecDepth 20000
set_option maxHeartbeats 8000000
theorem fl_ne {x : Option Nat} {y z : Int} (h : x = fl y) (e : y = z) : (ford .f32 x (some (FloatKind.f32.nearest z)) != some .eq) = false := by
  subst h e
  show (ford .f32 (some _) (some _) != some .eq) = false
  rw [ford_self (fl_ok y)]
  rfl
theorem jmk_in {J j : Jo} {a : Int} (h : J = jmk a j) : (∀ q, (h' : q < J.2.1.length) → J.2.1[q] = a + 6 + q) ∧ J.2.1.length = j.2.1.length ∧ (∀ q, (h' : q < J.2.2.1.length) → J.2.2.1[q] = a + 6 + J.2.1.length + q) ∧ J.2.2.1.length = j.2.2.1.length ∧ J.1.1 = a ∧ J.1.2.1 = a + 1 ∧ (∀ p (hp : p < 4), J.1.2.2.2 ⟨p, hp⟩ = fl (a + 2 + p)) ∧ J.2.2.2 = a + 6 + J.2.1.length + J.2.2.1.length := by
  subst h
  refine ⟨fun q h' => ?_, by simp [jmk], fun q h' => ?_, by simp [jmk], rfl, rfl, fun p hp => rfl, by simp [jmk]⟩
  · simp [jmk, imark]
  · simp [jmk, imark]
theorem rows_at {α : Type} {f : Nat → α} {n : Nat} : ∀ i, (h : i < ((List.range n).map f).length) → ((List.range n).map f)[i] = f i := fun _ _ => by simp
theorem cMkP (a : Int) : DetC X 23 [.c (.mu 0 0 0 3), cI a] [⟨[], 74, true⟩] (cI a) [⟨[], 74, true⟩] := by
  refine GraphC.of_body (drawD_ok X) (fun _ _ => Go.Proofs.Try.call23 _ _) Go.Proofs.Try.func23 rfl (n := 34) rfl rfl ?_
  refine w_seq ?_
  refine w_reg rfl ?_
  refine v_assign (c := .v (.int .i64 0)) rfl ?_
  refine v_nil ?_
  refine q_n ?_
  refine w_seq ?_
  refine w_seq ?_
  refine w_reg rfl ?_
  refine v_assign (c := .v (.int .i64 0)) rfl ?_
  refine v_nil ?_
  refine q_n ?_
  refine w_block ?_
  refine w_loop (fun k sl H => k = 0 ∧ sl = sls [(0, .c (.mu 0 0 0 3)), (1, cI a), (5, cI 0)] ∧ H = [⟨[], 74, true⟩]) ?_ ?_
  · refine ⟨0, _, _, ?_, rfl, rfl, rfl⟩
    exact turn [some 0] rfl rfl rfl ⟨⟨_, rfl, .nil⟩, trivial⟩ ⟨tr_mu rfl, tr_v, tr_v, trivial⟩
  rintro k sl H ⟨rfl, rfl, rfl⟩
  refine w_seq ?_
  refine w_seq ?_
  refine w_reg rfl ?_
  refine v_move rfl ?_
  refine v_move rfl ?_
  refine v_len_mu lay26 rfl ?_
  refine v_lss lay3 rfl rfl (fun h1 => ?_) (fun h1 => ?_)
  · exact absurd h1 (by decide)
  refine v_nil ?_
  refine q_n ?_
  refine w_f rfl ?_
  refine w_exit ?_
  refine q_e ?_
  refine q_e ?_
  refine q_hit ?_
  refine q_n ?_
  refine w_seq ?_
  refine w_reg rfl ?_
  refine v_move rfl ?_
  refine v_assign rfl ?_
  refine v_nil ?_
  refine q_n ?_
  refine w_ret ?_
  refine r_r rfl ?_
  exact g_ans (H1 := [⟨[], 74, true⟩]) [some 0] rfl rfl rfl ⟨fun _ => ⟨_, rfl, .nil⟩, trivial⟩ tr_v ⟨rfl, rfl⟩
theorem cHdP (a : Int) : PureC X 27 [.c (pls false []), cI a] (cI a) := by
  refine PureC.of_body (drawD_ok X) (fun _ _ => Go.Proofs.Try.call27 _ _) Go.Proofs.Try.func27 rfl (n := 40) rfl ?_
  refine w_seq ?_
  refine w_reg rfl ?_
  refine v_assign (c := .v (.int .i64 0)) rfl ?_
  refine v_nil ?_
  refine q_n ?_
  refine w_seq ?_
  refine w_seq ?_
  refine w_reg rfl ?_
  refine v_assign (c := .v (.int .i64 0)) rfl ?_
  refine v_nil ?_
  refine q_n ?_
  refine w_block ?_
  refine w_loop (fun k sl H => k = 0 ∧ sl = sls [(0, .c (pls false [])), (1, cI a), (5, cI 0)] ∧ H = []) ?_ ?_
  · refine ⟨0, _, _, ?_, rfl, rfl, rfl⟩
    exact turn0 ⟨tr_sl, tr_v, tr_v, trivial⟩
  rintro k sl H ⟨rfl, rfl, rfl⟩
  refine w_seq ?_
  refine w_seq ?_
  refine w_reg rfl ?_
  refine v_move rfl ?_
  refine v_move rfl ?_
  refine v_len_sl lay26 rfl ?_
  refine v_lss lay3 rfl rfl (fun h1 => ?_) (fun h1 => ?_)
  · exact absurd h1 (by decide)
  refine v_nil ?_
  refine q_n ?_
  refine w_f rfl ?_
  refine w_exit ?_
  refine q_e ?_
  refine q_e ?_
  refine q_hit ?_
  refine q_n ?_
  refine w_seq ?_
  refine w_reg rfl ?_
  refine v_move rfl ?_
  refine v_assign rfl ?_
  refine v_nil ?_
  refine q_n ?_
  refine w_ret ?_
  refine r_r rfl ?_
  exact a_i rfl
theorem cMkT (rs : List Rd) (os : List (Option Nat)) (js : List Jo) (tk : Int) (x y : Option Nat) (a : Int) (hr : rs.length ≤ 2 ^ 20) (ho : os.length ≤ 2 ^ 20) (hx : js.length ≤ 2 ^ 20) (hJ : ∀ j ∈ js, j.2.1.length ≤ 2 ^ 20 ∧ j.2.2.1.length ≤ 2 ^ 20) (ha : 0 ≤ a ∧ a ≤ 2 ^ 20) : DetC X 7 [.agg (fta rs.length os.length js.length tk x y), cI a] (FT rs os js) (cI (jA ((a + 19 * rs.length) + os.length) js js.length)) (FT ((List.range rs.length).map (rmark a)) ((List.range os.length).map (fmark (a + 19 * rs.length))) (jmks ((a + 19 * rs.length) + os.length) js)) := by
  refine GraphC.of_body (drawD_ok X) (fun _ _ => Go.Proofs.Try.call7 _ _) Go.Proofs.Try.func7 rfl (n := 22) rfl rfl ?_
  have hA : (FT rs os js).length = 2 * js.length + 4 := FT_len rs os js
  have hA1 : (FT ((List.range rs.length).map (rmark a)) os js).length = 2 * js.length + 4 := FT_len _ _ _
  have hA2 : (FT ((List.range rs.length).map (rmark a)) ((List.range os.length).map (fmark (a + 19 * rs.length))) js).length = 2 * js.length + 4 := FT_len _ _ _
  have hA3 : (FT ((List.range rs.length).map (rmark a)) ((List.range os.length).map (fmark (a + 19 * rs.length))) (jmks ((a + 19 * rs.length) + os.length) js)).length = 2 * js.length + 4 := by rw [FT_len]; simp
  rw [show FT rs os js = FT rs os js ++ [] from (List.append_nil _).symm]
  refine w_seq ?_
  refine w_reg rfl ?_
  refine p_box hA (m := 0) (H' := [_]) lay28 rfl rfl rfl ?_
  refine v_assign (c := .v (.int .i64 0)) rfl ?_
  refine v_nil ?_
  refine q_n ?_
  refine w_seq ?_
  refine w_reg rfl ?_
  refine v_fa_pt (off' := 0) lay28 rfl rfl rfl ?_
  refine p_load_pt hA (.c _) lay23 rfl rfl rfl rfl ?_
  refine v_move rfl ?_
  refine v_mark (H' := FT ((List.range rs.length).map (rmark a)) os js ++ [⟨fta rs.length os.length js.length tk x y, 28, true⟩]) (cMkR rs a (by omega) (by omega)) rfl (sc_flat rdc_sc _) (sc_flat rdc_sc _) rfl rfl rfl rfl ?_
  refine v_assign rfl ?_
  refine v_nil ?_
  refine q_n ?_
  refine w_seq ?_
  refine w_reg rfl ?_
  refine v_fa_pt (off' := 1) lay28 rfl rfl rfl ?_
  refine p_load_pt hA1 (.c _) lay24 rfl rfl rfl rfl ?_
  refine v_move rfl ?_
  refine v_mark (H' := FT ((List.range rs.length).map (rmark a)) ((List.range os.length).map (fmark (a + 19 * rs.length))) js ++ [⟨fta rs.length os.length js.length tk x y, 28, true⟩]) (cMkF os (a + 19 * rs.length) (by omega) (by omega)) rfl (sc_flat fe_sc _) (sc_flat fe_sc _) rfl rfl rfl rfl ?_
  refine v_assign rfl ?_
  refine v_nil ?_
  refine q_n ?_
  refine w_seq ?_
  refine w_reg rfl ?_
  refine v_fa_pt (off' := 2) lay28 rfl rfl rfl ?_
  refine p_load_pt hA2 (.c _) lay25 rfl rfl rfl rfl ?_
  refine v_move rfl ?_
  refine v_segdet (A := [⟨flat rdc ((List.range rs.length).map (rmark a)), 41, true⟩, ⟨flat fe ((List.range os.length).map (fmark (a + 19 * rs.length))), 22, true⟩, ⟨[], 74, true⟩]) (B := [⟨fta rs.length os.length js.length tk x y, 28, true⟩]) (args0 := [.c (.mu 0 0 js.length 25), cI ((a + 19 * rs.length) + os.length)]) (H' := FT ((List.range rs.length).map (rmark a)) ((List.range os.length).map (fmark (a + 19 * rs.length))) (jmks ((a + 19 * rs.length) + os.length) js) ++ [⟨fta rs.length os.length js.length tk x y, 28, true⟩]) (cMkJ js ((a + 19 * rs.length) + os.length) (by omega) hJ (by omega)) rfl rfl (by rw [rowN_len JN_ok, rowN_len JN_ok]; simp) (rowN_live JN_ok js) (rowN_cl JN_ok js (by rw [rowN_len JN_ok]; exact Nat.le_refl _)) (rowN_cl JN_ok _ (by rw [rowN_len JN_ok]; simp)) (by simp [clV1, clC]) (by simp [clV1, clC]) rfl rfl rfl rfl ?_
  refine v_assign rfl ?_
  refine v_nil ?_
  refine q_n ?_
  refine w_seq ?_
  refine w_reg rfl ?_
  refine v_fa_pt (off' := 3) lay28 rfl rfl rfl ?_
  refine p_load_pt hA3 (.c _) lay26 rfl rfl rfl rfl ?_
  refine v_move rfl ?_
  refine v_segdet (A := [⟨flat rdc ((List.range rs.length).map (rmark a)), 41, true⟩, ⟨flat fe ((List.range os.length).map (fmark (a + 19 * rs.length))), 22, true⟩]) (B := seg 3 (rowN JN 53 (jmks ((a + 19 * rs.length) + os.length) js)) ++ [⟨fta rs.length os.length js.length tk x y, 28, true⟩]) (args0 := [.c (.mu 0 0 0 3), cI (jA ((a + 19 * rs.length) + os.length) js js.length)]) (H' := FT ((List.range rs.length).map (rmark a)) ((List.range os.length).map (fmark (a + 19 * rs.length))) (jmks ((a + 19 * rs.length) + os.length) js) ++ [⟨fta rs.length os.length js.length tk x y, 28, true⟩]) (cMkP (jA ((a + 19 * rs.length) + os.length) js js.length)) rfl rfl rfl (by simp) (by simp) (by simp) (by simp [clV1, clC]) (by simp [clV1, clC]) rfl rfl rfl rfl ?_
  refine v_assign rfl ?_
  refine v_nil ?_
  refine q_n ?_
  refine w_seq ?_
  refine w_reg rfl ?_
  refine v_move rfl ?_
  refine v_assign rfl ?_
  refine v_nil ?_
  refine q_n ?_
  refine w_ret ?_
  refine r_r rfl ?_
  have hl3 : (jmks ((a + 19 * rs.length) + os.length) js).length = js.length := by simp
  exact g_ans (H1 := FT ((List.range rs.length).map (rmark a)) ((List.range os.length).map (fmark (a + 19 * rs.length))) (jmks ((a + 19 * rs.length) + os.length) js)) (ids 0 (2 * js.length + 4)) nodup_ids (fix_ids (by show (FT rs os js ++ []).length ≤ _; rw [List.append_nil, FT_len]; exact Nat.le_refl _)) (lt_ids (by show _ ≤ (FT _ _ _ ++ _).length; rw [List.length_append, FT_len, hl3]; omega)) (turnp_of (turn_FT (by omega))) tr_v ⟨rfl, rfl⟩
theorem cHdI (ys : List Int) (a : Int) (hx : ys.length ≤ 2 ^ 40) (ha : 0 ≤ a ∧ a ≤ 2 ^ 50) (hy : ∀ i, (h : i < ys.length) → ys[i] = a + i) : PureC X 39 [.c (ints false ys), cI a] (cI (a + ys.length)) := by
  refine PureC.of_body (drawD_ok X) (fun _ _ => Go.Proofs.Try.call39 _ _) Go.Proofs.Try.func39 rfl (n := 21) rfl ?_
  refine w_seq ?_
  refine w_reg rfl ?_
  refine v_assign (c := .v (.int .i64 0)) rfl ?_
  refine v_nil ?_
  refine q_n ?_
  refine w_seq ?_
  refine w_seq ?_
  refine w_reg rfl ?_
  refine v_assign (c := .v (.int .i64 0)) rfl ?_
  refine v_nil ?_
  refine q_n ?_
  refine w_block ?_
  refine w_loop (fun k sl H => ∃ i : Nat, k = ys.length - i ∧ i ≤ ys.length ∧ sl = sls [(0, .c (ints false ys)), (1, cI (a + i)), (5, cI i)] ∧ H = []) ?_ ?_
  · refine ⟨_, _, _, ?_, 0, rfl, Nat.zero_le _, rfl, rfl⟩
    exact turn0 ⟨tr_sl, tr_i (by simp), tr_v, trivial⟩
  rintro k sl H ⟨i, rfl, hi, rfl, rfl⟩
  refine w_seq ?_
  refine w_seq ?_
  refine w_reg rfl ?_
  refine v_move rfl ?_
  refine v_move rfl ?_
  refine v_len_sl lay51 rfl ?_
  refine v_lss lay3 rfl rfl (fun h1 => ?_) (fun h1 => ?_)
  rotate_left
  · refine v_nil ?_
    refine q_n ?_
    refine w_f rfl ?_
    refine w_exit ?_
    refine q_e ?_
    refine q_e ?_
    refine q_hit ?_
    refine q_n ?_
    refine w_seq ?_
    refine w_reg rfl ?_
    refine v_move rfl ?_
    refine v_assign rfl ?_
    refine v_nil ?_
    refine q_n ?_
    refine w_ret ?_
    refine r_r rfl ?_
    obtain rfl : i = ys.length := by omega
    exact a_i rfl
  have hi1 : i < ys.length := by omega
  refine v_nil ?_
  refine q_n ?_
  refine w_t rfl ?_
  refine w_skip ?_
  refine q_n ?_
  refine w_seq ?_
  refine w_block ?_
  refine w_seq ?_
  refine w_seq ?_
  refine w_reg rfl ?_
  refine v_move rfl ?_
  refine v_move rfl ?_
  have hq2 : i < _ := hi1
  refine v_idx_n (k := 1) i int_len lay51 lay2 rfl rfl rfl (rfl) rfl hq2 ?_
  refine v_load_vw (.c (.v _)) lay2 rfl rfl rfl ?_
  refine v_move rfl ?_
  refine v_neq lay2 rfl rfl (fun h3 => ?_) (fun h3 => ?_)
  · exact absurd (hy i hi1) h3
  refine v_nil ?_
  refine q_n ?_
  refine w_f rfl ?_
  refine w_skip ?_
  refine q_n ?_
  refine w_reg rfl ?_
  refine v_move rfl ?_
  refine v_add lay3 rfl rfl (i64r (by omega)) ?_
  refine v_assign rfl ?_
  refine v_nil ?_
  refine q_bn ?_
  refine q_n ?_
  refine w_reg rfl ?_
  refine v_move rfl ?_
  refine v_add lay3 rfl rfl (i64r (by omega)) ?_
  refine v_assign rfl ?_
  refine v_nil ?_
  refine q_n ?_
  refine ⟨_, _, _, ?_, ⟨i + 1, rfl, by omega, rfl, rfl⟩, by omega⟩
  exact turn0 ⟨tr_sl, tr_i (by push_cast; omega), tr_v, trivial⟩
theorem cHdF (ys : List (Option Nat)) (a : Int) (hx : ys.length ≤ 2 ^ 40) (ha : 0 ≤ a ∧ a ≤ 2 ^ 50) (hy : ∀ i, (h : i < ys.length) → ys[i] = fl (a + i)) : PureC X 25 [.c (flo false ys), cI a] (cI (a + ys.length)) := by
  refine PureC.of_body (drawD_ok X) (fun _ _ => Go.Proofs.Try.call25 _ _) Go.Proofs.Try.func25 rfl (n := 22) rfl ?_
  refine w_seq ?_
  refine w_reg rfl ?_
  refine v_assign (c := .v (.int .i64 0)) rfl ?_
  refine v_nil ?_
  refine q_n ?_
  refine w_seq ?_
  refine w_seq ?_
  refine w_reg rfl ?_
  refine v_assign (c := .v (.int .i64 0)) rfl ?_
  refine v_nil ?_
  refine q_n ?_
  refine w_block ?_
  refine w_loop (fun k sl H => ∃ i : Nat, k = ys.length - i ∧ i ≤ ys.length ∧ sl = sls [(0, .c (flo false ys)), (1, cI (a + i)), (5, cI i)] ∧ H = []) ?_ ?_
  · refine ⟨_, _, _, ?_, 0, rfl, Nat.zero_le _, rfl, rfl⟩
    exact turn0 ⟨tr_sl, tr_i (by simp), tr_v, trivial⟩
  rintro k sl H ⟨i, rfl, hi, rfl, rfl⟩
  refine w_seq ?_
  refine w_seq ?_
  refine w_reg rfl ?_
  refine v_move rfl ?_
  refine v_move rfl ?_
  refine v_len_sl lay24 rfl ?_
  refine v_lss lay3 rfl rfl (fun h1 => ?_) (fun h1 => ?_)
  rotate_left
  · refine v_nil ?_
    refine q_n ?_
    refine w_f rfl ?_
    refine w_exit ?_
    refine q_e ?_
    refine q_e ?_
    refine q_hit ?_
    refine q_n ?_
    refine w_seq ?_
    refine w_reg rfl ?_
    refine v_move rfl ?_
    refine v_assign rfl ?_
    refine v_nil ?_
    refine q_n ?_
    refine w_ret ?_
    refine r_r rfl ?_
    obtain rfl : i = ys.length := by omega
    exact a_i rfl
  have hi1 : i < ys.length := by omega
  refine v_nil ?_
  refine q_n ?_
  refine w_t rfl ?_
  refine w_skip ?_
  refine q_n ?_
  refine w_seq ?_
  refine w_block ?_
  refine w_seq ?_
  refine w_seq ?_
  refine w_reg rfl ?_
  refine v_move rfl ?_
  refine v_move rfl ?_
  have hq2 : i < _ := hi1
  refine v_idx_n (k := 1) i fe_len lay24 lay22 rfl rfl rfl (rfl) rfl hq2 ?_
  refine v_load_vw (.c (.f _ _)) lay22 rfl rfl rfl ?_
  refine v_move rfl ?_
  refine v_conv_if lay3 lay22 rfl ?_
  refine v_binb lay22 rfl rfl rfl (fun h3 => ?_) (fun h3 => ?_)
  · exact absurd h3 (by rw [fl_ne (hy i hi1) rfl]; decide)
  refine v_nil ?_
  refine q_n ?_
  refine w_f rfl ?_
  refine w_skip ?_
  refine q_n ?_
  refine w_reg rfl ?_
  refine v_move rfl ?_
  refine v_add lay3 rfl rfl (i64r (by omega)) ?_
  refine v_assign rfl ?_
  refine v_nil ?_
  refine q_bn ?_
  refine q_n ?_
  refine w_reg rfl ?_
  refine v_move rfl ?_
  refine v_add lay3 rfl rfl (i64r (by omega)) ?_
  refine v_assign rfl ?_
  refine v_nil ?_
  refine q_n ?_
  refine ⟨_, _, _, ?_, ⟨i + 1, rfl, by omega, rfl, rfl⟩, by omega⟩
  exact turn0 ⟨tr_sl, tr_i (by push_cast; omega), tr_v, trivial⟩
theorem cHdR (ys : List Rd) (a : Int) (hx : ys.length ≤ 2 ^ 40) (ha : 0 ≤ a ∧ a ≤ 2 ^ 50) (hy : ∀ i, (h : i < ys.length) → ys[i] = rmark a i) : PureC X 24 [.c (rds false ys), cI a] (cI (a + 19 * ys.length)) := by
  refine PureC.of_body (drawD_ok X) (fun _ _ => Go.Proofs.Try.call24 _ _) Go.Proofs.Try.func24 rfl (n := 60) rfl ?_
  refine w_seq ?_
  refine w_reg rfl ?_
  refine v_assign (c := .v (.int .i64 0)) rfl ?_
  refine v_nil ?_
  refine q_n ?_
  refine w_seq ?_
  refine w_seq ?_
  refine w_reg rfl ?_
  refine v_assign (c := .v (.int .i64 0)) rfl ?_
  refine v_nil ?_
  refine q_n ?_
  refine w_block ?_
  refine w_loop (fun k sl H => ∃ i : Nat, k = ys.length - i ∧ i ≤ ys.length ∧ sl = sls [(0, .c (rds false ys)), (1, cI (a + 19 * i)), (5, cI i)] ∧ H = []) ?_ ?_
  · refine ⟨_, _, _, ?_, 0, rfl, Nat.zero_le _, rfl, rfl⟩
    exact turn0 ⟨tr_sl, tr_i (by simp), tr_v, trivial⟩
  rintro k sl H ⟨i, rfl, hi, rfl, rfl⟩
  refine w_seq ?_
  refine w_seq ?_
  refine w_reg rfl ?_
  refine v_move rfl ?_
  refine v_move rfl ?_
  refine v_len_sl lay23 rfl ?_
  refine v_lss lay3 rfl rfl (fun h1 => ?_) (fun h1 => ?_)
  rotate_left
  · refine v_nil ?_
    refine q_n ?_
    refine w_f rfl ?_
    refine w_exit ?_
    refine q_e ?_
    refine q_e ?_
    refine q_hit ?_
    refine q_n ?_
    refine w_seq ?_
    refine w_reg rfl ?_
    refine v_move rfl ?_
    refine v_assign rfl ?_
    refine v_nil ?_
    refine q_n ?_
    refine w_ret ?_
    refine r_r rfl ?_
    obtain rfl : i = ys.length := by omega
    exact a_i rfl
  have hi1 : i < ys.length := by omega
  have hE := hy i hi1
  refine v_nil ?_
  refine q_n ?_
  refine w_t rfl ?_
  refine w_skip ?_
  refine q_n ?_
  refine w_seq ?_
  refine w_block ?_
  refine w_seq ?_
  refine w_seq ?_
  refine w_reg rfl ?_
  refine v_assign (c := .v (.int .i64 0)) rfl ?_
  refine v_nil ?_
  refine q_n ?_
  refine w_block ?_
  refine w_loop (fun k sl H => ∃ j : Nat, k = 16 - j ∧ j ≤ 16 ∧ sl = sls [(0, .c (rds false ys)), (1, cI (a + 19 * i + j)), (5, cI i), (6, cI j)] ∧ H = []) ?_ ?_
  · refine ⟨_, _, _, ?_, 0, rfl, Nat.zero_le _, rfl, rfl⟩
    exact turn0 ⟨tr_sl, tr_i (by simp), tr_v, tr_v, trivial⟩
  rintro k sl H ⟨j, rfl, hj, rfl, rfl⟩
  refine w_seq ?_
  refine w_seq ?_
  refine w_reg rfl ?_
  refine v_move rfl ?_
  refine v_lss lay3 rfl rfl (fun h2 => ?_) (fun h2 => ?_)
  · have hj1 : j < 16 := by omega
    refine v_nil ?_
    refine q_n ?_
    refine w_t rfl ?_
    refine w_skip ?_
    refine q_n ?_
    refine w_seq ?_
    refine w_block ?_
    refine w_seq ?_
    refine w_seq ?_
    refine w_reg rfl ?_
    refine v_move rfl ?_
    refine v_move rfl ?_
    refine v_move rfl ?_
    have hq3 : i < _ := hi1
    refine v_idx_n (k := 19) i rdc_len lay23 lay41 rfl rfl rfl (rfl) rfl hq3 ?_
    refine v_fa_vw (off' := 0) lay41 rfl rfl rfl ?_
    refine v_idx_av_e (k := 1) (j) lay39 lay22 rfl rfl rfl (rfl) (hj1) ?_
    refine v_load_vw_e (.c (.f .f32 ((ys[i]).1 ⟨j, hj1⟩))) lay22 rfl (by show 0 + j * 1 + 1 ≤ 19; omega) (rd_get _ hj1) ?_
    refine v_move rfl ?_
    refine v_conv_if lay3 lay22 rfl ?_
    refine v_binb lay22 rfl rfl rfl (fun h4 => ?_) (fun h4 => ?_)
    · exact absurd h4 (by rw [fl_ne ((by rw [hE]; rfl : (ys[i]).1 ⟨j, hj1⟩ = fl (a + 19 * i + j))) (rfl)]; decide)
    refine v_nil ?_
    refine q_n ?_
    refine w_f rfl ?_
    refine w_skip ?_
    refine q_n ?_
    refine w_reg rfl ?_
    refine v_move rfl ?_
    refine v_add lay3 rfl rfl (i64r (by omega)) ?_
    refine v_assign rfl ?_
    refine v_nil ?_
    refine q_bn ?_
    refine q_n ?_
    refine w_reg rfl ?_
    refine v_move rfl ?_
    refine v_add lay3 rfl rfl (i64r (by omega)) ?_
    refine v_assign rfl ?_
    refine v_nil ?_
    refine q_n ?_
    refine ⟨_, _, _, ?_, ⟨j + 1, rfl, by omega, rfl, rfl⟩, by omega⟩
    exact turn0 ⟨tr_sl, tr_i (by push_cast; omega), tr_v, tr_v, trivial⟩
  refine v_nil ?_
  refine q_n ?_
  refine w_f rfl ?_
  refine w_exit ?_
  refine q_e ?_
  refine q_e ?_
  refine q_hit ?_
  refine q_n ?_
  refine w_seq ?_
  refine w_seq ?_
  refine w_reg rfl ?_
  refine v_move rfl ?_
  refine v_move rfl ?_
  have hq5 : i < _ := hi1
  refine v_idx_n (k := 19) i rdc_len lay23 lay41 rfl rfl rfl (rfl) rfl hq5 ?_
  refine v_fa_vw (off' := 16) lay41 rfl rfl rfl ?_
  refine v_load_vw (.c (.f _ _)) lay22 rfl rfl rfl ?_
  refine v_move rfl ?_
  refine v_conv_if lay3 lay22 rfl ?_
  refine v_binb lay22 rfl rfl rfl (fun h6 => ?_) (fun h6 => ?_)
  · exact absurd h6 (by rw [fl_ne ((by rw [hE]; rfl : (ys[i]).2.1 = fl (a + 19 * i + 16))) (by omega)]; decide)
  refine v_nil ?_
  refine q_n ?_
  refine w_f rfl ?_
  refine w_skip ?_
  refine q_n ?_
  refine w_seq ?_
  refine w_reg rfl ?_
  refine v_move rfl ?_
  refine v_add lay3 rfl rfl (i64r (by omega)) ?_
  refine v_assign rfl ?_
  refine v_nil ?_
  refine q_n ?_
  refine w_seq ?_
  refine w_seq ?_
  refine w_reg rfl ?_
  refine v_move rfl ?_
  refine v_move rfl ?_
  have hq7 : i < _ := hi1
  refine v_idx_n (k := 19) i rdc_len lay23 lay41 rfl rfl rfl (rfl) rfl hq7 ?_
  refine v_fa_vw (off' := 17) lay41 rfl rfl rfl ?_
  refine v_load_vw (.c (.f _ _)) lay22 rfl rfl rfl ?_
  refine v_move rfl ?_
  refine v_conv_if lay3 lay22 rfl ?_
  refine v_binb lay22 rfl rfl rfl (fun h8 => ?_) (fun h8 => ?_)
  · exact absurd h8 (by rw [fl_ne ((by rw [hE]; rfl : (ys[i]).2.2.1 = fl (a + 19 * i + 17))) (by omega)]; decide)
  refine v_nil ?_
  refine q_n ?_
  refine w_f rfl ?_
  refine w_skip ?_
  refine q_n ?_
  refine w_seq ?_
  refine w_reg rfl ?_
  refine v_move rfl ?_
  refine v_add lay3 rfl rfl (i64r (by omega)) ?_
  refine v_assign rfl ?_
  refine v_nil ?_
  refine q_n ?_
  refine w_seq ?_
  refine w_seq ?_
  refine w_reg rfl ?_
  refine v_move rfl ?_
  refine v_move rfl ?_
  have hq9 : i < _ := hi1
  refine v_idx_n (k := 19) i rdc_len lay23 lay41 rfl rfl rfl (rfl) rfl hq9 ?_
  refine v_fa_vw (off' := 18) lay41 rfl rfl rfl ?_
  refine v_load_vw (.c (.f _ _)) lay22 rfl rfl rfl ?_
  refine v_move rfl ?_
  refine v_conv_if lay3 lay22 rfl ?_
  refine v_binb lay22 rfl rfl rfl (fun h10 => ?_) (fun h10 => ?_)
  · exact absurd h10 (by rw [fl_ne ((by rw [hE]; rfl : (ys[i]).2.2.2 = fl (a + 19 * i + 18))) (by omega)]; decide)
  refine v_nil ?_
  refine q_n ?_
  refine w_f rfl ?_
  refine w_skip ?_
  refine q_n ?_
  refine w_reg rfl ?_
  refine v_move rfl ?_
  refine v_add lay3 rfl rfl (i64r (by omega)) ?_
  refine v_assign rfl ?_
  refine v_nil ?_
  refine q_bn ?_
  refine q_n ?_
  refine w_reg rfl ?_
  refine v_move rfl ?_
  refine v_add lay3 rfl rfl (i64r (by omega)) ?_
  refine v_assign rfl ?_
  refine v_nil ?_
  refine q_n ?_
  obtain rfl : j = 16 := by omega
  refine ⟨_, _, _, ?_, ⟨i + 1, rfl, by omega, rfl, rfl⟩, by omega⟩
  exact turn0 ⟨tr_sl, tr_i (by push_cast; omega), tr_v, trivial⟩
theorem cHdJ (ys js : List Jo) (a : Int) (hx : js.length ≤ 2 ^ 20) (hJ : ∀ j ∈ js, j.2.1.length ≤ 2 ^ 20 ∧ j.2.2.1.length ≤ 2 ^ 20) (ha : 0 ≤ a ∧ a ≤ 2 ^ 40) (hl : ys.length = js.length) (hy : ∀ i, (h : i < ys.length) → ys[i] = jmf a js i) : PureC X 26 [.c (jos false ys), cI a] (cI (jA a js js.length)) := by
  refine PureC.of_body (drawD_ok X) (fun _ _ => Go.Proofs.Try.call26 _ _) Go.Proofs.Try.func26 rfl (n := 78) rfl ?_
  refine w_seq ?_
  refine w_reg rfl ?_
  refine v_assign (c := .v (.int .i64 0)) rfl ?_
  refine v_nil ?_
  refine q_n ?_
  refine w_seq ?_
  refine w_seq ?_
  refine w_reg rfl ?_
  refine v_assign (c := .v (.int .i64 0)) rfl ?_
  refine v_nil ?_
  refine q_n ?_
  refine w_block ?_
  refine w_loop (fun k sl H => ∃ i : Nat, k = ys.length - i ∧ i ≤ ys.length ∧ sl = sls [(0, .c (jos false ys)), (1, cI (jA a js i)), (5, cI i)] ∧ H = []) ?_ ?_
  · refine ⟨_, _, _, ?_, 0, rfl, Nat.zero_le _, rfl, rfl⟩
    exact turn0 ⟨tr_sl, tr_v, tr_v, trivial⟩
  rintro k sl H ⟨i, rfl, hi, rfl, rfl⟩
  refine w_seq ?_
  refine w_seq ?_
  refine w_reg rfl ?_
  refine v_move rfl ?_
  refine v_move rfl ?_
  refine v_len_sl lay25 rfl ?_
  refine v_lss lay3 rfl rfl (fun h1 => ?_) (fun h1 => ?_)
  rotate_left
  · refine v_nil ?_
    refine q_n ?_
    refine w_f rfl ?_
    refine w_exit ?_
    refine q_e ?_
    refine q_e ?_
    refine q_hit ?_
    refine q_n ?_
    refine w_seq ?_
    refine w_reg rfl ?_
    refine v_move rfl ?_
    refine v_assign rfl ?_
    refine v_nil ?_
    refine q_n ?_
    refine w_ret ?_
    refine r_r rfl ?_
    obtain rfl : i = ys.length := by omega
    exact a_i (by rw [hl])
  have hi1 : i < ys.length := by omega
  have hi2 : i < js.length := by omega
  have hA := jA_rng (a := a) hJ (i := i) (by omega)
  have hk := hJ _ (List.getElem_mem hi2)
  have hst := jA_step (a := a) hi2
  have hE : ys[i] = jmk (jA a js i) js[i] := by rw [hy i hi1]; unfold jmf; rw [jgd hi2]
  obtain ⟨g1, g2, g3, g4, g5, g6, g7, g8⟩ := jmk_in hE
  refine v_nil ?_
  refine q_n ?_
  refine w_t rfl ?_
  refine w_skip ?_
  refine q_n ?_
  refine w_seq ?_
  refine w_block ?_
  refine w_seq ?_
  refine w_seq ?_
  refine w_reg rfl ?_
  refine v_move rfl ?_
  refine v_move rfl ?_
  have hq2 : i < _ := hi1
  refine v_idx_n (k := 25) i joc_len lay25 lay53 rfl rfl rfl (rfl) rfl hq2 ?_
  refine v_fa_vw (off' := 0) lay53 rfl rfl rfl ?_
  refine v_fa_vw (off' := 0) lay49 rfl rfl rfl ?_
  refine v_load_vw (.c (.v _)) lay2 rfl rfl rfl ?_
  refine v_move rfl ?_
  refine v_neq lay2 rfl rfl (fun h3 => ?_) (fun h3 => ?_)
  · exact absurd (g5) h3
  refine v_nil ?_
  refine q_n ?_
  refine w_f rfl ?_
  refine w_skip ?_
  refine q_n ?_
  refine w_seq ?_
  refine w_reg rfl ?_
  refine v_move rfl ?_
  refine v_add lay3 rfl rfl (i64r (by omega)) ?_
  refine v_assign rfl ?_
  refine v_nil ?_
  refine q_n ?_
  refine w_seq ?_
  refine w_seq ?_
  refine w_reg rfl ?_
  refine v_move rfl ?_
  refine v_move rfl ?_
  have hq4 : i < _ := hi1
  refine v_idx_n (k := 25) i joc_len lay25 lay53 rfl rfl rfl (rfl) rfl hq4 ?_
  refine v_fa_vw (off' := 0) lay53 rfl rfl rfl ?_
  refine v_fa_vw (off' := 1) lay49 rfl rfl rfl ?_
  refine v_load_vw (.c (.v _)) lay2 rfl rfl rfl ?_
  refine v_move rfl ?_
  refine v_neq lay2 rfl rfl (fun h5 => ?_) (fun h5 => ?_)
  · exact absurd (g6) h5
  refine v_nil ?_
  refine q_n ?_
  refine w_f rfl ?_
  refine w_skip ?_
  refine q_n ?_
  refine w_seq ?_
  refine w_reg rfl ?_
  refine v_move rfl ?_
  refine v_add lay3 rfl rfl (i64r (by omega)) ?_
  refine v_assign rfl ?_
  refine v_nil ?_
  refine q_n ?_
  refine w_seq ?_
  refine w_seq ?_
  refine w_reg rfl ?_
  refine v_assign (c := .v (.int .i64 0)) rfl ?_
  refine v_nil ?_
  refine q_n ?_
  refine w_block ?_
  refine w_loop (fun k sl H => ∃ p : Nat, k = 4 - p ∧ p ≤ 4 ∧ sl = sls [(0, .c (jos false ys)), (1, cI (jA a js i + 2 + p)), (5, cI i), (6, cI p)] ∧ H = []) ?_ ?_
  · refine ⟨_, _, _, ?_, 0, rfl, Nat.zero_le _, rfl, rfl⟩
    exact turn0 ⟨tr_sl, tr_i (by simp only [Int.natCast_zero]; omega), tr_v, tr_v, trivial⟩
  rintro k sl H ⟨p, rfl, hp, rfl, rfl⟩
  refine w_seq ?_
  refine w_seq ?_
  refine w_reg rfl ?_
  refine v_move rfl ?_
  refine v_lss lay3 rfl rfl (fun h6 => ?_) (fun h6 => ?_)
  · have hp1 : p < 4 := by omega
    refine v_nil ?_
    refine q_n ?_
    refine w_t rfl ?_
    refine w_skip ?_
    refine q_n ?_
    refine w_seq ?_
    refine w_block ?_
    refine w_seq ?_
    refine w_seq ?_
    refine w_reg rfl ?_
    refine v_move rfl ?_
    refine v_move rfl ?_
    refine v_move rfl ?_
    have hq7 : i < _ := hi1
    refine v_idx_n (k := 25) i joc_len lay25 lay53 rfl rfl rfl (rfl) rfl hq7 ?_
    refine v_fa_vw (off' := 0) lay53 rfl rfl rfl ?_
    refine v_fa_vw (off' := 18) lay49 rfl rfl rfl ?_
    refine v_idx_av_e (k := 1) (p) lay47 lay22 rfl rfl rfl (rfl) (hp1) ?_
    refine v_load_vw_e (.c (.f .f32 ((ys[i]).1.2.2.2 ⟨p, hp1⟩))) lay22 rfl (by show 18 + p * 1 + 1 ≤ 25; omega) (jp_ld8 (ys[i]).1 [.sl true (ys[i]).2.1.length 1 (flat int (ys[i]).2.1), .sl true (ys[i]).2.2.1.length 1 (flat int (ys[i]).2.2.1), .v (.int .i64 (ys[i]).2.2.2)] hp1) ?_
    refine v_move rfl ?_
    refine v_conv_if lay3 lay22 rfl ?_
    refine v_binb lay22 rfl rfl rfl (fun h8 => ?_) (fun h8 => ?_)
    · exact absurd h8 (by rw [fl_ne (g7 p hp1) (rfl)]; decide)
    refine v_nil ?_
    refine q_n ?_
    refine w_f rfl ?_
    refine w_skip ?_
    refine q_n ?_
    refine w_reg rfl ?_
    refine v_move rfl ?_
    refine v_add lay3 rfl rfl (i64r (by omega)) ?_
    refine v_assign rfl ?_
    refine v_nil ?_
    refine q_bn ?_
    refine q_n ?_
    refine w_reg rfl ?_
    refine v_move rfl ?_
    refine v_add lay3 rfl rfl (i64r (by omega)) ?_
    refine v_assign rfl ?_
    refine v_nil ?_
    refine q_n ?_
    refine ⟨_, _, _, ?_, ⟨p + 1, rfl, by omega, rfl, rfl⟩, by omega⟩
    exact turn0 ⟨tr_sl, tr_i (by push_cast; omega), tr_v, tr_v, trivial⟩
  obtain rfl : p = 4 := by omega
  rw [show jA a js i + 2 + ((4 : Nat) : Int) = jA a js i + 6 from by omega]
  refine v_nil ?_
  refine q_n ?_
  refine w_f rfl ?_
  refine w_exit ?_
  refine q_e ?_
  refine q_e ?_
  refine q_hit ?_
  refine q_n ?_
  refine w_seq ?_
  refine w_reg rfl ?_
  refine v_move rfl ?_
  refine v_move rfl ?_
  have hq9 : i < _ := hi1
  refine v_idx_n (k := 25) i joc_len lay25 lay53 rfl rfl rfl (rfl) rfl hq9 ?_
  refine v_fa_vw (off' := 22) lay53 rfl rfl rfl ?_
  refine v_load_vw (.c (_)) lay51 rfl rfl rfl ?_
  refine v_move rfl ?_
  refine v_call (cHdI (ys[i]).2.1 (jA a js i + 6) (by omega) (by omega) g1) rfl rfl rfl (.cons vw_sl (.cons vw_v .nil)) ?_
  refine v_assign rfl ?_
  refine v_nil ?_
  refine q_n ?_
  refine w_seq ?_
  refine w_seq ?_
  refine w_reg rfl ?_
  refine v_move rfl ?_
  refine v_lss lay3 rfl rfl (fun h10 => ?_) (fun h10 => ?_)
  · exact absurd h10 (by omega)
  refine v_nil ?_
  refine q_n ?_
  refine w_f rfl ?_
  refine w_skip ?_
  refine q_n ?_
  refine w_seq ?_
  refine w_reg rfl ?_
  refine v_move rfl ?_
  refine v_move rfl ?_
  have hq11 : i < _ := hi1
  refine v_idx_n (k := 25) i joc_len lay25 lay53 rfl rfl rfl (rfl) rfl hq11 ?_
  refine v_fa_vw (off' := 23) lay53 rfl rfl rfl ?_
  refine v_load_vw (.c (_)) lay51 rfl rfl rfl ?_
  refine v_move rfl ?_
  refine v_call (cHdI (ys[i]).2.2.1 (jA a js i + 6 + (ys[i]).2.1.length) (by omega) (by omega) g3) rfl rfl rfl (.cons vw_sl (.cons vw_v .nil)) ?_
  refine v_assign rfl ?_
  refine v_nil ?_
  refine q_n ?_
  refine w_seq ?_
  refine w_seq ?_
  refine w_reg rfl ?_
  refine v_move rfl ?_
  refine v_lss lay3 rfl rfl (fun h12 => ?_) (fun h12 => ?_)
  · exact absurd h12 (by omega)
  refine v_nil ?_
  refine q_n ?_
  refine w_f rfl ?_
  refine w_skip ?_
  refine q_n ?_
  refine w_seq ?_
  refine w_seq ?_
  refine w_reg rfl ?_
  refine v_move rfl ?_
  refine v_move rfl ?_
  have hq13 : i < _ := hi1
  refine v_idx_n (k := 25) i joc_len lay25 lay53 rfl rfl rfl (rfl) rfl hq13 ?_
  refine v_fa_vw (off' := 24) lay53 rfl rfl rfl ?_
  refine v_load_vw (.c (.v _)) lay2 rfl rfl rfl ?_
  refine v_move rfl ?_
  refine v_neq lay2 rfl rfl (fun h14 => ?_) (fun h14 => ?_)
  · exact absurd (g8) h14
  refine v_nil ?_
  refine q_n ?_
  refine w_f rfl ?_
  refine w_skip ?_
  refine q_n ?_
  refine w_reg rfl ?_
  refine v_move rfl ?_
  refine v_add lay3 rfl rfl (i64r (by omega)) ?_
  refine v_assign rfl ?_
  refine v_nil ?_
  refine q_bn ?_
  refine q_n ?_
  refine w_reg rfl ?_
  refine v_move rfl ?_
  refine v_add lay3 rfl rfl (i64r (by omega)) ?_
  refine v_assign rfl ?_
  refine v_nil ?_
  refine q_n ?_
  refine ⟨_, _, _, ?_, ⟨i + 1, rfl, by omega, rfl, rfl⟩, by omega⟩
  exact turn0 ⟨tr_sl, tr_i (by rw [hst]; omega), tr_v, trivial⟩
theorem cHdT (rs : List Rd) (os : List (Option Nat)) (ys js : List Jo) (tk : Int) (x y : Option Nat) (a : Int) (hrl : rs.length ≤ 2 ^ 20) (hol : os.length ≤ 2 ^ 20) (hx : js.length ≤ 2 ^ 20) (hJ : ∀ j ∈ js, j.2.1.length ≤ 2 ^ 20 ∧ j.2.2.1.length ≤ 2 ^ 20) (ha : 0 ≤ a ∧ a ≤ 2 ^ 20) (hl : ys.length = js.length) (hr : ∀ i, (h : i < rs.length) → rs[i] = rmark a i) (ho : ∀ i, (h : i < os.length) → os[i] = fl ((a + 19 * rs.length) + i)) (hj : ∀ i, (h : i < ys.length) → ys[i] = jmf ((a + 19 * rs.length) + os.length) js i) : PureC X 8 [.agg [rds false rs, flo false os, jos false ys, pls false [], .v (.int .i64 tk), .f .f32 x, .f .f32 y], cI a] (cI (jA ((a + 19 * rs.length) + os.length) js js.length)) := by
  refine PureC.of_body (drawD_ok X) (fun _ _ => Go.Proofs.Try.call8 _ _) Go.Proofs.Try.func8 rfl (n := 30) rfl ?_
  have hA := jA_rng (a := ((a + 19 * rs.length) + os.length)) hJ (i := js.length) (Nat.le_refl _)
  refine w_seq ?_
  refine w_reg rfl ?_
  refine v_box (m := 0) (H' := [_]) lay28 rfl rfl rfl ?_
  refine v_assign (c := .v (.int .i64 0)) rfl ?_
  refine v_nil ?_
  refine q_n ?_
  refine w_seq ?_
  refine w_reg rfl ?_
  refine v_fa_pt (off' := 0) lay28 rfl rfl rfl ?_
  refine v_load_pt (.c _) lay23 rfl rfl rfl rfl ?_
  refine v_move rfl ?_
  refine v_call (cHdR rs a (by omega) (by omega) hr) rfl rfl rfl (.cons vw_sl (.cons vw_v .nil)) ?_
  refine v_assign rfl ?_
  refine v_nil ?_
  refine q_n ?_
  refine w_seq ?_
  refine w_seq ?_
  refine w_reg rfl ?_
  refine v_move rfl ?_
  refine v_lss lay3 rfl rfl (fun h1 => ?_) (fun h1 => ?_)
  · exact absurd h1 (by omega)
  refine v_nil ?_
  refine q_n ?_
  refine w_f rfl ?_
  refine w_skip ?_
  refine q_n ?_
  refine w_seq ?_
  refine w_reg rfl ?_
  refine v_fa_pt (off' := 1) lay28 rfl rfl rfl ?_
  refine v_load_pt (.c _) lay24 rfl rfl rfl rfl ?_
  refine v_move rfl ?_
  refine v_call (cHdF os (a + 19 * rs.length) (by omega) (by omega) ho) rfl rfl rfl (.cons vw_sl (.cons vw_v .nil)) ?_
  refine v_assign rfl ?_
  refine v_nil ?_
  refine q_n ?_
  refine w_seq ?_
  refine w_seq ?_
  refine w_reg rfl ?_
  refine v_move rfl ?_
  refine v_lss lay3 rfl rfl (fun h2 => ?_) (fun h2 => ?_)
  · exact absurd h2 (by omega)
  refine v_nil ?_
  refine q_n ?_
  refine w_f rfl ?_
  refine w_skip ?_
  refine q_n ?_
  refine w_seq ?_
  refine w_reg rfl ?_
  refine v_fa_pt (off' := 2) lay28 rfl rfl rfl ?_
  refine v_load_pt (.c _) lay25 rfl rfl rfl rfl ?_
  refine v_move rfl ?_
  refine v_call (cHdJ ys js ((a + 19 * rs.length) + os.length) hx hJ (by omega) hl hj) rfl rfl rfl (.cons vw_sl (.cons vw_v .nil)) ?_
  refine v_assign rfl ?_
  refine v_nil ?_
  refine q_n ?_
  refine w_seq ?_
  refine w_seq ?_
  refine w_reg rfl ?_
  refine v_move rfl ?_
  refine v_lss lay3 rfl rfl (fun h3 => ?_) (fun h3 => ?_)
  · exact absurd h3 (by omega)
  refine v_nil ?_
  refine q_n ?_
  refine w_f rfl ?_
  refine w_skip ?_
  refine q_n ?_
  refine w_seq ?_
  refine w_reg rfl ?_
  refine v_fa_pt (off' := 3) lay28 rfl rfl rfl ?_
  refine v_load_pt (.c _) lay26 rfl rfl rfl rfl ?_
  refine v_move rfl ?_
  refine v_call (cHdP _) rfl rfl rfl (.cons vw_sl (.cons vw_v .nil)) ?_
  refine v_assign rfl ?_
  refine v_nil ?_
  refine q_n ?_
  refine w_seq ?_
  refine w_seq ?_
  refine w_reg rfl ?_
  refine v_move rfl ?_
  refine v_lss lay3 rfl rfl (fun h4 => ?_) (fun h4 => ?_)
  · exact absurd h4 (by omega)
  refine v_nil ?_
  refine q_n ?_
  refine w_f rfl ?_
  refine w_skip ?_
  refine q_n ?_
  refine w_seq ?_
  refine w_reg rfl ?_
  refine v_move rfl ?_
  refine v_assign rfl ?_
  refine v_nil ?_
  refine q_n ?_
  refine w_ret ?_
  refine r_r rfl ?_
  exact a_i rfl
end Go.VL
