/- Texts of one proof, put together: T8, T9, T10, T11, T12, T13, T14, T15, T16, T17. -/
import Derived.Test.YtcdcofpcfhojiaaGreatDoorM3
namespace Go.VL
open Go.RowKit
set_option maxRecDepth 20000
set_option maxHeartbeats 8000000
abbrev feq (x : Option Nat) : Prop := (ford .f32 x (fOf .f32 0) == some .eq) = true
/-- The sum of the first ones of a row. -/
def psm (g : Fo) : Nat → Option Nat
  | 0 => some 0
  | 1 => g 0
  | n + 2 => fop .add .f32 (psm g (n + 1)) (if h : n + 1 < 4 then g ⟨n + 1, h⟩ else none)
theorem psm_1 (g : Fo) {n : Nat} (h : n < 4) (h0 : (n : Int) = 0) : g ⟨n, h⟩ = psm g (n + 1) := by
  obtain rfl : n = 0 := by omega
  rfl
theorem psm_s (g : Fo) {n : Nat} (h : n < 4) (h0 : ¬ (n : Int) = 0) : fop .add .f32 (psm g n) (g ⟨n, h⟩) = psm g (n + 1) := by
  obtain ⟨m, rfl⟩ : ∃ m, n = m + 1 := ⟨n - 1, by omega⟩
  rw [psm, dif_pos h]
def cellOk (j : Jn) (i k : Nat) (x : Option Nat) : Prop := shr x ∧ ((j.1 ≤ i ∨ j.2.1 ≤ k) → feq x)
def prior (x : Option Nat) : Prop := amtB x = true ∧ fge x 1015021568 ∧ fle x 1115684864
def nil0 (x : Option Nat) : Prop := amtB x = true ∧ feq x
instance (x : Option Nat) : Decidable (prior x) := by unfold prior; infer_instance
instance (x : Option Nat) : Decidable (nil0 x) := by unfold nil0; infer_instance
instance (j : Jn) (i k : Nat) (x : Option Nat) : Decidable (cellOk j i k x) := by unfold cellOk; infer_instance
def rowOk (j : Jn) (i : Fin 4) : Prop := (∀ k : Fin 4, cellOk j i.val k.val (j.2.2.1 i k)) ∧ (if j.1 ≤ (i.val : Int) then nil0 (j.2.2.2 i) else (fge (psm (j.2.2.1 i) 4) 1065336439 ∧ fle (psm (j.2.2.1 i) 4) 1065361605) ∧ prior (j.2.2.2 i))
instance (j : Jn) (i : Fin 4) : Decidable (rowOk j i) := by unfold rowOk; infer_instance
/-- A junction that is valid. -/
def jnOk (j : Jn) : Prop := (1 ≤ j.1 ∧ j.1 ≤ 4) ∧ (1 ≤ j.2.1 ∧ j.2.1 ≤ 4) ∧ ∀ i : Fin 4, rowOk j i
instance (j : Jn) : Decidable (jnOk j) := by unfold jnOk; infer_instance
theorem jn_cell {j : Jn} {i n : Nat} {hi : i < 4} {hn : n < 4} (h : ¬ cellOk j i n (j.2.2.1 ⟨i, hi⟩ ⟨n, hn⟩)) : ¬ jnOk j := fun ho => h ((ho.2.2 ⟨i, hi⟩).1 ⟨n, hn⟩)
theorem jn_nil {j : Jn} {i : Nat} {hi : i < 4} (h0 : j.1 ≤ (i : Int)) (h : ¬ nil0 (j.2.2.2 ⟨i, hi⟩)) : ¬ jnOk j := fun ho => by
  have := (ho.2.2 ⟨i, hi⟩).2
  rw [if_pos h0] at this
  exact h this
theorem jn_in {j : Jn} {i : Nat} {hi : i < 4} (h0 : ¬ j.1 ≤ (i : Int)) (h : ¬ ((fge (psm (j.2.2.1 ⟨i, hi⟩) 4) 1065336439 ∧ fle (psm (j.2.2.1 ⟨i, hi⟩) 4) 1065361605) ∧ prior (j.2.2.2 ⟨i, hi⟩))) : ¬ jnOk j := fun ho => by
  have := (ho.2.2 ⟨i, hi⟩).2
  rw [if_neg h0] at this
  exact h this
theorem jt_ld8 (j : Jn) (ra : List C) {i k : Nat} (h : i < 4) (hk : k < 4) : mkV false (reowns false (sub (jnc j ++ ra) (2 + i * 4 + k * 1) 1)) = some (.c (.f .f32 (j.2.2.1 ⟨i, h⟩ ⟨k, hk⟩))) := by
  match i, h, k, hk with
  | 0, _, 0, _ => rfl
  | 0, _, 1, _ => rfl
  | 0, _, 2, _ => rfl
  | 0, _, 3, _ => rfl
  | 1, _, 0, _ => rfl
  | 1, _, 1, _ => rfl
  | 1, _, 2, _ => rfl
  | 1, _, 3, _ => rfl
  | 2, _, 0, _ => rfl
  | 2, _, 1, _ => rfl
  | 2, _, 2, _ => rfl
  | 2, _, 3, _ => rfl
  | 3, _, 0, _ => rfl
  | 3, _, 1, _ => rfl
  | 3, _, 2, _ => rfl
  | 3, _, 3, _ => rfl
theorem jp_ld8 (j : Jn) (ra : List C) {i : Nat} (h : i < 4) : mkV false (reowns false (sub (jnc j ++ ra) (18 + i * 1) 1)) = some (.c (.f .f32 (j.2.2.2 ⟨i, h⟩))) := by
  match i, h with
  | 0, _ => rfl
  | 1, _ => rfl
  | 2, _ => rfl
  | 3, _ => rfl
theorem jn_len8 (j : Jn) (ra : List C) : (jnc j ++ ra).length = 22 + ra.length := by simp; omega
theorem ne_t {o : Option Ordering} (h : (o != some .eq) = true) : ¬ (o == some .eq) = true := by
  intro h2
  simp [bne, h2] at h
theorem ne_f {o : Option Ordering} (h : (o != some .eq) = false) : (o == some .eq) = true := by
  simpa [bne] using h
theorem row_nil {j : Jn} {i : Nat} {hi : i < 4} (hrow : ∀ b : Fin 4, cellOk j i b.val (j.2.2.1 ⟨i, hi⟩ b)) (h0 : j.1 ≤ (i : Int)) (hn : nil0 (j.2.2.2 ⟨i, hi⟩)) : rowOk j ⟨i, hi⟩ := ⟨hrow, by
  rw [if_pos (show j.1 ≤ (((⟨i, hi⟩ : Fin 4).val : Nat) : Int) from h0)]
  exact hn⟩
theorem row_in {j : Jn} {i : Nat} {hi : i < 4} (hrow : ∀ b : Fin 4, cellOk j i b.val (j.2.2.1 ⟨i, hi⟩ b)) (h0 : ¬ j.1 ≤ (i : Int)) (hn : fge (psm (j.2.2.1 ⟨i, hi⟩) 4) 1065336439 ∧ fle (psm (j.2.2.1 ⟨i, hi⟩) 4) 1065361605) (hp : prior (j.2.2.2 ⟨i, hi⟩)) : rowOk j ⟨i, hi⟩ := ⟨hrow, by
  rw [if_neg (show ¬ j.1 ≤ (((⟨i, hi⟩ : Fin 4).val : Nat) : Int) from h0)]
  exact ⟨hn, hp⟩⟩
theorem cArS (n : Int) : PureC X 171 [cI n] (cB (decide (1 ≤ n ∧ n ≤ 4))) := by
  refine PureC.of_body (drawD_ok X) (fun _ _ => Go.Proofs.Tryz.call171 _ _) Go.Proofs.Tryz.func171 rfl (n := 5) rfl ?_
  refine w_seq ?_
  refine w_reg rfl ?_
  refine v_assign (c := .v (.bool false)) rfl ?_
  refine v_nil ?_
  refine q_n ?_
  refine w_seq ?_
  refine w_reg rfl ?_
  refine v_move rfl ?_
  refine v_callb (cIn _ _ _) rfl rfl (.cons vw_v (.cons vw_v (.cons vw_v .nil))) (fun h1 => ?_) (fun h1 => ?_)
  · refine v_assign rfl ?_
    refine v_nil ?_
    refine q_n ?_
    refine w_ret ?_
    refine r_r rfl ?_
    exact a_b (by simp_all)
  refine v_assign rfl ?_
  refine v_nil ?_
  refine q_n ?_
  refine w_ret ?_
  refine r_r rfl ?_
  exact a_b (by simp_all)
theorem cPrS (x : Option Nat) : PureC X 172 [.c (.f .f32 x)] (cB (decide (prior x))) := by
  refine PureC.of_body (drawD_ok X) (fun _ _ => Go.Proofs.Tryz.call172 _ _) Go.Proofs.Tryz.func172 rfl (n := 13) rfl ?_
  refine w_seq ?_
  refine w_reg rfl ?_
  refine v_assign (c := .v (.bool false)) rfl ?_
  refine v_nil ?_
  refine q_n ?_
  refine w_seq ?_
  refine w_reg rfl ?_
  refine v_move rfl ?_
  refine v_callb (cAmS _) rfl rfl (.cons vw_f .nil) (fun h1 => ?_) (fun h1 => ?_)
  rotate_left
  · refine v_move rfl ?_
    refine v_guard_off rfl rfl rfl ?_
    refine v_guard_off rfl rfl rfl ?_
    refine v_pick_f (v := .v (.bool false)) rfl rfl ?_
    refine v_move rfl ?_
    refine v_guard_off rfl rfl rfl ?_
    refine v_guard_off rfl rfl rfl ?_
    refine v_pick_f (v := .v (.bool false)) rfl rfl ?_
    refine v_assign rfl ?_
    refine v_nil ?_
    refine q_n ?_
    refine w_ret ?_
    refine r_r rfl ?_
    exact a_b (by unfold prior; simp_all)
  refine v_move rfl ?_
  refine v_guard_on rfl rfl ?_
  refine v_move rfl ?_
  refine v_guard_on rfl rfl ?_
  refine v_binb lay26 rfl rfl rfl (fun h2 => ?_) (fun h2 => ?_)
  rotate_left
  · replace h2 : ¬ fge x 1015021568 := fun h => absurd (h2.symm.trans h) (by decide)
    refine v_pick_t rfl rfl ?_
    refine v_move rfl ?_
    refine v_guard_off rfl rfl rfl ?_
    refine v_guard_off rfl rfl rfl ?_
    refine v_pick_f (v := .v (.bool false)) rfl rfl ?_
    refine v_assign rfl ?_
    refine v_nil ?_
    refine q_n ?_
    refine w_ret ?_
    refine r_r rfl ?_
    exact a_b (by unfold prior; simp_all)
  replace h2 : fge x 1015021568 := h2
  refine v_pick_t rfl rfl ?_
  refine v_move rfl ?_
  refine v_guard_on rfl rfl ?_
  refine v_move rfl ?_
  refine v_guard_on rfl rfl ?_
  refine v_binb lay26 rfl rfl rfl (fun h3 => ?_) (fun h3 => ?_)
  · replace h3 : fle x 1115684864 := h3
    refine v_pick_t rfl rfl ?_
    refine v_assign rfl ?_
    refine v_nil ?_
    refine q_n ?_
    refine w_ret ?_
    refine r_r rfl ?_
    exact a_b (by unfold prior; simp_all)
  replace h3 : ¬ fle x 1115684864 := fun h => absurd (h3.symm.trans h) (by decide)
  refine v_pick_t rfl rfl ?_
  refine v_assign rfl ?_
  refine v_nil ?_
  refine q_n ?_
  refine w_ret ?_
  refine r_r rfl ?_
  exact a_b (by unfold prior; simp_all)
theorem cJnS (j : Jn) (ra : List C) (hj : jW j) : PureC X 112 [.c (.vw false (jnc j ++ ra) 0)] (cB (decide (jnOk j))) := by
  refine PureC.of_body (drawD_ok X) (fun _ _ => Go.Proofs.Tryz.call112 _ _) Go.Proofs.Tryz.func112 rfl (n := 106) rfl ?_
  refine w_seq ?_
  refine w_reg rfl ?_
  refine v_assign (c := .v (.bool false)) rfl ?_
  refine v_nil ?_
  refine q_n ?_
  refine w_seq ?_
  refine w_seq ?_
  refine w_reg rfl ?_
  refine v_move rfl ?_
  refine v_nil_vw rfl ?_
  refine v_fa_vw (off' := 0) lay72 rfl rfl rfl ?_
  refine v_load_vw (.c (.v _)) lay2 rfl rfl rfl ?_
  refine v_callb (cArS _) rfl rfl (.cons vw_v .nil) (fun h1 => ?_) (fun h1 => ?_)
  rotate_left
  · refine v_not true rfl rfl ?_
    refine v_move rfl ?_
    refine v_guard_off rfl rfl rfl ?_
    refine v_guard_off rfl rfl rfl ?_
    refine v_guard_off rfl rfl rfl ?_
    refine v_guard_off rfl rfl rfl ?_
    refine v_guard_off rfl rfl rfl ?_
    refine v_guard_off rfl rfl rfl ?_
    refine v_pick_t (v := .v (.bool true)) rfl rfl ?_
    refine v_nil ?_
    refine q_n ?_
    refine w_t rfl ?_
    refine w_seq ?_
    refine w_reg rfl ?_
    refine v_assign (c := .v (.bool false)) rfl ?_
    refine v_nil ?_
    refine q_n ?_
    refine w_ret (q_r ?_)
    refine r_r rfl ?_
    exact a_b (by simp only [Bool.false_eq_true, false_iff]; exact fun ho => h1 ho.1)
  refine v_not false rfl rfl ?_
  refine v_move rfl ?_
  refine v_guard_on rfl rfl ?_
  refine v_move rfl ?_
  refine v_guard_on rfl rfl ?_
  refine v_nil_vw rfl ?_
  refine v_guard_on rfl rfl ?_
  refine v_fa_vw (off' := 1) lay72 rfl rfl rfl ?_
  refine v_guard_on rfl rfl ?_
  refine v_load_vw (.c (.v _)) lay2 rfl rfl rfl ?_
  refine v_guard_on rfl rfl ?_
  refine v_callb (cArS _) rfl rfl (.cons vw_v .nil) (fun h2 => ?_) (fun h2 => ?_)
  rotate_left
  · refine v_guard_on rfl rfl ?_
    refine v_not true rfl rfl ?_
    refine v_pick_f rfl rfl ?_
    refine v_nil ?_
    refine q_n ?_
    refine w_t rfl ?_
    refine w_seq ?_
    refine w_reg rfl ?_
    refine v_assign (c := .v (.bool false)) rfl ?_
    refine v_nil ?_
    refine q_n ?_
    refine w_ret (q_r ?_)
    refine r_r rfl ?_
    exact a_b (by simp only [Bool.false_eq_true, false_iff]; exact fun ho => h2 ho.2.1)
  refine v_guard_on rfl rfl ?_
  refine v_not false rfl rfl ?_
  refine v_pick_f rfl rfl ?_
  refine v_nil ?_
  refine q_n ?_
  refine w_f rfl ?_
  refine w_skip ?_
  refine q_n ?_
  refine w_seq ?_
  refine w_seq ?_
  refine w_reg rfl ?_
  refine v_assign (c := .v (.int .i64 0)) rfl ?_
  refine v_nil ?_
  refine q_n ?_
  refine w_block ?_
  refine w_loop (fun k sl H => ∃ i : Nat, k = 4 - i ∧ i ≤ 4 ∧ (∀ a (ha : a < 4), a < i → rowOk j ⟨a, ha⟩) ∧ sl = sls [(0, .c (.vw false (jnc j ++ ra) 0)), (3, cI i)] ∧ H = []) ?_ ?_
  · refine ⟨_, _, _, ?_, 0, rfl, Nat.zero_le _, fun a ha h => by omega, rfl, rfl⟩
    exact turn0 ⟨tr_vw, tr_v, trivial⟩
  rintro k sl H ⟨i, rfl, hi, hp, rfl, rfl⟩
  refine w_seq ?_
  refine w_seq ?_
  refine w_reg rfl ?_
  refine v_move rfl ?_
  refine v_lss lay2 rfl rfl (fun h3 => ?_) (fun h3 => ?_)
  rotate_left
  · have hall : ∀ i : Fin 4, rowOk j i := fun i => hp i.val i.isLt (by omega)
    refine v_nil ?_
    refine q_n ?_
    refine w_f rfl ?_
    refine w_exit ?_
    refine q_e ?_
    refine q_e ?_
    refine q_hit ?_
    refine q_n ?_
    refine w_seq ?_
    refine w_reg rfl ?_
    refine v_assign (c := .v (.bool true)) rfl ?_
    refine v_nil ?_
    refine q_n ?_
    refine w_ret ?_
    refine r_r rfl ?_
    exact a_b (by simp only [true_iff]; exact ⟨h1, h2, hall⟩)
  have hi1 : i < 4 := by omega
  refine v_nil ?_
  refine q_n ?_
  refine w_t rfl ?_
  refine w_skip ?_
  refine q_n ?_
  refine w_seq ?_
  refine w_block ?_
  refine w_seq ?_
  refine w_reg rfl ?_
  refine v_assign (c := .f _ _) rfl ?_
  refine v_nil ?_
  refine q_n ?_
  refine w_seq ?_
  refine w_seq ?_
  refine w_reg rfl ?_
  refine v_assign (c := .v (.int .i64 0)) rfl ?_
  refine v_nil ?_
  refine q_n ?_
  refine w_block ?_
  refine w_loop (fun k sl H => ∃ n : Nat, k = 4 - n ∧ n ≤ 4 ∧ (∀ b (hb : b < 4), b < n → cellOk j i b (j.2.2.1 ⟨i, hi1⟩ ⟨b, hb⟩)) ∧ sl = sls [(0, .c (.vw false (jnc j ++ ra) 0)), (3, cI i), (4, .c (.f .f32 (psm (j.2.2.1 ⟨i, hi1⟩) n))), (5, cI n)] ∧ H = []) ?_ ?_
  · refine ⟨_, _, _, ?_, 0, rfl, Nat.zero_le _, fun b hb h => by omega, rfl, rfl⟩
    exact turn0 ⟨tr_vw, tr_v, tr_f, tr_v, trivial⟩
  rintro k sl H ⟨n, rfl, hn, hpn, rfl, rfl⟩
  refine w_seq ?_
  refine w_seq ?_
  refine w_reg rfl ?_
  refine v_move rfl ?_
  refine v_lss lay2 rfl rfl (fun h4 => ?_) (fun h4 => ?_)
  rotate_left
  · obtain rfl : n = 4 := by omega
    have hrow : ∀ b : Fin 4, cellOk j i b.val (j.2.2.1 ⟨i, hi1⟩ b) := fun b => hpn b.val b.isLt b.isLt
    refine v_nil ?_
    refine q_n ?_
    refine w_f rfl ?_
    refine w_exit ?_
    refine q_e ?_
    refine q_e ?_
    refine q_hit ?_
    refine q_n ?_
    refine w_seq ?_
    refine w_seq ?_
    refine w_reg rfl ?_
    refine v_move rfl ?_
    refine v_move rfl ?_
    refine v_nil_vw rfl ?_
    refine v_fa_vw (off' := 0) lay72 rfl rfl rfl ?_
    refine v_load_vw (.c (.v _)) lay2 rfl rfl rfl ?_
    refine v_geq lay2 rfl rfl (fun h13 => ?_) (fun h13 => ?_)
    · refine v_nil ?_
      refine q_n ?_
      refine w_t rfl ?_
      refine w_seq ?_
      refine w_seq ?_
      refine w_reg rfl ?_
      refine v_move rfl ?_
      refine v_move rfl ?_
      refine v_nil_vw rfl ?_
      refine v_fa_vw (off' := 18) lay72 rfl rfl rfl ?_
      refine v_idx_av_e (k := 1) (i) lay70 lay26 rfl rfl rfl (rfl) (hi1) ?_
      refine v_load_vw_e (.c (.f .f32 (j.2.2.2 ⟨i, hi1⟩))) lay26 rfl (by rw [jn_len8]; show 18 + i * 1 + 1 ≤ _; omega) (jp_ld8 j ra hi1) ?_
      refine v_callb (cAmS _) rfl rfl (.cons vw_f .nil) (fun h14 => ?_) (fun h14 => ?_)
      rotate_left
      · refine v_not true rfl rfl ?_
        refine v_move rfl ?_
        refine v_guard_off rfl rfl rfl ?_
        refine v_guard_off rfl rfl rfl ?_
        refine v_guard_off rfl rfl rfl ?_
        refine v_guard_off rfl rfl rfl ?_
        refine v_guard_off rfl rfl rfl ?_
        refine v_guard_off rfl rfl rfl ?_
        refine v_guard_off rfl rfl rfl ?_
        refine v_pick_t (v := .v (.bool true)) rfl rfl ?_
        refine v_nil ?_
        refine q_n ?_
        refine w_t rfl ?_
        refine w_seq ?_
        refine w_reg rfl ?_
        refine v_assign (c := .v (.bool false)) rfl ?_
        refine v_nil ?_
        refine q_n ?_
        refine w_ret (q_r (q_r (q_br (q_r (q_r (q_br (q_r ?_)))))))
        refine r_r rfl ?_
        exact a_b (by simp only [Bool.false_eq_true, false_iff]; exact jn_nil (hi := hi1) (by omega) fun hn => h14 hn.1)
      refine v_not false rfl rfl ?_
      refine v_move rfl ?_
      refine v_guard_on rfl rfl ?_
      refine v_move rfl ?_
      refine v_guard_on rfl rfl ?_
      refine v_move rfl ?_
      refine v_guard_on rfl rfl ?_
      refine v_nil_vw rfl ?_
      refine v_guard_on rfl rfl ?_
      refine v_fa_vw (off' := 18) lay72 rfl rfl rfl ?_
      refine v_guard_on rfl rfl ?_
      refine v_idx_av_e (k := 1) (i) lay70 lay26 rfl rfl rfl (rfl) (hi1) ?_
      refine v_guard_on rfl rfl ?_
      refine v_load_vw_e (.c (.f .f32 (j.2.2.2 ⟨i, hi1⟩))) lay26 rfl (by rw [jn_len8]; show 18 + i * 1 + 1 ≤ _; omega) (jp_ld8 j ra hi1) ?_
      refine v_guard_on rfl rfl ?_
      refine v_binb lay26 rfl rfl rfl (fun h15 => ?_) (fun h15 => ?_)
      · replace h15 : ¬ feq (j.2.2.2 ⟨i, hi1⟩) := ne_t h15
        refine v_pick_f rfl rfl ?_
        refine v_nil ?_
        refine q_n ?_
        refine w_t rfl ?_
        refine w_seq ?_
        refine w_reg rfl ?_
        refine v_assign (c := .v (.bool false)) rfl ?_
        refine v_nil ?_
        refine q_n ?_
        refine w_ret (q_r (q_r (q_br (q_r (q_r (q_br (q_r ?_)))))))
        refine r_r rfl ?_
        exact a_b (by simp only [Bool.false_eq_true, false_iff]; exact jn_nil (hi := hi1) (by omega) fun hn => h15 hn.2)
      replace h15 : feq (j.2.2.2 ⟨i, hi1⟩) := ne_f h15
      refine v_pick_f rfl rfl ?_
      refine v_nil ?_
      refine q_n ?_
      refine w_f rfl ?_
      refine w_skip ?_
      refine q_n ?_
      refine w_exit ?_
      refine q_e ?_
      refine q_hit ?_
      refine q_n ?_
      refine w_reg rfl ?_
      refine v_move rfl ?_
      refine v_add lay2 rfl rfl (i64r (by omega)) ?_
      refine v_assign rfl ?_
      refine v_nil ?_
      refine q_n ?_
      refine ⟨_, _, _, ?_, ⟨i + 1, rfl, by omega, fun a ha h => ?_, rfl, rfl⟩, by omega⟩
      · exact turn0 ⟨tr_vw, tr_v, trivial⟩
      · rcases Nat.lt_or_eq_of_le (Nat.le_of_lt_succ h) with h | rfl
        · exact hp a ha h
        · exact row_nil hrow (by omega) ⟨h14, h15⟩
    refine v_nil ?_
    refine q_n ?_
    refine w_f rfl ?_
    refine w_skip ?_
    refine q_n ?_
    refine w_seq ?_
    refine w_reg rfl ?_
    refine v_move rfl ?_
    refine v_binb lay26 rfl rfl rfl (fun h16 => ?_) (fun h16 => ?_)
    rotate_left
    · replace h16 : ¬ fge (psm (j.2.2.1 ⟨i, hi1⟩) 4) 1065336439 := fun h => absurd (h16.symm.trans h) (by decide)
      refine v_move rfl ?_
      refine v_guard_off rfl rfl rfl ?_
      refine v_guard_off rfl rfl rfl ?_
      refine v_pick_f (v := .v (.bool false)) rfl rfl ?_
      refine v_not true rfl rfl ?_
      refine v_move rfl ?_
      refine v_guard_off rfl rfl rfl ?_
      refine v_guard_off rfl rfl rfl ?_
      refine v_guard_off rfl rfl rfl ?_
      refine v_guard_off rfl rfl rfl ?_
      refine v_guard_off rfl rfl rfl ?_
      refine v_guard_off rfl rfl rfl ?_
      refine v_guard_off rfl rfl rfl ?_
      refine v_guard_off rfl rfl rfl ?_
      refine v_pick_t (v := .v (.bool true)) rfl rfl ?_
      refine v_nil ?_
      refine q_n ?_
      refine w_t rfl ?_
      refine w_seq ?_
      refine w_reg rfl ?_
      refine v_assign (c := .v (.bool false)) rfl ?_
      refine v_nil ?_
      refine q_n ?_
      refine w_ret (q_br (q_r (q_r (q_br (q_r ?_)))))
      refine r_r rfl ?_
      exact a_b (by simp only [Bool.false_eq_true, false_iff]; exact jn_in (hi := hi1) (by omega) fun h => h16 h.1.1)
    replace h16 : fge (psm (j.2.2.1 ⟨i, hi1⟩) 4) 1065336439 := h16
    refine v_move rfl ?_
    refine v_guard_on rfl rfl ?_
    refine v_move rfl ?_
    refine v_guard_on rfl rfl ?_
    refine v_binb lay26 rfl rfl rfl (fun h17 => ?_) (fun h17 => ?_)
    rotate_left
    · replace h17 : ¬ fle (psm (j.2.2.1 ⟨i, hi1⟩) 4) 1065361605 := fun h => absurd (h17.symm.trans h) (by decide)
      refine v_pick_t rfl rfl ?_
      refine v_not true rfl rfl ?_
      refine v_move rfl ?_
      refine v_guard_off rfl rfl rfl ?_
      refine v_guard_off rfl rfl rfl ?_
      refine v_guard_off rfl rfl rfl ?_
      refine v_guard_off rfl rfl rfl ?_
      refine v_guard_off rfl rfl rfl ?_
      refine v_guard_off rfl rfl rfl ?_
      refine v_guard_off rfl rfl rfl ?_
      refine v_guard_off rfl rfl rfl ?_
      refine v_pick_t (v := .v (.bool true)) rfl rfl ?_
      refine v_nil ?_
      refine q_n ?_
      refine w_t rfl ?_
      refine w_seq ?_
      refine w_reg rfl ?_
      refine v_assign (c := .v (.bool false)) rfl ?_
      refine v_nil ?_
      refine q_n ?_
      refine w_ret (q_br (q_r (q_r (q_br (q_r ?_)))))
      refine r_r rfl ?_
      exact a_b (by simp only [Bool.false_eq_true, false_iff]; exact jn_in (hi := hi1) (by omega) fun h => h17 h.1.2)
    replace h17 : fle (psm (j.2.2.1 ⟨i, hi1⟩) 4) 1065361605 := h17
    refine v_pick_t rfl rfl ?_
    refine v_not false rfl rfl ?_
    refine v_move rfl ?_
    refine v_guard_on rfl rfl ?_
    refine v_move rfl ?_
    refine v_guard_on rfl rfl ?_
    refine v_move rfl ?_
    refine v_guard_on rfl rfl ?_
    refine v_nil_vw rfl ?_
    refine v_guard_on rfl rfl ?_
    refine v_fa_vw (off' := 18) lay72 rfl rfl rfl ?_
    refine v_guard_on rfl rfl ?_
    refine v_idx_av_e (k := 1) (i) lay70 lay26 rfl rfl rfl (rfl) (hi1) ?_
    refine v_guard_on rfl rfl ?_
    refine v_load_vw_e (.c (.f .f32 (j.2.2.2 ⟨i, hi1⟩))) lay26 rfl (by rw [jn_len8]; show 18 + i * 1 + 1 ≤ _; omega) (jp_ld8 j ra hi1) ?_
    refine v_guard_on rfl rfl ?_
    refine v_callb (cPrS _) rfl rfl (.cons vw_f .nil) (fun h18 => ?_) (fun h18 => ?_)
    rotate_left
    · refine v_guard_on rfl rfl ?_
      refine v_not true rfl rfl ?_
      refine v_pick_f rfl rfl ?_
      refine v_nil ?_
      refine q_n ?_
      refine w_t rfl ?_
      refine w_seq ?_
      refine w_reg rfl ?_
      refine v_assign (c := .v (.bool false)) rfl ?_
      refine v_nil ?_
      refine q_n ?_
      refine w_ret (q_br (q_r (q_r (q_br (q_r ?_)))))
      refine r_r rfl ?_
      exact a_b (by simp only [Bool.false_eq_true, false_iff]; exact jn_in (hi := hi1) (by omega) fun h => h18 h.2)
    refine v_guard_on rfl rfl ?_
    refine v_not false rfl rfl ?_
    refine v_pick_f rfl rfl ?_
    refine v_nil ?_
    refine q_n ?_
    refine w_f rfl ?_
    refine w_skip ?_
    refine q_bn ?_
    refine q_n ?_
    refine w_reg rfl ?_
    refine v_move rfl ?_
    refine v_add lay2 rfl rfl (i64r (by omega)) ?_
    refine v_assign rfl ?_
    refine v_nil ?_
    refine q_n ?_
    refine ⟨_, _, _, ?_, ⟨i + 1, rfl, by omega, fun a ha h => ?_, rfl, rfl⟩, by omega⟩
    · exact turn0 ⟨tr_vw, tr_v, trivial⟩
    · rcases Nat.lt_or_eq_of_le (Nat.le_of_lt_succ h) with h | rfl
      · exact hp a ha h
      · exact row_in hrow (by omega) ⟨h16, h17⟩ h18
  have hn1 : n < 4 := by omega
  refine v_nil ?_
  refine q_n ?_
  refine w_t rfl ?_
  refine w_skip ?_
  refine q_n ?_
  refine w_seq ?_
  refine w_block ?_
  refine w_seq ?_
  refine w_reg rfl ?_
  refine v_move rfl ?_
  refine v_move rfl ?_
  refine v_move rfl ?_
  refine v_nil_vw rfl ?_
  refine v_fa_vw (off' := 2) lay72 rfl rfl rfl ?_
  refine v_idx_av_e (k := 4) (i) lay69 lay67 rfl rfl rfl (rfl) (hi1) ?_
  refine v_idx_av_e (k := 1) (n) lay67 lay26 rfl rfl rfl (rfl) (hn1) ?_
  refine v_load_vw_e (.c (.f .f32 (j.2.2.1 ⟨i, hi1⟩ ⟨n, hn1⟩))) lay26 rfl (by rw [jn_len8]; show 2 + i * 4 + n * 1 + 1 ≤ _; omega) (jt_ld8 j ra hi1 hn1) ?_
  refine v_assign rfl ?_
  refine v_nil ?_
  refine q_n ?_
  refine w_seq ?_
  refine w_seq ?_
  refine w_reg rfl ?_
  refine v_move rfl ?_
  refine v_callb (cShS _) rfl rfl (.cons vw_f .nil) (fun h5 => ?_) (fun h5 => ?_)
  rotate_left
  · refine v_not true rfl rfl ?_
    refine v_move rfl ?_
    refine v_guard_off rfl rfl rfl ?_
    refine v_guard_off rfl rfl rfl ?_
    refine v_guard_off rfl rfl rfl ?_
    refine v_guard_off rfl rfl rfl ?_
    refine v_guard_off rfl rfl rfl ?_
    refine v_guard_off rfl rfl rfl ?_
    refine v_guard_off rfl rfl rfl ?_
    refine v_guard_un rfl rfl ?_
    refine v_guard_un rfl rfl ?_
    refine v_guard_un rfl rfl ?_
    refine v_guard_un rfl rfl ?_
    refine v_guard_un rfl rfl ?_
    refine v_guard_un rfl rfl ?_
    refine v_guard_off rfl rfl rfl ?_
    refine v_guard_off rfl rfl rfl ?_
    refine v_guard_un rfl rfl ?_
    refine v_guard_un rfl rfl ?_
    refine v_guard_off rfl rfl rfl ?_
    refine v_pick_t (v := .v (.bool true)) rfl rfl ?_
    refine v_nil ?_
    refine q_n ?_
    refine w_t rfl ?_
    refine w_seq ?_
    refine w_reg rfl ?_
    refine v_assign (c := .v (.bool false)) rfl ?_
    refine v_nil ?_
    refine q_n ?_
    refine w_ret (q_r (q_br (q_r (q_r (q_br (q_r (q_br (q_r (q_r (q_br (q_r ?_)))))))))))
    refine r_r rfl ?_
    exact a_b (by simp only [Bool.false_eq_true, false_iff]; exact jn_cell (n := n) (hi := hi1) (hn := hn1) fun hc => h5 hc.1)
  refine v_not false rfl rfl ?_
  refine v_move rfl ?_
  refine v_guard_on rfl rfl ?_
  refine v_move rfl ?_
  refine v_guard_on rfl rfl ?_
  refine v_move rfl ?_
  refine v_guard_on rfl rfl ?_
  refine v_nil_vw rfl ?_
  refine v_guard_on rfl rfl ?_
  refine v_fa_vw (off' := 0) lay72 rfl rfl rfl ?_
  refine v_guard_on rfl rfl ?_
  refine v_load_vw (.c (.v _)) lay2 rfl rfl rfl ?_
  refine v_guard_on rfl rfl ?_
  refine v_geq lay2 rfl rfl (fun h6 => ?_) (fun h6 => ?_)
  · refine v_guard_on rfl rfl ?_
    refine v_move rfl ?_
    refine v_guard_off rfl rfl rfl ?_
    refine v_guard_off rfl rfl rfl ?_
    refine v_guard_off rfl rfl rfl ?_
    refine v_guard_off rfl rfl rfl ?_
    refine v_guard_off rfl rfl rfl ?_
    refine v_guard_off rfl rfl rfl ?_
    refine v_guard_on rfl rfl ?_
    refine v_pick_t (v := .v (.bool true)) rfl rfl ?_
    refine v_guard_on rfl rfl ?_
    refine v_move rfl ?_
    refine v_guard_on rfl rfl ?_
    refine v_move rfl ?_
    refine v_guard_on rfl rfl ?_
    refine v_binb lay26 rfl rfl rfl (fun h7 => ?_) (fun h7 => ?_)
    · replace h7 : ¬ feq (j.2.2.1 ⟨i, hi1⟩ ⟨n, hn1⟩) := ne_t h7
      refine v_guard_on rfl rfl ?_
      refine v_pick_t rfl rfl ?_
      refine v_pick_f rfl rfl ?_
      refine v_nil ?_
      refine q_n ?_
      refine w_t rfl ?_
      refine w_seq ?_
      refine w_reg rfl ?_
      refine v_assign (c := .v (.bool false)) rfl ?_
      refine v_nil ?_
      refine q_n ?_
      refine w_ret (q_r (q_br (q_r (q_r (q_br (q_r (q_br (q_r (q_r (q_br (q_r ?_)))))))))))
      refine r_r rfl ?_
      exact a_b (by simp only [Bool.false_eq_true, false_iff]; exact jn_cell (n := n) (hi := hi1) (hn := hn1) fun hc => h7 (hc.2 (.inl (by omega))))
    replace h7 : feq (j.2.2.1 ⟨i, hi1⟩ ⟨n, hn1⟩) := ne_f h7
    refine v_guard_on rfl rfl ?_
    refine v_pick_t rfl rfl ?_
    refine v_pick_f rfl rfl ?_
    refine v_nil ?_
    refine q_n ?_
    refine w_f rfl ?_
    refine w_skip ?_
    refine q_n ?_
    refine w_seq ?_
    refine w_reg rfl ?_
    refine v_move rfl ?_
    refine v_eql lay2 rfl rfl (fun h8 => ?_) (fun h8 => ?_)
    · refine v_nil ?_
      refine q_n ?_
      refine w_t rfl ?_
      refine w_reg rfl ?_
      refine v_move rfl ?_
      refine v_assign rfl ?_
      refine v_nil ?_
      refine q_bn ?_
      refine q_n ?_
      refine w_reg rfl ?_
      refine v_move rfl ?_
      refine v_add lay2 rfl rfl (i64r (by omega)) ?_
      refine v_assign rfl ?_
      refine v_nil ?_
      refine q_n ?_
      have hcell : cellOk j i n (j.2.2.1 ⟨i, hi1⟩ ⟨n, hn1⟩) := ⟨by assumption, fun hor => by first | assumption | (exfalso; omega)⟩
      refine ⟨_, _, _, ?_, ⟨n + 1, rfl, by omega, fun b hb h => ?_, rfl, rfl⟩, by omega⟩
      · first | (rw [← psm_1 (j.2.2.1 ⟨i, hi1⟩) hn1 (by assumption)]; exact turn0 ⟨tr_vw, tr_v, tr_f, tr_v, trivial⟩) | (rw [← psm_s (j.2.2.1 ⟨i, hi1⟩) hn1 (by assumption)]; exact turn0 ⟨tr_vw, tr_v, tr_f, tr_v, trivial⟩)
      · rcases Nat.lt_or_eq_of_le (Nat.le_of_lt_succ h) with h | rfl
        · exact hpn b hb h
        · exact hcell
    refine v_nil ?_
    refine q_n ?_
    refine w_f rfl ?_
    refine w_reg rfl ?_
    refine v_move rfl ?_
    refine v_move rfl ?_
    refine v_bin (c := .f _ _) lay26 rfl rfl rfl ?_
    refine v_assign rfl ?_
    refine v_nil ?_
    refine q_bn ?_
    refine q_n ?_
    refine w_reg rfl ?_
    refine v_move rfl ?_
    refine v_add lay2 rfl rfl (i64r (by omega)) ?_
    refine v_assign rfl ?_
    refine v_nil ?_
    refine q_n ?_
    have hcell : cellOk j i n (j.2.2.1 ⟨i, hi1⟩ ⟨n, hn1⟩) := ⟨by assumption, fun hor => by first | assumption | (exfalso; omega)⟩
    refine ⟨_, _, _, ?_, ⟨n + 1, rfl, by omega, fun b hb h => ?_, rfl, rfl⟩, by omega⟩
    · first | (rw [← psm_1 (j.2.2.1 ⟨i, hi1⟩) hn1 (by assumption)]; exact turn0 ⟨tr_vw, tr_v, tr_f, tr_v, trivial⟩) | (rw [← psm_s (j.2.2.1 ⟨i, hi1⟩) hn1 (by assumption)]; exact turn0 ⟨tr_vw, tr_v, tr_f, tr_v, trivial⟩)
    · rcases Nat.lt_or_eq_of_le (Nat.le_of_lt_succ h) with h | rfl
      · exact hpn b hb h
      · exact hcell
  refine v_guard_on rfl rfl ?_
  refine v_move rfl ?_
  refine v_guard_on rfl rfl ?_
  refine v_move rfl ?_
  refine v_guard_on rfl rfl ?_
  refine v_move rfl ?_
  refine v_guard_on rfl rfl ?_
  refine v_nil_vw rfl ?_
  refine v_guard_on rfl rfl ?_
  refine v_fa_vw (off' := 1) lay72 rfl rfl rfl ?_
  refine v_guard_on rfl rfl ?_
  refine v_load_vw (.c (.v _)) lay2 rfl rfl rfl ?_
  refine v_guard_on rfl rfl ?_
  refine v_geq lay2 rfl rfl (fun h9 => ?_) (fun h9 => ?_)
  rotate_left
  · refine v_guard_on rfl rfl ?_
    refine v_pick_f rfl rfl ?_
    refine v_guard_on rfl rfl ?_
    refine v_move rfl ?_
    refine v_guard_off rfl rfl rfl ?_
    refine v_guard_off rfl rfl rfl ?_
    refine v_guard_on rfl rfl ?_
    refine v_pick_f (v := .v (.bool false)) rfl rfl ?_
    refine v_pick_f rfl rfl ?_
    refine v_nil ?_
    refine q_n ?_
    refine w_f rfl ?_
    refine w_skip ?_
    refine q_n ?_
    refine w_seq ?_
    refine w_reg rfl ?_
    refine v_move rfl ?_
    refine v_eql lay2 rfl rfl (fun h12 => ?_) (fun h12 => ?_)
    · refine v_nil ?_
      refine q_n ?_
      refine w_t rfl ?_
      refine w_reg rfl ?_
      refine v_move rfl ?_
      refine v_assign rfl ?_
      refine v_nil ?_
      refine q_bn ?_
      refine q_n ?_
      refine w_reg rfl ?_
      refine v_move rfl ?_
      refine v_add lay2 rfl rfl (i64r (by omega)) ?_
      refine v_assign rfl ?_
      refine v_nil ?_
      refine q_n ?_
      have hcell : cellOk j i n (j.2.2.1 ⟨i, hi1⟩ ⟨n, hn1⟩) := ⟨by assumption, fun hor => by first | assumption | (exfalso; omega)⟩
      refine ⟨_, _, _, ?_, ⟨n + 1, rfl, by omega, fun b hb h => ?_, rfl, rfl⟩, by omega⟩
      · first | (rw [← psm_1 (j.2.2.1 ⟨i, hi1⟩) hn1 (by assumption)]; exact turn0 ⟨tr_vw, tr_v, tr_f, tr_v, trivial⟩) | (rw [← psm_s (j.2.2.1 ⟨i, hi1⟩) hn1 (by assumption)]; exact turn0 ⟨tr_vw, tr_v, tr_f, tr_v, trivial⟩)
      · rcases Nat.lt_or_eq_of_le (Nat.le_of_lt_succ h) with h | rfl
        · exact hpn b hb h
        · exact hcell
    refine v_nil ?_
    refine q_n ?_
    refine w_f rfl ?_
    refine w_reg rfl ?_
    refine v_move rfl ?_
    refine v_move rfl ?_
    refine v_bin (c := .f _ _) lay26 rfl rfl rfl ?_
    refine v_assign rfl ?_
    refine v_nil ?_
    refine q_bn ?_
    refine q_n ?_
    refine w_reg rfl ?_
    refine v_move rfl ?_
    refine v_add lay2 rfl rfl (i64r (by omega)) ?_
    refine v_assign rfl ?_
    refine v_nil ?_
    refine q_n ?_
    have hcell : cellOk j i n (j.2.2.1 ⟨i, hi1⟩ ⟨n, hn1⟩) := ⟨by assumption, fun hor => by first | assumption | (exfalso; omega)⟩
    refine ⟨_, _, _, ?_, ⟨n + 1, rfl, by omega, fun b hb h => ?_, rfl, rfl⟩, by omega⟩
    · first | (rw [← psm_1 (j.2.2.1 ⟨i, hi1⟩) hn1 (by assumption)]; exact turn0 ⟨tr_vw, tr_v, tr_f, tr_v, trivial⟩) | (rw [← psm_s (j.2.2.1 ⟨i, hi1⟩) hn1 (by assumption)]; exact turn0 ⟨tr_vw, tr_v, tr_f, tr_v, trivial⟩)
    · rcases Nat.lt_or_eq_of_le (Nat.le_of_lt_succ h) with h | rfl
      · exact hpn b hb h
      · exact hcell
  refine v_guard_on rfl rfl ?_
  refine v_pick_f rfl rfl ?_
  refine v_guard_on rfl rfl ?_
  refine v_move rfl ?_
  refine v_guard_on rfl rfl ?_
  refine v_move rfl ?_
  refine v_guard_on rfl rfl ?_
  refine v_binb lay26 rfl rfl rfl (fun h10 => ?_) (fun h10 => ?_)
  · replace h10 : ¬ feq (j.2.2.1 ⟨i, hi1⟩ ⟨n, hn1⟩) := ne_t h10
    refine v_guard_on rfl rfl ?_
    refine v_pick_t rfl rfl ?_
    refine v_pick_f rfl rfl ?_
    refine v_nil ?_
    refine q_n ?_
    refine w_t rfl ?_
    refine w_seq ?_
    refine w_reg rfl ?_
    refine v_assign (c := .v (.bool false)) rfl ?_
    refine v_nil ?_
    refine q_n ?_
    refine w_ret (q_r (q_br (q_r (q_r (q_br (q_r (q_br (q_r (q_r (q_br (q_r ?_)))))))))))
    refine r_r rfl ?_
    exact a_b (by simp only [Bool.false_eq_true, false_iff]; exact jn_cell (n := n) (hi := hi1) (hn := hn1) fun hc => h10 (hc.2 (.inr (by omega))))
  replace h10 : feq (j.2.2.1 ⟨i, hi1⟩ ⟨n, hn1⟩) := ne_f h10
  refine v_guard_on rfl rfl ?_
  refine v_pick_t rfl rfl ?_
  refine v_pick_f rfl rfl ?_
  refine v_nil ?_
  refine q_n ?_
  refine w_f rfl ?_
  refine w_skip ?_
  refine q_n ?_
  refine w_seq ?_
  refine w_reg rfl ?_
  refine v_move rfl ?_
  refine v_eql lay2 rfl rfl (fun h11 => ?_) (fun h11 => ?_)
  · refine v_nil ?_
    refine q_n ?_
    refine w_t rfl ?_
    refine w_reg rfl ?_
    refine v_move rfl ?_
    refine v_assign rfl ?_
    refine v_nil ?_
    refine q_bn ?_
    refine q_n ?_
    refine w_reg rfl ?_
    refine v_move rfl ?_
    refine v_add lay2 rfl rfl (i64r (by omega)) ?_
    refine v_assign rfl ?_
    refine v_nil ?_
    refine q_n ?_
    have hcell : cellOk j i n (j.2.2.1 ⟨i, hi1⟩ ⟨n, hn1⟩) := ⟨by assumption, fun hor => by first | assumption | (exfalso; omega)⟩
    refine ⟨_, _, _, ?_, ⟨n + 1, rfl, by omega, fun b hb h => ?_, rfl, rfl⟩, by omega⟩
    · first | (rw [← psm_1 (j.2.2.1 ⟨i, hi1⟩) hn1 (by assumption)]; exact turn0 ⟨tr_vw, tr_v, tr_f, tr_v, trivial⟩) | (rw [← psm_s (j.2.2.1 ⟨i, hi1⟩) hn1 (by assumption)]; exact turn0 ⟨tr_vw, tr_v, tr_f, tr_v, trivial⟩)
    · rcases Nat.lt_or_eq_of_le (Nat.le_of_lt_succ h) with h | rfl
      · exact hpn b hb h
      · exact hcell
  refine v_nil ?_
  refine q_n ?_
  refine w_f rfl ?_
  refine w_reg rfl ?_
  refine v_move rfl ?_
  refine v_move rfl ?_
  refine v_bin (c := .f _ _) lay26 rfl rfl rfl ?_
  refine v_assign rfl ?_
  refine v_nil ?_
  refine q_bn ?_
  refine q_n ?_
  refine w_reg rfl ?_
  refine v_move rfl ?_
  refine v_add lay2 rfl rfl (i64r (by omega)) ?_
  refine v_assign rfl ?_
  refine v_nil ?_
  refine q_n ?_
  have hcell : cellOk j i n (j.2.2.1 ⟨i, hi1⟩ ⟨n, hn1⟩) := ⟨by assumption, fun hor => by first | assumption | (exfalso; omega)⟩
  refine ⟨_, _, _, ?_, ⟨n + 1, rfl, by omega, fun b hb h => ?_, rfl, rfl⟩, by omega⟩
  · first | (rw [← psm_1 (j.2.2.1 ⟨i, hi1⟩) hn1 (by assumption)]; exact turn0 ⟨tr_vw, tr_v, tr_f, tr_v, trivial⟩) | (rw [← psm_s (j.2.2.1 ⟨i, hi1⟩) hn1 (by assumption)]; exact turn0 ⟨tr_vw, tr_v, tr_f, tr_v, trivial⟩)
  · rcases Nat.lt_or_eq_of_le (Nat.le_of_lt_succ h) with h | rfl
    · exact hpn b hb h
    · exact hcell
end Go.VL
namespace Go.VL
open Go.RowKit
set_option maxRecDepth 20000
set_option maxHeartbeats 8000000
theorem cVp1 (s : Slo) : PureC X 137 [.agg (stc s)] (cB (decide (¬ (1 ≤ s.2 ∧ s.2 ≤ 240)))) := by
  refine PureC.of_body (drawD_ok X) (fun _ _ => Go.Proofs.Tryz.call137 _ _) Go.Proofs.Tryz.func137 rfl (n := 7) rfl ?_
  refine w_seq ?_
  refine w_reg rfl ?_
  refine v_box (m := 0) (H' := [_]) lay142 rfl rfl rfl ?_
  refine v_assign (c := .v (.bool false)) rfl ?_
  refine v_nil ?_
  refine q_n ?_
  refine w_seq ?_
  refine w_reg rfl ?_
  refine v_fa_pt (off' := 8) lay142 rfl rfl rfl ?_
  refine v_load_pt (.c _) lay2 rfl rfl rfl rfl ?_
  refine v_callb (cInR _ _ _) rfl rfl (.cons vw_v (.cons vw_v (.cons vw_v .nil))) (fun h1 => ?_) (fun h1 => ?_)
  rotate_left
  · refine v_not true rfl rfl ?_
    refine v_assign rfl ?_
    refine v_nil ?_
    refine q_n ?_
    refine w_ret ?_
    refine r_r rfl ?_
    exact a_b (by simp_all)
  refine v_not false rfl rfl ?_
  refine v_assign rfl ?_
  refine v_nil ?_
  refine q_n ?_
  refine w_ret ?_
  refine r_r rfl ?_
  exact a_b (by simp_all)
theorem cIFsl (g : FuncId) (pr : Slo → Prop) [DecidablePred pr] (xs : List Slo) (hx : xs.length ≤ 2 ^ 40) (hF : ∀ x ∈ xs, PureC X g [.agg (stc x)] (cB (decide (pr x)))) : PureC X 185 [.c (.sl false xs.length 9 (flat stc xs)), .c (.fn g [])] (cI (fix pr xs)) := by
  refine PureC.of_body (drawD_ok X) (fun _ _ => Go.Proofs.Tryz.call185 _ _) Go.Proofs.Tryz.func185 rfl (n := 19) rfl ?_
  refine w_seq ?_
  refine w_reg rfl ?_
  refine v_assign (c := .v (.int .i64 0)) rfl ?_
  refine v_nil ?_
  refine q_n ?_
  refine w_seq ?_
  refine w_seq ?_
  refine w_reg rfl ?_
  refine v_move rfl ?_
  refine v_len_sl lay63 rfl ?_
  refine v_move (c := .v (.int .i64 0)) rfl ?_
  refine v_nil ?_
  refine q_n ?_
  refine w_block ?_
  refine w_loop (fun k sl H => ∃ i : Nat, k = xs.length - i ∧ i ≤ xs.length ∧ (∀ x ∈ xs.take i, ¬ pr x) ∧ sl = sls [(0, .c (.sl false xs.length 9 (flat stc xs))), (1, .c (.fn g [])), (7, cI xs.length), (8, cI i)] ∧ H = []) ?_ ?_
  · refine ⟨_, _, _, ?_, 0, rfl, Nat.zero_le _, by simp, rfl, rfl⟩
    exact turn0 ⟨tr_sl, tr_fn0, tr_v, tr_v, trivial⟩
  rintro k sl H ⟨i, rfl, hi, hp, rfl, rfl⟩
  refine w_seq ?_
  refine w_reg rfl ?_
  refine v_lss lay3 rfl rfl (fun h1 => ?_) (fun h1 => ?_)
  rotate_left
  · refine v_nil ?_
    refine q_n ?_
    refine w_seq ?_
    refine w_f rfl ?_
    refine w_exit ?_
    refine q_e ?_
    refine q_e ?_
    refine q_hit ?_
    refine q_n ?_
    refine w_seq ?_
    refine w_reg rfl ?_
    refine v_assign (c := .v (.int .i64 (-1))) rfl ?_
    refine v_nil ?_
    refine q_n ?_
    refine w_ret ?_
    refine r_r rfl ?_
    obtain rfl : i = xs.length := by omega
    rw [List.take_length] at hp
    exact a_i (fix_none hp).symm
  have hj : i < xs.length := by omega
  refine v_nil ?_
  refine q_n ?_
  refine w_seq ?_
  refine w_t rfl ?_
  refine w_skip ?_
  refine q_n ?_
  refine w_seq ?_
  refine w_block ?_
  refine w_seq ?_
  refine w_reg rfl ?_
  refine v_move rfl ?_
  refine v_assign rfl ?_
  refine v_nil ?_
  refine q_n ?_
  refine w_seq ?_
  refine w_reg rfl ?_
  refine v_move rfl ?_
  refine v_move rfl ?_
  refine v_move rfl ?_
  refine v_idx_e (k := 9) (i) stc_len lay63 lay142 rfl rfl rfl (rfl) rfl (rfl) ((by omega : i < xs.length)) ?_
  refine v_load_vw (.agg [.v _, .v _, .v _, .v _, .v _, .v _, .v _, .v _, .v _]) lay142 rfl rfl rfl ?_
  refine v_callb (hF _ (List.getElem_mem hj)) rfl rfl (.cons (vw_agg (.cons vw_v (.cons vw_v (.cons vw_v (.cons vw_v (.cons vw_v (.cons vw_v (.cons vw_v (.cons vw_v (.cons vw_v .nil)))))))))) .nil) (fun h3 => ?_) (fun h3 => ?_)
  · refine v_nil ?_
    refine q_n ?_
    refine w_t rfl ?_
    refine w_seq ?_
    refine w_reg rfl ?_
    refine v_move rfl ?_
    refine v_assign rfl ?_
    refine v_nil ?_
    refine q_n ?_
    refine w_ret (q_br (q_r (q_r (q_br (q_r ?_)))))
    refine r_r rfl ?_
    exact a_i (fix_hit hj hp h3).symm
  refine v_nil ?_
  refine q_n ?_
  refine w_f rfl ?_
  refine w_skip ?_
  refine q_bn ?_
  refine q_n ?_
  refine w_reg rfl ?_
  refine v_add lay3 rfl rfl (i64r (by omega)) ?_
  refine v_move rfl ?_
  refine v_nil ?_
  refine q_n ?_
  refine ⟨_, _, _, ?_, ⟨i + 1, rfl, by omega, all_step hj hp h3, rfl, rfl⟩, by omega⟩
  exact turn0 ⟨tr_sl, tr_fn0, tr_v, tr_v, trivial⟩
theorem cCFsl (g : FuncId) (pr : Slo → Prop) [DecidablePred pr] (xs : List Slo) (hx : xs.length ≤ 2 ^ 40) (hF : ∀ x ∈ xs, PureC X g [.agg (stc x)] (cB (decide (pr x)))) : PureC X 136 [.c (.sl false xs.length 9 (flat stc xs)), .c (.fn g [])] (cB (decide (∃ x ∈ xs, pr x))) := by
  refine PureC.of_body (drawD_ok X) (fun _ _ => Go.Proofs.Tryz.call136 _ _) Go.Proofs.Tryz.func136 rfl (n := 9) rfl ?_
  refine w_seq ?_
  refine w_reg rfl ?_
  refine v_assign (c := .v (.bool false)) rfl ?_
  refine v_nil ?_
  refine q_n ?_
  refine w_seq ?_
  refine w_reg rfl ?_
  refine v_move rfl ?_
  refine v_move rfl ?_
  refine v_call (cIFsl _ _ _ hx hF) rfl rfl rfl (.cons vw_sl (.cons (vw_fn .nil) .nil)) ?_
  refine v_geq lay3 rfl rfl (fun h1 => ?_) (fun h1 => ?_)
  · refine v_assign rfl ?_
    refine v_nil ?_
    refine q_n ?_
    refine w_ret ?_
    refine r_r rfl ?_
    exact a_b (by simp only [true_iff]; exact (fix_ge _ _).1 h1)
  refine v_assign rfl ?_
  refine v_nil ?_
  refine q_n ?_
  refine w_ret ?_
  refine r_r rfl ?_
  exact a_b (by simp only [Bool.false_eq_true, false_iff]; exact fun h => h1 ((fix_ge _ _).2 h))
theorem cCyc (xs : List Slo) (b f : Int) (hs : ticksOk xs) (hb : 0 ≤ b ∧ b ≤ 240) (hx : xs.length ≤ 8) : PureC X 138 [.agg (pln false xs b f)] (cI (cyc xs b)) := by
  refine PureC.of_body (drawD_ok X) (fun _ _ => Go.Proofs.Tryz.call138 _ _) Go.Proofs.Tryz.func138 rfl (n := 22) rfl ?_
  refine w_seq ?_
  refine w_reg rfl ?_
  refine v_box (m := 0) (H' := [_]) lay65 rfl rfl rfl ?_
  refine v_assign (c := .v (.int .i64 0)) rfl ?_
  refine v_nil ?_
  refine q_n ?_
  refine w_seq ?_
  refine w_reg rfl ?_
  refine v_assign (c := .v (.int .i64 0)) rfl ?_
  refine v_nil ?_
  refine q_n ?_
  refine w_seq ?_
  refine w_seq ?_
  refine w_reg rfl ?_
  refine v_fa_pt (off' := 0) lay65 rfl rfl rfl ?_
  refine v_load_pt (.c _) lay63 rfl rfl rfl rfl ?_
  refine v_len_sl lay63 rfl ?_
  refine v_move (c := .v (.int .i64 0)) rfl ?_
  refine v_nil ?_
  refine q_n ?_
  refine w_block ?_
  refine w_loop (fun k sl H => ∃ i : Nat, k = xs.length - i ∧ i ≤ xs.length ∧ sl = sls [(1, .c (.pt 0 0)), (3, cI (cyc (xs.take i) b)), (7, .c (sts false xs)), (8, cI xs.length), (9, cI i)] ∧ H = [⟨pln false xs b f, 65, true⟩]) ?_ ?_
  · refine ⟨_, _, _, ?_, 0, rfl, Nat.zero_le _, rfl, rfl⟩
    exact turn [some 0] rfl rfl rfl ⟨⟨_, rfl, .cons tr_sl (.cons tr_v (.cons tr_v .nil))⟩, trivial⟩ ⟨tr_pt rfl, tr_v, tr_sl, tr_v, tr_v, trivial⟩
  rintro k sl H ⟨i, rfl, hi, rfl, rfl⟩
  have hc := cyc_rng hb (tk_take hs i)
  rw [List.length_take] at hc
  refine w_seq ?_
  refine w_reg rfl ?_
  refine v_lss lay3 rfl rfl (fun h1 => ?_) (fun h1 => ?_)
  rotate_left
  · refine v_nil ?_
    refine q_n ?_
    refine w_seq ?_
    refine w_f rfl ?_
    refine w_exit ?_
    refine q_e ?_
    refine q_e ?_
    refine q_hit ?_
    refine q_n ?_
    refine w_seq ?_
    refine w_reg rfl ?_
    refine v_move rfl ?_
    refine v_assign rfl ?_
    refine v_nil ?_
    refine q_n ?_
    refine w_ret ?_
    refine r_r rfl ?_
    obtain rfl : i = xs.length := by omega
    exact a_i (by rw [List.take_length])
  have hi1 : i < xs.length := by omega
  have ht := tk_at hs hi1
  refine v_nil ?_
  refine q_n ?_
  refine w_seq ?_
  refine w_t rfl ?_
  refine w_skip ?_
  refine q_n ?_
  refine w_seq ?_
  refine w_block ?_
  refine w_seq ?_
  refine w_reg rfl ?_
  refine v_idx_e (k := 9) (i) stc_len lay63 lay142 rfl rfl rfl (rfl) rfl (rfl) (hi1) ?_
  refine v_load_vw (.agg [.v _, .v _, .v _, .v _, .v _, .v _, .v _, .v _, .v _]) lay142 rfl rfl rfl ?_
  refine v_alloc (m := 1) (H' := [_, ⟨[.v _, .v _, .v _, .v _, .v _, .v _, .v _, .v _, .v _], 142, true⟩]) lay142 rfl rfl ?_
  refine v_store (H' := [_, ⟨[_, _, _, _, _, _, _, _, _], 142, true⟩]) lay142 rfl rfl rfl rfl rfl rfl ?_
  refine v_nil ?_
  refine q_n ?_
  refine w_reg rfl ?_
  refine v_move rfl ?_
  refine v_fa_pt (off' := 8) lay142 rfl rfl rfl ?_
  refine v_load_pt (.c _) lay2 rfl rfl rfl rfl ?_
  refine v_fa_pt (off' := 1) lay65 rfl rfl rfl ?_
  refine v_load_pt (.c _) lay2 rfl rfl rfl rfl ?_
  refine v_add lay2 rfl rfl (i64r (by omega)) ?_
  refine v_add lay2 rfl rfl (i64r (by omega)) ?_
  refine v_assign rfl ?_
  refine v_nil ?_
  refine q_bn ?_
  refine q_n ?_
  refine w_reg rfl ?_
  refine v_add lay3 rfl rfl (i64r (by omega)) ?_
  refine v_move rfl ?_
  refine v_nil ?_
  refine q_n ?_
  refine ⟨_, _, _, ?_, ⟨i + 1, rfl, by omega, rfl, rfl⟩, by omega⟩
  exact turn [some 0] rfl rfl rfl ⟨⟨_, rfl, .cons tr_sl (.cons tr_v (.cons tr_v .nil))⟩, trivial⟩ ⟨tr_pt rfl, tr_i (cyc_step (by omega)), tr_sl, tr_v, tr_v, trivial⟩
theorem cPlI (xs : List Slo) (b f : Int) (hx : xs.length ≤ 2 ^ 40) : PureC X 75 [.agg (pln false xs b f)] (cB (decide (okP xs b f))) := by
  refine PureC.of_body (drawD_ok X) (fun _ _ => Go.Proofs.Tryz.call75 _ _) Go.Proofs.Tryz.func75 rfl (n := 33) rfl ?_
  refine w_seq ?_
  refine w_reg rfl ?_
  refine v_box (m := 0) (H' := [_]) lay65 rfl rfl rfl ?_
  refine v_assign (c := .v (.bool false)) rfl ?_
  refine v_nil ?_
  refine q_n ?_
  refine w_seq ?_
  refine w_reg rfl ?_
  refine v_fa_pt (off' := 0) lay65 rfl rfl rfl ?_
  refine v_load_pt (.c _) lay63 rfl rfl rfl rfl ?_
  refine v_callb (cCFsl 137 (fun s => ¬ (1 ≤ s.2 ∧ s.2 ≤ 240)) _ hx (fun s _ => cVp1 s)) rfl rfl (.cons vw_sl (.cons (vw_fn .nil) .nil)) (fun h1 => ?_) (fun h1 => ?_)
  · have hs := tk_not h1
    refine v_assign rfl ?_
    refine v_nil ?_
    refine q_n ?_
    refine w_seq ?_
    refine w_draw [0, 1, 3, 7, 15, 31, 63, 127, 255, 511, 1023, 2047, 4095, 8191, 16383, 32767, 65535, 131071, 262143, 524287, 1048575, 524287, 2621439, 6815743, 16777215, 33554431, 67108863] [⟨0, 0, []⟩, ⟨1, 0, []⟩, ⟨2, 0, []⟩, ⟨3, 0, []⟩, ⟨4, 0, []⟩, ⟨5, 0, []⟩, ⟨6, 0, []⟩, ⟨7, 0, []⟩, ⟨8, 0, []⟩, ⟨9, 0, []⟩, ⟨10, 0, []⟩, ⟨11, 0, []⟩, ⟨12, 0, []⟩, ⟨13, 0, []⟩, ⟨14, 0, []⟩, ⟨15, 0, []⟩, ⟨16, 0, []⟩, ⟨17, 0, []⟩, ⟨18, 0, []⟩, ⟨19, 0, []⟩, ⟨20, 0, []⟩, ⟨21, 0, []⟩, ⟨22, 0, []⟩, ⟨23, 0, []⟩, ⟨24, 0, []⟩, ⟨25, 0, []⟩, ⟨26, 0, []⟩] rfl rfl ?_
    refine d_q rfl rfl rfl rfl rfl ?_
    refine v_fa_pt (off' := 0) lay65 rfl rfl rfl ?_
    refine v_nil ?_
    refine d_q rfl rfl rfl rfl rfl ?_
    refine v_load_pt (.c _) lay63 rfl rfl rfl rfl ?_
    refine v_nil ?_
    refine d_q rfl rfl rfl rfl rfl ?_
    refine v_len_sl lay63 rfl ?_
    refine v_nil ?_
    refine d_callb (cInR _ _ _) rfl rfl rfl rfl (.cons vw_v (.cons vw_v (.cons vw_v .nil))) (fun h2 => ?_) (fun h2 => ?_)
    rotate_left
    · refine d_q rfl rfl rfl rfl rfl ?_
      refine v_move rfl ?_
      refine v_nil ?_
      refine d_off rfl rfl ?_
      refine d_off rfl rfl ?_
      refine d_q rfl rfl rfl rfl rfl ?_
      refine v_pick_f (v := .v (.bool false)) rfl rfl ?_
      refine v_nil ?_
      refine d_q rfl rfl rfl rfl rfl ?_
      refine v_move rfl ?_
      refine v_nil ?_
      refine d_off rfl rfl ?_
      refine d_off rfl rfl ?_
      refine d_off rfl rfl ?_
      refine d_q rfl rfl rfl rfl rfl ?_
      refine v_pick_f (v := .v (.bool false)) rfl rfl ?_
      refine v_nil ?_
      refine d_q rfl rfl rfl rfl rfl ?_
      refine v_move rfl ?_
      refine v_nil ?_
      refine d_off rfl rfl ?_
      refine d_off rfl rfl ?_
      refine d_off rfl rfl ?_
      refine d_q rfl rfl rfl rfl rfl ?_
      refine v_pick_f (v := .v (.bool false)) rfl rfl ?_
      refine v_nil ?_
      refine d_q rfl rfl rfl rfl rfl ?_
      refine v_move rfl ?_
      refine v_nil ?_
      refine d_off rfl rfl ?_
      refine d_off rfl rfl ?_
      refine d_off rfl rfl ?_
      refine d_off rfl rfl ?_
      refine d_off rfl rfl ?_
      refine d_off rfl rfl ?_
      refine d_q rfl rfl rfl rfl rfl ?_
      refine v_pick_f (v := .v (.bool false)) rfl rfl ?_
      refine v_nil ?_
      refine d_q rfl rfl rfl rfl rfl ?_
      refine v_assign rfl ?_
      refine v_nil ?_
      refine d_nil ?_
      refine q_n ?_
      refine w_ret ?_
      refine r_r rfl ?_
      exact a_b (by unfold okP; first | omega | (simp_all; done) | (simp_all; omega))
    refine d_q rfl rfl rfl rfl rfl ?_
    refine v_move rfl ?_
    refine v_nil ?_
    refine d_q rfl rfl rfl rfl rfl ?_
    refine v_move rfl ?_
    refine v_nil ?_
    refine d_q rfl rfl rfl rfl rfl ?_
    refine v_not false rfl rfl ?_
    refine v_nil ?_
    refine d_q rfl rfl rfl rfl rfl ?_
    refine v_pick_t rfl rfl ?_
    refine v_nil ?_
    refine d_q rfl rfl rfl rfl rfl ?_
    refine v_move rfl ?_
    refine v_nil ?_
    refine d_off rfl rfl ?_
    refine d_off rfl rfl ?_
    refine d_off rfl rfl ?_
    refine d_q rfl rfl rfl rfl rfl ?_
    refine v_pick_f (v := .v (.bool false)) rfl rfl ?_
    refine v_nil ?_
    refine d_q rfl rfl rfl rfl rfl ?_
    refine v_move rfl ?_
    refine v_nil ?_
    refine d_off rfl rfl ?_
    refine d_off rfl rfl ?_
    refine d_off rfl rfl ?_
    refine d_q rfl rfl rfl rfl rfl ?_
    refine v_pick_f (v := .v (.bool false)) rfl rfl ?_
    refine v_nil ?_
    refine d_q rfl rfl rfl rfl rfl ?_
    refine v_move rfl ?_
    refine v_nil ?_
    refine d_off rfl rfl ?_
    refine d_off rfl rfl ?_
    refine d_off rfl rfl ?_
    refine d_off rfl rfl ?_
    refine d_off rfl rfl ?_
    refine d_off rfl rfl ?_
    refine d_q rfl rfl rfl rfl rfl ?_
    refine v_pick_f (v := .v (.bool false)) rfl rfl ?_
    refine v_nil ?_
    refine d_q rfl rfl rfl rfl rfl ?_
    refine v_assign rfl ?_
    refine v_nil ?_
    refine d_nil ?_
    refine q_n ?_
    refine w_ret ?_
    refine r_r rfl ?_
    exact a_b (by unfold okP; first | omega | (simp_all; done) | (simp_all; omega))
  have hs := tk_of h1
  refine v_assign rfl ?_
  refine v_nil ?_
  refine q_n ?_
  refine w_seq ?_
  refine w_draw [0, 1, 3, 7, 15, 31, 63, 127, 255, 511, 1023, 2047, 4095, 8191, 16383, 32767, 65535, 131071, 262143, 524287, 1048575, 524287, 2621439, 6815743, 16777215, 33554431, 67108863] [⟨0, 0, []⟩, ⟨1, 0, []⟩, ⟨2, 0, []⟩, ⟨3, 0, []⟩, ⟨4, 0, []⟩, ⟨5, 0, []⟩, ⟨6, 0, []⟩, ⟨7, 0, []⟩, ⟨8, 0, []⟩, ⟨9, 0, []⟩, ⟨10, 0, []⟩, ⟨11, 0, []⟩, ⟨12, 0, []⟩, ⟨13, 0, []⟩, ⟨14, 0, []⟩, ⟨15, 0, []⟩, ⟨16, 0, []⟩, ⟨17, 0, []⟩, ⟨18, 0, []⟩, ⟨19, 0, []⟩, ⟨20, 0, []⟩, ⟨21, 0, []⟩, ⟨22, 0, []⟩, ⟨23, 0, []⟩, ⟨24, 0, []⟩, ⟨25, 0, []⟩, ⟨26, 0, []⟩] rfl rfl ?_
  refine d_q rfl rfl rfl rfl rfl ?_
  refine v_fa_pt (off' := 0) lay65 rfl rfl rfl ?_
  refine v_nil ?_
  refine d_q rfl rfl rfl rfl rfl ?_
  refine v_load_pt (.c _) lay63 rfl rfl rfl rfl ?_
  refine v_nil ?_
  refine d_q rfl rfl rfl rfl rfl ?_
  refine v_len_sl lay63 rfl ?_
  refine v_nil ?_
  refine d_callb (cInR _ _ _) rfl rfl rfl rfl (.cons vw_v (.cons vw_v (.cons vw_v .nil))) (fun h3 => ?_) (fun h3 => ?_)
  rotate_left
  · refine d_q rfl rfl rfl rfl rfl ?_
    refine v_move rfl ?_
    refine v_nil ?_
    refine d_off rfl rfl ?_
    refine d_off rfl rfl ?_
    refine d_q rfl rfl rfl rfl rfl ?_
    refine v_pick_f (v := .v (.bool false)) rfl rfl ?_
    refine v_nil ?_
    refine d_q rfl rfl rfl rfl rfl ?_
    refine v_move rfl ?_
    refine v_nil ?_
    refine d_off rfl rfl ?_
    refine d_off rfl rfl ?_
    refine d_off rfl rfl ?_
    refine d_q rfl rfl rfl rfl rfl ?_
    refine v_pick_f (v := .v (.bool false)) rfl rfl ?_
    refine v_nil ?_
    refine d_q rfl rfl rfl rfl rfl ?_
    refine v_move rfl ?_
    refine v_nil ?_
    refine d_off rfl rfl ?_
    refine d_off rfl rfl ?_
    refine d_off rfl rfl ?_
    refine d_q rfl rfl rfl rfl rfl ?_
    refine v_pick_f (v := .v (.bool false)) rfl rfl ?_
    refine v_nil ?_
    refine d_q rfl rfl rfl rfl rfl ?_
    refine v_move rfl ?_
    refine v_nil ?_
    refine d_off rfl rfl ?_
    refine d_off rfl rfl ?_
    refine d_off rfl rfl ?_
    refine d_off rfl rfl ?_
    refine d_off rfl rfl ?_
    refine d_off rfl rfl ?_
    refine d_q rfl rfl rfl rfl rfl ?_
    refine v_pick_f (v := .v (.bool false)) rfl rfl ?_
    refine v_nil ?_
    refine d_q rfl rfl rfl rfl rfl ?_
    refine v_assign rfl ?_
    refine v_nil ?_
    refine d_nil ?_
    refine q_n ?_
    refine w_ret ?_
    refine r_r rfl ?_
    exact a_b (by unfold okP; first | omega | (simp_all; done) | (simp_all; omega))
  refine d_q rfl rfl rfl rfl rfl ?_
  refine v_move rfl ?_
  refine v_nil ?_
  refine d_q rfl rfl rfl rfl rfl ?_
  refine v_move rfl ?_
  refine v_nil ?_
  refine d_q rfl rfl rfl rfl rfl ?_
  refine v_not true rfl rfl ?_
  refine v_nil ?_
  refine d_q rfl rfl rfl rfl rfl ?_
  refine v_pick_t rfl rfl ?_
  refine v_nil ?_
  refine d_q rfl rfl rfl rfl rfl ?_
  refine v_move rfl ?_
  refine v_nil ?_
  refine d_q rfl rfl rfl rfl rfl ?_
  refine v_fa_pt (off' := 1) lay65 rfl rfl rfl ?_
  refine v_nil ?_
  refine d_q rfl rfl rfl rfl rfl ?_
  refine v_load_pt (.c _) lay2 rfl rfl rfl rfl ?_
  refine v_nil ?_
  refine d_callb (cInR _ _ _) rfl rfl rfl rfl (.cons vw_v (.cons vw_v (.cons vw_v .nil))) (fun h4 => ?_) (fun h4 => ?_)
  rotate_left
  · refine d_q rfl rfl rfl rfl rfl ?_
    refine v_pick_t rfl rfl ?_
    refine v_nil ?_
    refine d_q rfl rfl rfl rfl rfl ?_
    refine v_move rfl ?_
    refine v_nil ?_
    refine d_off rfl rfl ?_
    refine d_off rfl rfl ?_
    refine d_off rfl rfl ?_
    refine d_q rfl rfl rfl rfl rfl ?_
    refine v_pick_f (v := .v (.bool false)) rfl rfl ?_
    refine v_nil ?_
    refine d_q rfl rfl rfl rfl rfl ?_
    refine v_move rfl ?_
    refine v_nil ?_
    refine d_off rfl rfl ?_
    refine d_off rfl rfl ?_
    refine d_off rfl rfl ?_
    refine d_off rfl rfl ?_
    refine d_off rfl rfl ?_
    refine d_off rfl rfl ?_
    refine d_q rfl rfl rfl rfl rfl ?_
    refine v_pick_f (v := .v (.bool false)) rfl rfl ?_
    refine v_nil ?_
    refine d_q rfl rfl rfl rfl rfl ?_
    refine v_assign rfl ?_
    refine v_nil ?_
    refine d_nil ?_
    refine q_n ?_
    refine w_ret ?_
    refine r_r rfl ?_
    exact a_b (by unfold okP; first | omega | (simp_all; done) | (simp_all; omega))
  have hc := cyc_rng h4 hs
  refine d_q rfl rfl rfl rfl rfl ?_
  refine v_pick_t rfl rfl ?_
  refine v_nil ?_
  refine d_q rfl rfl rfl rfl rfl ?_
  refine v_move rfl ?_
  refine v_nil ?_
  refine d_q rfl rfl rfl rfl rfl ?_
  refine v_load_pt (.agg [_, _, _]) lay65 rfl rfl rfl rfl ?_
  refine v_nil ?_
  refine d_call (cCyc _ _ _ hs (by omega) (by omega)) rfl rfl rfl rfl rfl (.cons (vw_agg (.cons vw_sl (.cons vw_v (.cons vw_v .nil)))) .nil) ?_
  refine d_q rfl rfl rfl rfl rfl ?_
  refine v_leq lay2 rfl rfl (fun h5 => ?_) (fun h5 => ?_)
  rotate_left
  · refine v_nil ?_
    refine d_q rfl rfl rfl rfl rfl ?_
    refine v_pick_t rfl rfl ?_
    refine v_nil ?_
    refine d_q rfl rfl rfl rfl rfl ?_
    refine v_move rfl ?_
    refine v_nil ?_
    refine d_off rfl rfl ?_
    refine d_off rfl rfl ?_
    refine d_off rfl rfl ?_
    refine d_off rfl rfl ?_
    refine d_off rfl rfl ?_
    refine d_off rfl rfl ?_
    refine d_q rfl rfl rfl rfl rfl ?_
    refine v_pick_f (v := .v (.bool false)) rfl rfl ?_
    refine v_nil ?_
    refine d_q rfl rfl rfl rfl rfl ?_
    refine v_assign rfl ?_
    refine v_nil ?_
    refine d_nil ?_
    refine q_n ?_
    refine w_ret ?_
    refine r_r rfl ?_
    exact a_b (by unfold okP; first | omega | (simp_all; done) | (simp_all; omega))
  refine v_nil ?_
  refine d_q rfl rfl rfl rfl rfl ?_
  refine v_pick_t rfl rfl ?_
  refine v_nil ?_
  refine d_q rfl rfl rfl rfl rfl ?_
  refine v_move rfl ?_
  refine v_nil ?_
  refine d_q rfl rfl rfl rfl rfl ?_
  refine v_fa_pt (off' := 2) lay65 rfl rfl rfl ?_
  refine v_nil ?_
  refine d_q rfl rfl rfl rfl rfl ?_
  refine v_load_pt (.c _) lay2 rfl rfl rfl rfl ?_
  refine v_nil ?_
  refine d_q rfl rfl rfl rfl rfl ?_
  refine v_load_pt (.agg [_, _, _]) lay65 rfl rfl rfl rfl ?_
  refine v_nil ?_
  refine d_call (cCyc _ _ _ hs (by omega) (by omega)) rfl rfl rfl rfl rfl (.cons (vw_agg (.cons vw_sl (.cons vw_v (.cons vw_v .nil)))) .nil) ?_
  refine d_q rfl rfl rfl rfl rfl ?_
  refine v_sub lay2 rfl rfl (i64r (by omega)) ?_
  refine v_nil ?_
  refine d_callb (cInR _ _ _) rfl rfl rfl rfl (.cons vw_v (.cons vw_v (.cons vw_v .nil))) (fun h6 => ?_) (fun h6 => ?_)
  · refine d_q rfl rfl rfl rfl rfl ?_
    refine v_pick_t rfl rfl ?_
    refine v_nil ?_
    refine d_q rfl rfl rfl rfl rfl ?_
    refine v_assign rfl ?_
    refine v_nil ?_
    refine d_nil ?_
    refine q_n ?_
    refine w_ret ?_
    refine r_r rfl ?_
    exact a_b (by unfold okP; first | omega | (simp_all; done) | (simp_all; omega))
  refine d_q rfl rfl rfl rfl rfl ?_
  refine v_pick_t rfl rfl ?_
  refine v_nil ?_
  refine d_q rfl rfl rfl rfl rfl ?_
  refine v_assign rfl ?_
  refine v_nil ?_
  refine d_nil ?_
  refine q_n ?_
  refine w_ret ?_
  refine r_r rfl ?_
  exact a_b (by unfold okP; first | omega | (simp_all; done) | (simp_all; omega))
theorem cCyS (xs : List Slo) (b f : Int) (hx : xs.length ≤ 2 ^ 40) : PureC X 117 [.c (.vw false (pln true xs b f) 0)] (cI (cyS xs b 0)) := by
  refine PureC.of_body (drawD_ok X) (fun _ _ => Go.Proofs.Tryz.call117 _ _) Go.Proofs.Tryz.func117 rfl (n := 51) rfl ?_
  refine w_seq ?_
  refine w_reg rfl ?_
  refine v_assign (c := .v (.int .i64 0)) rfl ?_
  refine v_nil ?_
  refine q_n ?_
  refine w_seq ?_
  refine w_reg rfl ?_
  refine v_assign (c := .v (.int .i64 0)) rfl ?_
  refine v_nil ?_
  refine q_n ?_
  refine w_seq ?_
  refine w_seq ?_
  refine w_reg rfl ?_
  refine v_assign (c := .v (.int .i64 0)) rfl ?_
  refine v_nil ?_
  refine q_n ?_
  refine w_block ?_
  refine w_loop (fun k sl H => ∃ (i : Nat) (a : Int), k = xs.length - i ∧ i ≤ xs.length ∧ cyS (xs.drop i) b a = cyS xs b 0 ∧ (0 ≤ a ∧ a ≤ 240) ∧ sl = sls [(0, .c (.vw false (pln true xs b f) 0)), (3, cI a), (4, cI i)] ∧ H = []) ?_ ?_
  · refine ⟨_, _, _, ?_, 0, 0, rfl, Nat.zero_le _, rfl, by decide, rfl, rfl⟩
    exact turn0 ⟨tr_vw, tr_v, tr_v, trivial⟩
  rintro k sl H ⟨i, a, rfl, hi, hp, ha, rfl, rfl⟩
  refine w_seq ?_
  refine w_seq ?_
  refine w_reg rfl ?_
  refine v_move rfl ?_
  refine v_move rfl ?_
  refine v_nil_vw rfl ?_
  refine v_fa_vw (off' := 0) lay65 rfl rfl rfl ?_
  refine v_load_vw (.c (_)) lay63 rfl rfl rfl ?_
  refine v_len_sl lay63 rfl ?_
  refine v_lss lay3 rfl rfl (fun h1 => ?_) (fun h1 => ?_)
  rotate_left
  · refine v_nil ?_
    refine q_n ?_
    refine w_f rfl ?_
    refine w_exit ?_
    refine q_e ?_
    refine q_e ?_
    refine q_hit ?_
    refine q_n ?_
    refine w_seq ?_
    refine w_reg rfl ?_
    refine v_move rfl ?_
    refine v_assign rfl ?_
    refine v_nil ?_
    refine q_n ?_
    refine w_ret ?_
    refine r_r rfl ?_
    first | exact a_i (by rw [← hp, cyS_at hi1, if_neg (by omega)]) | exact a_i (by rw [← hp, cyS_at hi1, if_pos ⟨by assumption, by assumption⟩, if_pos (by omega)]) | exact a_i (by obtain rfl : i = xs.length := (by omega); rw [List.drop_length] at hp; exact hp)
  have hi1 : i < xs.length := by omega
  refine v_nil ?_
  refine q_n ?_
  refine w_t rfl ?_
  refine w_skip ?_
  refine q_n ?_
  refine w_seq ?_
  refine w_block ?_
  refine w_seq ?_
  refine w_seq ?_
  refine w_reg rfl ?_
  refine v_move rfl ?_
  refine v_nil_vw rfl ?_
  refine v_fa_vw (off' := 0) lay65 rfl rfl rfl ?_
  refine v_load_vw (.c (_)) lay63 rfl rfl rfl ?_
  refine v_move rfl ?_
  refine v_idx_e (k := 9) (i) stc_len lay63 lay142 rfl rfl rfl (rfl) rfl (rfl) (hi1) ?_
  refine v_fa_vw (off' := 8) lay142 rfl rfl rfl ?_
  refine v_load_vw (.c (.v _)) lay2 rfl rfl rfl ?_
  refine v_callb (cIn _ _ _) rfl rfl (.cons vw_v (.cons vw_v (.cons vw_v .nil))) (fun h3 => ?_) (fun h3 => ?_)
  rotate_left
  · refine v_not true rfl rfl ?_
    refine v_move rfl ?_
    refine v_guard_off rfl rfl rfl ?_
    refine v_guard_off rfl rfl rfl ?_
    refine v_guard_off rfl rfl rfl ?_
    refine v_guard_off rfl rfl rfl ?_
    refine v_guard_off rfl rfl rfl ?_
    refine v_guard_off rfl rfl rfl ?_
    refine v_pick_t (v := .v (.bool true)) rfl rfl ?_
    refine v_nil ?_
    refine q_n ?_
    refine w_t rfl ?_
    refine w_seq ?_
    refine w_reg rfl ?_
    refine v_assign (c := .v (.int .i64 241)) rfl ?_
    refine v_nil ?_
    refine q_n ?_
    refine w_ret (q_r (q_br (q_r (q_r (q_br (q_r ?_))))))
    refine r_r rfl ?_
    first | exact a_i (by rw [← hp, cyS_at hi1, if_neg (by omega)]) | exact a_i (by rw [← hp, cyS_at hi1, if_pos ⟨by assumption, by assumption⟩, if_pos (by omega)]) | exact a_i (by obtain rfl : i = xs.length := (by omega); rw [List.drop_length] at hp; exact hp)
  refine v_not false rfl rfl ?_
  refine v_move rfl ?_
  refine v_guard_on rfl rfl ?_
  refine v_move rfl ?_
  refine v_guard_on rfl rfl ?_
  refine v_nil_vw rfl ?_
  refine v_guard_on rfl rfl ?_
  refine v_fa_vw (off' := 1) lay65 rfl rfl rfl ?_
  refine v_guard_on rfl rfl ?_
  refine v_load_vw (.c (.v _)) lay2 rfl rfl rfl ?_
  refine v_guard_on rfl rfl ?_
  refine v_callb (cIn _ _ _) rfl rfl (.cons vw_v (.cons vw_v (.cons vw_v .nil))) (fun h4 => ?_) (fun h4 => ?_)
  rotate_left
  · refine v_guard_on rfl rfl ?_
    refine v_not true rfl rfl ?_
    refine v_pick_f rfl rfl ?_
    refine v_nil ?_
    refine q_n ?_
    refine w_t rfl ?_
    refine w_seq ?_
    refine w_reg rfl ?_
    refine v_assign (c := .v (.int .i64 241)) rfl ?_
    refine v_nil ?_
    refine q_n ?_
    refine w_ret (q_r (q_br (q_r (q_r (q_br (q_r ?_))))))
    refine r_r rfl ?_
    first | exact a_i (by rw [← hp, cyS_at hi1, if_neg (by omega)]) | exact a_i (by rw [← hp, cyS_at hi1, if_pos ⟨by assumption, by assumption⟩, if_pos (by omega)]) | exact a_i (by obtain rfl : i = xs.length := (by omega); rw [List.drop_length] at hp; exact hp)
  refine v_guard_on rfl rfl ?_
  refine v_not false rfl rfl ?_
  refine v_pick_f rfl rfl ?_
  refine v_nil ?_
  refine q_n ?_
  refine w_f rfl ?_
  refine w_skip ?_
  refine q_n ?_
  refine w_seq ?_
  refine w_draw [0, 0, 2, 6, 14, 0, 62, 126, 254, 0, 512, 1536, 3584, 8190, 16383, 32767] [⟨0, 0, []⟩, ⟨1, 0, []⟩, ⟨2, 0, []⟩, ⟨3, 0, []⟩, ⟨4, 0, []⟩, ⟨5, 0, []⟩, ⟨6, 0, []⟩, ⟨7, 0, []⟩, ⟨8, 0, []⟩, ⟨9, 0, []⟩, ⟨10, 0, []⟩, ⟨11, 0, []⟩, ⟨12, 0, []⟩, ⟨13, 0, []⟩, ⟨14, 0, []⟩, ⟨15, 0, []⟩] rfl rfl ?_
  refine d_q rfl rfl rfl rfl rfl ?_
  refine v_move rfl ?_
  refine v_nil ?_
  refine d_q rfl rfl rfl rfl rfl ?_
  refine v_move rfl ?_
  refine v_nil ?_
  refine d_q rfl rfl rfl rfl rfl ?_
  refine v_nil_vw rfl ?_
  refine v_nil ?_
  refine d_q rfl rfl rfl rfl rfl ?_
  refine v_fa_vw (off' := 0) lay65 rfl rfl rfl ?_
  refine v_nil ?_
  refine d_q rfl rfl rfl rfl rfl ?_
  refine v_load_vw (.c (_)) lay63 rfl rfl rfl ?_
  refine v_nil ?_
  refine d_q rfl rfl rfl rfl rfl ?_
  refine v_move rfl ?_
  refine v_nil ?_
  refine d_q rfl rfl rfl rfl rfl ?_
  refine v_idx_e (k := 9) (i) stc_len lay63 lay142 rfl rfl rfl (rfl) rfl (rfl) (hi1) ?_
  refine v_nil ?_
  refine d_q rfl rfl rfl rfl rfl ?_
  refine v_fa_vw (off' := 8) lay142 rfl rfl rfl ?_
  refine v_nil ?_
  refine d_q rfl rfl rfl rfl rfl ?_
  refine v_load_vw (.c (.v _)) lay2 rfl rfl rfl ?_
  refine v_nil ?_
  refine d_q rfl rfl rfl rfl rfl ?_
  refine v_move rfl ?_
  refine v_nil ?_
  refine d_q rfl rfl rfl rfl rfl ?_
  refine v_nil_vw rfl ?_
  refine v_nil ?_
  refine d_q rfl rfl rfl rfl rfl ?_
  refine v_fa_vw (off' := 1) lay65 rfl rfl rfl ?_
  refine v_nil ?_
  refine d_q rfl rfl rfl rfl rfl ?_
  refine v_load_vw (.c (.v _)) lay2 rfl rfl rfl ?_
  refine v_nil ?_
  refine d_q rfl rfl rfl rfl rfl ?_
  refine v_add lay2 rfl rfl (i64r (by omega)) ?_
  refine v_nil ?_
  refine d_q rfl rfl rfl rfl rfl ?_
  refine v_add lay2 rfl rfl (i64r (by omega)) ?_
  refine v_nil ?_
  refine d_q rfl rfl rfl rfl rfl ?_
  refine v_assign rfl ?_
  refine v_nil ?_
  refine d_nil ?_
  refine q_n ?_
  refine w_seq ?_
  refine w_reg rfl ?_
  refine v_move rfl ?_
  refine v_gtr lay2 rfl rfl (fun h6 => ?_) (fun h6 => ?_)
  rotate_left
  · refine v_nil ?_
    refine q_n ?_
    refine w_f rfl ?_
    refine w_skip ?_
    refine q_bn ?_
    refine q_n ?_
    refine w_reg rfl ?_
    refine v_move rfl ?_
    refine v_add lay3 rfl rfl (i64r (by omega)) ?_
    refine v_assign rfl ?_
    refine v_nil ?_
    refine q_n ?_
    rw [cyS_at hi1, if_pos ⟨by assumption, by assumption⟩, if_neg (by omega)] at hp
    refine ⟨_, _, _, ?_, ⟨i + 1, a + (xs[i].2 + b), rfl, by omega, hp, by omega, rfl, rfl⟩, by omega⟩
    exact turn0 ⟨tr_vw, tr_v, tr_v, trivial⟩
  refine v_nil ?_
  refine q_n ?_
  refine w_t rfl ?_
  refine w_seq ?_
  refine w_reg rfl ?_
  refine v_move rfl ?_
  refine v_assign rfl ?_
  refine v_nil ?_
  refine q_n ?_
  refine w_ret (q_br (q_r (q_r (q_br (q_r ?_)))))
  refine r_r rfl ?_
  first | exact a_i (by rw [← hp, cyS_at hi1, if_neg (by omega)]) | exact a_i (by rw [← hp, cyS_at hi1, if_pos ⟨by assumption, by assumption⟩, if_pos (by omega)]) | exact a_i (by obtain rfl : i = xs.length := (by omega); rw [List.drop_length] at hp; exact hp)
theorem cPlS (xs : List Slo) (b f : Int) (hx : xs.length ≤ 2 ^ 40) : PureC X 58 [.c (.vw false (pln true xs b f) 0)] (cB (decide (okP xs b f))) := by
  refine PureC.of_body (drawD_ok X) (fun _ _ => Go.Proofs.Tryz.call58 _ _) Go.Proofs.Tryz.func58 rfl (n := 24) rfl ?_
  refine w_seq ?_
  refine w_reg rfl ?_
  refine v_assign (c := .v (.bool false)) rfl ?_
  refine v_nil ?_
  refine q_n ?_
  refine w_seq ?_
  refine w_seq ?_
  refine w_reg rfl ?_
  refine v_move rfl ?_
  refine v_nil_vw rfl ?_
  refine v_fa_vw (off' := 0) lay65 rfl rfl rfl ?_
  refine v_load_vw (.c (_)) lay63 rfl rfl rfl ?_
  refine v_len_sl lay63 rfl ?_
  refine v_callb (cIn _ _ _) rfl rfl (.cons vw_v (.cons vw_v (.cons vw_v .nil))) (fun h1 => ?_) (fun h1 => ?_)
  rotate_left
  · refine v_not true rfl rfl ?_
    refine v_nil ?_
    refine q_n ?_
    refine w_t rfl ?_
    refine w_seq ?_
    refine w_reg rfl ?_
    refine v_assign (c := .v (.bool false)) rfl ?_
    refine v_nil ?_
    refine q_n ?_
    refine w_ret (q_r ?_)
    refine r_r rfl ?_
    exact a_b (by simp only [Bool.false_eq_true, false_iff]; exact fun h => h1 h.1.1)
  have hO := okS (xs := xs) (b := b) (f := f) h1
  refine v_not false rfl rfl ?_
  refine v_nil ?_
  refine q_n ?_
  refine w_f rfl ?_
  refine w_skip ?_
  refine q_n ?_
  refine w_seq ?_
  refine w_reg rfl ?_
  refine v_move rfl ?_
  refine v_call (cCyS _ _ _ hx) rfl rfl rfl (.cons vw_vw .nil) ?_
  refine v_assign rfl ?_
  refine v_nil ?_
  refine q_n ?_
  refine w_seq ?_
  refine w_reg rfl ?_
  refine v_move rfl ?_
  refine v_leq lay2 rfl rfl (fun h2 => ?_) (fun h2 => ?_)
  rotate_left
  · refine v_move rfl ?_
    refine v_guard_off rfl rfl rfl ?_
    refine v_guard_off rfl rfl rfl ?_
    refine v_guard_off rfl rfl rfl ?_
    refine v_guard_off rfl rfl rfl ?_
    refine v_guard_off rfl rfl rfl ?_
    refine v_guard_off rfl rfl rfl ?_
    refine v_guard_off rfl rfl rfl ?_
    refine v_pick_f (v := .v (.bool false)) rfl rfl ?_
    refine v_assign rfl ?_
    refine v_nil ?_
    refine q_n ?_
    refine w_ret ?_
    refine r_r rfl ?_
    exact a_b (by rw [← hO]; simp only [Bool.false_eq_true, false_iff]; exact fun h => h2 h.1)
  have hn := cyS_nn (xs := xs) (b := b) (a := 0) (by decide)
  refine v_move rfl ?_
  refine v_guard_on rfl rfl ?_
  refine v_move rfl ?_
  refine v_guard_on rfl rfl ?_
  refine v_nil_vw rfl ?_
  refine v_guard_on rfl rfl ?_
  refine v_fa_vw (off' := 2) lay65 rfl rfl rfl ?_
  refine v_guard_on rfl rfl ?_
  refine v_load_vw (.c (.v _)) lay2 rfl rfl rfl ?_
  refine v_guard_on rfl rfl ?_
  refine v_move rfl ?_
  refine v_guard_on rfl rfl ?_
  refine v_sub lay2 rfl rfl (i64r (by omega)) ?_
  refine v_guard_on rfl rfl ?_
  refine v_callb (cIn _ _ _) rfl rfl (.cons vw_v (.cons vw_v (.cons vw_v .nil))) (fun h3 => ?_) (fun h3 => ?_)
  · refine v_pick_t rfl rfl ?_
    refine v_assign rfl ?_
    refine v_nil ?_
    refine q_n ?_
    refine w_ret ?_
    refine r_r rfl ?_
    exact a_b (by rw [← hO]; simp only [true_iff]; exact ⟨h2, h3⟩)
  refine v_pick_t rfl rfl ?_
  refine v_assign rfl ?_
  refine v_nil ?_
  refine q_n ?_
  refine w_ret ?_
  refine r_r rfl ?_
  exact a_b (by rw [← hO]; simp only [Bool.false_eq_true, false_iff]; exact fun h => h3 h.2)
end Go.VL
namespace Go.VL
open Go.RowKit
set_option maxRecDepth 20000
set_option maxHeartbeats 8000000
theorem lt_of_read {b : Nat} (hb : b < 2 ^ 32) {m : Nat} {e : Int} (hr : fS.read b = .number false m e) : b < 2139095040 := by
  refine Decidable.byContradiction fun hn => ?_
  unfold Ieee.Format.read at hr
  rw [fS_sw, fS_bi, fS_in, fS_lp] at hr
  by_cases h1 : b < 2147483648
  · have h2 : b / 2147483648 % 2 = 0 := by omega
    have h3 : b % 2147483648 = b := by omega
    simp only [h2, h3] at hr
    rw [if_neg (by omega), if_neg hn] at hr
    split at hr <;> cases hr
  · have h2 : b / 2147483648 % 2 = 1 := by omega
    simp only [h2] at hr
    split at hr
    · cases hr
    · split at hr
      · cases hr
      · split at hr <;> cases hr
/-- An amount is a rung. -/
theorem amt_rung {x : Option Nat} (hx : Sg x) (h : amtB x = true) : ∃ b, x = some b ∧ b < 2139095040 := by
  cases x with
  | none => cases h
  | some b =>
    refine ⟨b, rfl, ?_⟩
    have ha := amtB_some.1 h
    obtain ⟨s, m, e, hr⟩ := num_of_fin ha.1
    have hs := (amt_num (hx.2 b rfl) hr).1 ha
    subst hs
    exact lt_of_read (hx.2 b rfl) hr
theorem ford_cmp {a c : Nat} (ha : a < 2139095040) (hc : c < 2139095040) : ford .f32 (some a) (some c) = some (compare a c) := ford_pos ha hc
theorem share_rung {x : Option Nat} (hx : Sg x) (h : shr x) : ∃ b, x = some b ∧ b ≤ 1065353216 := by
  obtain ⟨b, rfl, hb⟩ := amt_rung hx h.1
  refine ⟨b, rfl, ?_⟩
  have h2 : fle (some b) 1065353216 := h.2
  unfold fle at h2
  rw [show fOf .f32 1065353216 = some 1065353216 by decide, ford_cmp hb (by decide)] at h2
  rcases Nat.lt_trichotomy b 1065353216 with h3 | h3 | h3
  · omega
  · omega
  · rw [Nat.compare_eq_gt.2 h3] at h2
    exact absurd h2 (by decide)
theorem add_rung {a b c d e : Nat} (ha : a ≤ c) (hb : b ≤ d) (hc : c < 2139095040) (hd : d < 2139095040) (he : e < 2139095040) (h : val c + val d ≤ val e) : ∃ r, fop .add .f32 (some a) (some b) = some r ∧ r ≤ e := by
  refine ⟨_, fadd_pos (by omega) (by omega), rung_le_of he ?_⟩
  have h1 := val_le.2 ha
  have h2 := val_le.2 hb
  omega
theorem psm_rung {g : Fo} (hs : ∀ i (hi : i < 4), Sg (g ⟨i, hi⟩)) (h : ∀ i (hi : i < 4), shr (g ⟨i, hi⟩)) : ∃ r, psm g 4 = some r ∧ r < 2139095040 := by
  obtain ⟨a, ea, ha⟩ := share_rung (hs 0 (by decide)) (h 0 (by decide))
  obtain ⟨b, eb, hb⟩ := share_rung (hs 1 (by decide)) (h 1 (by decide))
  obtain ⟨c, ec, hc⟩ := share_rung (hs 2 (by decide)) (h 2 (by decide))
  obtain ⟨d, ed, hd⟩ := share_rung (hs 3 (by decide)) (h 3 (by decide))
  obtain ⟨r1, e1, h1⟩ := add_rung (e := 1073741824) ha hb (by decide) (by decide) (by decide) (by decide)
  obtain ⟨r2, e2, h2⟩ := add_rung (e := 1082130432) h1 hc (by decide) (by decide) (by decide) (by decide)
  obtain ⟨r3, e3, h3⟩ := add_rung (e := 1090519040) h2 hd (by decide) (by decide) (by decide) (by decide)
  refine ⟨r3, ?_, by omega⟩
  have p1 : psm g 1 = some a := ea
  have p2 : psm g 2 = some r1 := by rw [← psm_s g (n := 1) (by decide) (by decide), p1, eb, e1]
  have p3 : psm g 3 = some r2 := by rw [← psm_s g (n := 2) (by decide) (by decide), p2, ec, e2]
  rw [← psm_s g (n := 3) (by decide) (by decide), p3, ed, e3]
abbrev flt (x : Option Nat) (c : Nat) : Prop := (ford .f32 x (fOf .f32 c) == some .lt) = true
abbrev fgt (x : Option Nat) (c : Nat) : Prop := (ford .f32 x (fOf .f32 c) == some .gt) = true
theorem not_flt {r c : Nat} (hr : r < 2139095040) (hc : c < 2139095040) (hf : fOf .f32 c = some c) (h : ¬ flt (some r) c) : fge (some r) c := by
  unfold flt at h
  unfold fge
  rw [hf, ford_cmp hr hc] at *
  rcases Nat.lt_trichotomy r c with h3 | h3 | h3
  · rw [Nat.compare_eq_lt.2 h3] at h
    exact absurd rfl h
  · rw [Nat.compare_eq_eq.2 h3]
    decide
  · rw [Nat.compare_eq_gt.2 h3]
    decide
theorem not_fgt {r c : Nat} (hr : r < 2139095040) (hc : c < 2139095040) (hf : fOf .f32 c = some c) (h : ¬ fgt (some r) c) : fle (some r) c := by
  unfold fgt at h
  unfold fle
  rw [hf, ford_cmp hr hc] at *
  rcases Nat.lt_trichotomy r c with h3 | h3 | h3
  · rw [Nat.compare_eq_lt.2 h3]
    decide
  · rw [Nat.compare_eq_eq.2 h3]
    decide
  · rw [Nat.compare_eq_gt.2 h3] at h
    exact absurd rfl h
theorem flt_not {x : Option Nat} {c : Nat} (h : flt x c) : ¬ fge x c := fun h2 => by
  unfold flt at h
  unfold fge at h2
  rw [eq_of_beq h] at h2
  exact absurd h2 (by decide)
theorem fgt_not {x : Option Nat} {c : Nat} (h : fgt x c) : ¬ fle x c := fun h2 => by
  unfold fgt at h
  unfold fle at h2
  rw [eq_of_beq h] at h2
  exact absurd h2 (by decide)
/-- The sum of a list of numbers. -/
def sumL : List (Option Nat) → Option Nat
  | [] => some 0
  | x :: r => r.foldl (fun a b => fop .add .f32 a b) x
theorem sumL_take {xs : List (Option Nat)} {i : Nat} (h : i + 1 < xs.length) : sumL (xs.take (i + 2)) = fop .add .f32 (sumL (xs.take (i + 1))) xs[i + 1] := by
  cases xs with
  | nil => simp at h
  | cons x r =>
    simp only [List.take_succ_cons, sumL, List.getElem_cons_succ]
    rw [List.take_succ_eq_append_getElem (by simpa using h), List.foldl_append]
    rfl
theorem sumL_1 {xs : List (Option Nat)} (h : 0 < xs.length) : sumL (xs.take 1) = xs[0] := by
  cases xs with
  | nil => simp at h
  | cons x r => rfl
theorem sumL_row (g : Fo) : sumL (l4 g) = psm g 4 := rfl
theorem fin_feq {b : Nat} (h : feq (some b)) : fin (some b) = true := by
  unfold feq at h
  rw [zero32] at h
  rcases read_num .f32 b with ⟨s, t, hr⟩ | ⟨s, hr⟩ | ⟨s, m, e, hr⟩
  · simp only [ford, Option.bind_some, Ieee.Format.order, hr, read_zero32, Ieee.Datum.order] at h
    exact absurd h (by decide)
  · simp only [ford, Option.bind_some, Ieee.Format.order, hr, read_zero32, Ieee.Datum.order] at h
    cases s <;> exact absurd h (by decide)
  · have := fin_num hr
    rwa [num_some hr] at this
theorem cArI (n : Int) : PureC X 177 [cI n] (cB (decide (1 ≤ n ∧ n ≤ 4))) := by
  refine PureC.of_body (drawD_ok X) (fun _ _ => Go.Proofs.Tryz.call177 _ _) Go.Proofs.Tryz.func177 rfl (n := 5) rfl ?_
  refine w_seq ?_
  refine w_reg rfl ?_
  refine v_assign (c := .v (.bool false)) rfl ?_
  refine v_nil ?_
  refine q_n ?_
  refine w_seq ?_
  refine w_reg rfl ?_
  refine v_move rfl ?_
  refine v_callb (cInR _ _ _) rfl rfl (.cons vw_v (.cons vw_v (.cons vw_v .nil))) (fun h1 => ?_) (fun h1 => ?_)
  · refine v_assign rfl ?_
    refine v_nil ?_
    refine q_n ?_
    refine w_ret ?_
    refine r_r rfl ?_
    exact a_b (by simp_all)
  refine v_assign rfl ?_
  refine v_nil ?_
  refine q_n ?_
  refine w_ret ?_
  refine r_r rfl ?_
  exact a_b (by simp_all)
theorem cPrI (x : Option Nat) (hx : Sg x) : PureC X 179 [.c (.f .f32 x)] (cB (decide (prior x))) := by
  refine PureC.of_body (drawD_ok X) (fun _ _ => Go.Proofs.Tryz.call179 _ _) Go.Proofs.Tryz.func179 rfl (n := 13) rfl ?_
  refine w_seq ?_
  refine w_reg rfl ?_
  refine v_assign (c := .v (.bool false)) rfl ?_
  refine v_nil ?_
  refine q_n ?_
  refine w_seq ?_
  refine w_reg rfl ?_
  refine v_move rfl ?_
  refine v_callb (cAmI _ (by assumption)) rfl rfl (.cons vw_f .nil) (fun h1 => ?_) (fun h1 => ?_)
  rotate_left
  · refine v_move rfl ?_
    refine v_guard_off rfl rfl rfl ?_
    refine v_guard_off rfl rfl rfl ?_
    refine v_pick_f (v := .v (.bool false)) rfl rfl ?_
    refine v_move rfl ?_
    refine v_guard_off rfl rfl rfl ?_
    refine v_guard_off rfl rfl rfl ?_
    refine v_pick_f (v := .v (.bool false)) rfl rfl ?_
    refine v_assign rfl ?_
    refine v_nil ?_
    refine q_n ?_
    refine w_ret ?_
    refine r_r rfl ?_
    exact a_b (by unfold prior; simp_all)
  refine v_move rfl ?_
  refine v_guard_on rfl rfl ?_
  refine v_move rfl ?_
  refine v_guard_on rfl rfl ?_
  refine v_binb lay26 rfl rfl rfl (fun h2 => ?_) (fun h2 => ?_)
  rotate_left
  · replace h2 : ¬ fge x 1015021568 := fun h => absurd (h2.symm.trans h) (by decide)
    refine v_pick_t rfl rfl ?_
    refine v_move rfl ?_
    refine v_guard_off rfl rfl rfl ?_
    refine v_guard_off rfl rfl rfl ?_
    refine v_pick_f (v := .v (.bool false)) rfl rfl ?_
    refine v_assign rfl ?_
    refine v_nil ?_
    refine q_n ?_
    refine w_ret ?_
    refine r_r rfl ?_
    exact a_b (by unfold prior; simp_all)
  replace h2 : fge x 1015021568 := h2
  refine v_pick_t rfl rfl ?_
  refine v_move rfl ?_
  refine v_guard_on rfl rfl ?_
  refine v_move rfl ?_
  refine v_guard_on rfl rfl ?_
  refine v_binb lay26 rfl rfl rfl (fun h3 => ?_) (fun h3 => ?_)
  · replace h3 : fle x 1115684864 := h3
    refine v_pick_t rfl rfl ?_
    refine v_assign rfl ?_
    refine v_nil ?_
    refine q_n ?_
    refine w_ret ?_
    refine r_r rfl ?_
    exact a_b (by unfold prior; simp_all)
  replace h3 : ¬ fle x 1115684864 := fun h => absurd (h3.symm.trans h) (by decide)
  refine v_pick_t rfl rfl ?_
  refine v_assign rfl ?_
  refine v_nil ?_
  refine q_n ?_
  refine w_ret ?_
  refine r_r rfl ?_
  exact a_b (by unfold prior; simp_all)
theorem cNoIs (b w : Nat) (hb : b < 2 ^ 32) (hw : convF .f32 .f64 (some b) = some (some w)) : PureC X 180 [.c (.f .f32 (some b))] (cB (decide (nil0 (some b)))) := by
  refine PureC.of_body (drawD_ok X) (fun _ _ => Go.Proofs.Tryz.call180 _ _) Go.Proofs.Tryz.func180 rfl (n := 11) rfl ?_
  refine w_seq ?_
  refine w_reg rfl ?_
  refine v_assign (c := .v (.bool false)) rfl ?_
  refine v_nil ?_
  refine q_n ?_
  refine w_seq ?_
  refine w_reg rfl ?_
  refine v_move rfl ?_
  refine v_binb lay26 rfl rfl rfl (fun h1 => ?_) (fun h1 => ?_)
  rotate_left
  · replace h1 : ¬ feq (some b) := fun h => absurd (h1.symm.trans h) (by decide)
    refine v_move rfl ?_
    refine v_guard_off rfl rfl rfl ?_
    refine v_guard_off rfl rfl rfl ?_
    refine v_guard_off rfl rfl rfl ?_
    refine v_guard_off rfl rfl rfl ?_
    refine v_pick_f (v := .v (.bool false)) rfl rfl ?_
    refine v_assign rfl ?_
    refine v_nil ?_
    refine q_n ?_
    refine w_ret ?_
    refine r_r rfl ?_
    exact a_b ⟨fun h => (by cases h), fun h => absurd h.2 h1⟩
  replace h1 : feq (some b) := h1
  have hfn := fin_feq h1
  refine v_move rfl ?_
  refine v_guard_on rfl rfl ?_
  refine v_move rfl ?_
  refine v_guard_on rfl rfl ?_
  refine v_conv_ff _ lay26 lay83 rfl (hw) ?_
  refine v_guard_on rfl rfl ?_
  refine v_callb (cSgb _) rfl rfl (.cons vw_f .nil) (fun h2 => ?_) (fun h2 => ?_)
  · refine v_guard_on rfl rfl ?_
    refine v_not false rfl rfl ?_
    refine v_pick_t rfl rfl ?_
    refine v_assign rfl ?_
    refine v_nil ?_
    refine q_n ?_
    refine w_ret ?_
    refine r_r rfl ?_
    exact a_b ⟨fun h => (by cases h), fun h => absurd (amtB_some.1 h.1) ((sign_amt hb hw hfn).1 h2)⟩
  refine v_guard_on rfl rfl ?_
  refine v_not true rfl rfl ?_
  refine v_pick_t rfl rfl ?_
  refine v_assign rfl ?_
  refine v_nil ?_
  refine q_n ?_
  refine w_ret ?_
  refine r_r rfl ?_
  exact a_b ⟨fun _ => ⟨amtB_some.2 (Decidable.of_not_not fun h => h2 ((sign_amt hb hw hfn).2 h)), h1⟩, fun _ => rfl⟩
theorem cNoIn : PureC X 180 [.c (.f .f32 none)] (cB (decide (nil0 none))) := by
  refine PureC.of_body (drawD_ok X) (fun _ _ => Go.Proofs.Tryz.call180 _ _) Go.Proofs.Tryz.func180 rfl (n := 11) rfl ?_
  refine w_seq ?_
  refine w_reg rfl ?_
  refine v_assign (c := .v (.bool false)) rfl ?_
  refine v_nil ?_
  refine q_n ?_
  refine w_seq ?_
  refine w_reg rfl ?_
  refine v_move rfl ?_
  refine v_binb lay26 rfl rfl rfl (fun h1 => ?_) (fun h1 => ?_)
  · exact absurd h1 (by decide)
  refine v_move rfl ?_
  refine v_guard_off rfl rfl rfl ?_
  refine v_guard_off rfl rfl rfl ?_
  refine v_guard_off rfl rfl rfl ?_
  refine v_guard_off rfl rfl rfl ?_
  refine v_pick_f (v := .v (.bool false)) rfl rfl ?_
  refine v_assign rfl ?_
  refine v_nil ?_
  refine q_n ?_
  refine w_ret ?_
  refine r_r rfl ?_
  exact a_b ⟨fun h => (by cases h), fun h => (by cases h.1)⟩
theorem cNoI (x : Option Nat) (hx : Sg x) : PureC X 180 [.c (.f .f32 x)] (cB (decide (nil0 x))) := by
  cases x with
  | none => exact cNoIn
  | some b =>
    obtain ⟨w, hw, -⟩ := wide_some hx.1
    exact cNoIs b w (hx.2 b rfl) hw
theorem cSum (xs : List (Option Nat)) (hx : xs.length ≤ 2 ^ 40) (h0 : 0 < xs.length) : PureC X 178 [.c (.sl false xs.length 1 (flat fe xs))] (.c (.f .f32 (sumL xs))) := by
  refine PureC.of_body (drawD_ok X) (fun _ _ => Go.Proofs.Tryz.call178 _ _) Go.Proofs.Tryz.func178 rfl (n := 21) rfl ?_
  refine w_seq ?_
  refine w_reg rfl ?_
  refine v_assign (c := .f _ _) rfl ?_
  refine v_nil ?_
  refine q_n ?_
  refine w_seq ?_
  refine w_reg rfl ?_
  refine v_move rfl ?_
  refine v_idx_e (k := 1) (0) fe_len lay23 lay26 rfl rfl rfl (by simp) rfl (rfl) (h0) ?_
  refine v_load_vw (.c (.f _ _)) lay26 rfl rfl rfl ?_
  refine v_assign rfl ?_
  refine v_nil ?_
  refine q_n ?_
  refine w_seq ?_
  refine w_seq ?_
  refine w_reg rfl ?_
  refine v_move rfl ?_
  refine v_slice_sl (1) (xs.length) fe_len lay23 lay26 rfl rfl rfl rfl rfl (rfl) (rfl) (⟨h0, Nat.le_refl _⟩) ?_
  refine v_len_sl lay23 rfl ?_
  refine v_move (c := .v (.int .i64 0)) rfl ?_
  refine v_nil ?_
  refine q_n ?_
  refine w_block ?_
  refine w_loop (fun k sl H => ∃ i : Nat, k = xs.length - 1 - i ∧ i ≤ xs.length - 1 ∧ sl = sls [(3, .c (.f .f32 (sumL (xs.take (i + 1))))), (10, .c (.sl false (xs.length - 1) 1 (flat fe ((xs.drop 1).take (xs.length - 1))))), (11, cI (xs.length - 1 : Nat)), (12, cI i)] ∧ H = []) ?_ ?_
  · refine ⟨_, _, _, ?_, 0, rfl, Nat.zero_le _, rfl, rfl⟩
    exact turn0 ⟨by rw [show sumL (xs.take (0 + 1)) = xs[0] from sumL_1 h0]; exact tr_f, tr_sl, tr_v, tr_v, trivial⟩
  rintro k sl H ⟨i, rfl, hi, rfl, rfl⟩
  refine w_seq ?_
  refine w_reg rfl ?_
  refine v_lss lay3 rfl rfl (fun h2 => ?_) (fun h2 => ?_)
  rotate_left
  · refine v_nil ?_
    refine q_n ?_
    refine w_seq ?_
    refine w_f rfl ?_
    refine w_exit ?_
    refine q_e ?_
    refine q_e ?_
    refine q_hit ?_
    refine q_n ?_
    refine w_seq ?_
    refine w_reg rfl ?_
    refine v_move rfl ?_
    refine v_assign rfl ?_
    refine v_nil ?_
    refine q_n ?_
    refine w_ret ?_
    refine r_r rfl ?_
    obtain rfl : i = xs.length - 1 := by omega
    have e : sumL (xs.take (xs.length - 1 + 1)) = sumL xs := by rw [List.take_of_length_le (by omega)]
    rw [← e]
    exact tr_f
  have i1 : i < ((xs.drop 1).take (xs.length - 1)).length := by simp; omega
  have e2 : sumL (xs.take (i + 1 + 1)) = fop .add .f32 (sumL (xs.take (i + 1))) (((xs.drop 1).take (xs.length - 1))[i]) := by
    rw [show ((xs.drop 1).take (xs.length - 1))[i] = xs[i + 1]'(by omega) by simp [Nat.add_comm]]
    exact sumL_take (by omega)
  refine v_nil ?_
  refine q_n ?_
  refine w_seq ?_
  refine w_t rfl ?_
  refine w_skip ?_
  refine q_n ?_
  refine w_seq ?_
  refine w_block ?_
  refine w_seq ?_
  refine w_reg rfl ?_
  refine v_idx_e (k := 1) (i) fe_len lay23 lay26 rfl rfl rfl (by simp) rfl (rfl) (i1) ?_
  refine v_load_vw (.c (.f _ _)) lay26 rfl rfl rfl ?_
  refine v_assign rfl ?_
  refine v_nil ?_
  refine q_n ?_
  refine w_reg rfl ?_
  refine v_move rfl ?_
  refine v_move rfl ?_
  refine v_bin (c := .f _ _) lay26 rfl rfl rfl ?_
  refine v_assign rfl ?_
  refine v_nil ?_
  refine q_bn ?_
  refine q_n ?_
  refine w_reg rfl ?_
  refine v_add lay3 rfl rfl (i64r (by omega)) ?_
  refine v_move rfl ?_
  refine v_nil ?_
  refine q_n ?_
  refine ⟨_, _, _, ?_, ⟨i + 1, rfl, by omega, rfl, rfl⟩, by omega⟩
  exact turn0 ⟨by rw [e2]; exact tr_f, tr_sl, tr_v, tr_v, trivial⟩
end Go.VL
namespace Go.VL
open Go.RowKit
set_option maxRecDepth 20000
set_option maxHeartbeats 8000000
theorem flc_x (T : Fl) {i : Nat} (h : i < 4) : mkV true (sub (flc T) (i * 4) 4) = some (.agg (foc (T ⟨i, h⟩))) := by
  have e : sub (flc T) (i * 4) 4 = foc (T ⟨i, h⟩) := by simpa using flc_row T [] h
  rw [e]
  rfl
theorem foc_x (g : Fo) {i : Nat} (h : i < 4) : mkV false (sub (foc g) (i * 1) 1) = some (.c (.f .f32 (g ⟨i, h⟩))) := by
  have e : sub (foc g) (i * 1) 1 = [.f .f32 (g ⟨i, h⟩)] := by
    rw [Nat.mul_one]
    simpa using foc_sub g [] h
  rw [e]
  rfl
theorem jp_pt (j : Jn) {i : Nat} (h : i < 4) : mkV false (sub (jnc j) (18 + i * 1) 1) = some (.c (.f .f32 (j.2.2.2 ⟨i, h⟩))) := by
  match i, h with
  | 0, _ => rfl
  | 1, _ => rfl
  | 2, _ => rfl
  | 3, _ => rfl
theorem sum_ok {g : Fo} {rs : Nat} (e : sumL (l4 g) = some rs) (h : rs < 2139095040) (hlo : ¬ flt (sumL (l4 g)) 1065336439) (hhi : ¬ fgt (sumL (l4 g)) 1065361605) : fge (psm g 4) 1065336439 ∧ fle (psm g 4) 1065361605 := by
  rw [← sumL_row, e]
  rw [e] at hlo hhi
  exact ⟨not_flt h (by decide) (by decide) hlo, not_fgt h (by decide) (by decide) hhi⟩
theorem jnc_sc (j : Jn) : (jnc j).all sc = true := rfl
theorem cJnI (j : Jn) (hj : jW j) : PureC X 127 [.agg (jnc j)] (cB (decide (jnOk j))) := by
  refine PureC.of_body (drawD_ok X) (fun _ _ => Go.Proofs.Tryz.call127 _ _) Go.Proofs.Tryz.func127 rfl (n := 84) rfl ?_
  refine w_seq ?_
  refine w_reg rfl ?_
  refine v_box (m := 0) (H' := [_]) lay72 rfl rfl rfl ?_
  refine v_assign (c := .v (.bool false)) rfl ?_
  refine v_nil ?_
  refine q_n ?_
  refine w_seq ?_
  refine w_seq ?_
  refine w_reg rfl ?_
  refine v_fa_pt (off' := 0) lay72 rfl rfl rfl ?_
  refine v_load_pt (.c _) lay2 rfl rfl rfl rfl ?_
  refine v_callb (cArI _) rfl rfl (.cons vw_v .nil) (fun h1 => ?_) (fun h1 => ?_)
  rotate_left
  · refine v_not true rfl rfl ?_
    refine v_move rfl ?_
    refine v_guard_off rfl rfl rfl ?_
    refine v_guard_off rfl rfl rfl ?_
    refine v_guard_off rfl rfl rfl ?_
    refine v_guard_off rfl rfl rfl ?_
    refine v_pick_t (v := .v (.bool true)) rfl rfl ?_
    refine v_nil ?_
    refine q_n ?_
    refine w_t rfl ?_
    refine w_seq ?_
    refine w_reg rfl ?_
    refine v_assign (c := .v (.bool false)) rfl ?_
    refine v_nil ?_
    refine q_n ?_
    refine w_ret (q_r ?_)
    refine r_r rfl ?_
    exact a_b (by simp only [Bool.false_eq_true, false_iff]; exact fun ho => h1 ho.1)
  refine v_not false rfl rfl ?_
  refine v_move rfl ?_
  refine v_guard_on rfl rfl ?_
  refine v_fa_pt (off' := 1) lay72 rfl rfl rfl ?_
  refine v_guard_on rfl rfl ?_
  refine v_load_pt (.c _) lay2 rfl rfl rfl rfl ?_
  refine v_guard_on rfl rfl ?_
  refine v_callb (cArI _) rfl rfl (.cons vw_v .nil) (fun h2 => ?_) (fun h2 => ?_)
  rotate_left
  · refine v_guard_on rfl rfl ?_
    refine v_not true rfl rfl ?_
    refine v_pick_f rfl rfl ?_
    refine v_nil ?_
    refine q_n ?_
    refine w_t rfl ?_
    refine w_seq ?_
    refine w_reg rfl ?_
    refine v_assign (c := .v (.bool false)) rfl ?_
    refine v_nil ?_
    refine q_n ?_
    refine w_ret (q_r ?_)
    refine r_r rfl ?_
    exact a_b (by simp only [Bool.false_eq_true, false_iff]; exact fun ho => h2 ho.2.1)
  refine v_guard_on rfl rfl ?_
  refine v_not false rfl rfl ?_
  refine v_pick_f rfl rfl ?_
  refine v_nil ?_
  refine q_n ?_
  refine w_f rfl ?_
  refine w_skip ?_
  refine q_n ?_
  refine w_seq ?_
  refine w_seq ?_
  refine w_reg rfl ?_
  refine v_fa_pt (off' := 2) lay72 rfl rfl rfl ?_
  refine v_load_pt (.agg [_, _, _, _, _, _, _, _, _, _, _, _, _, _, _, _]) lay69 rfl rfl rfl rfl ?_
  refine v_move (c := .v (.int .i64 0)) rfl ?_
  refine v_nil ?_
  refine q_n ?_
  refine w_block ?_
  refine w_loop (fun k sl H => ∃ i : Nat, k = 4 - i ∧ i ≤ 4 ∧ (∀ a (ha : a < 4), a < i → rowOk j ⟨a, ha⟩) ∧ sl = sls [(1, .c (.pt 0 0)), (20, .agg (flc j.2.2.1)), (21, cI i)] ∧ H = [⟨jnc j, 72, true⟩]) ?_ ?_
  · refine ⟨_, _, _, ?_, 0, rfl, Nat.zero_le _, fun a ha h => by omega, rfl, rfl⟩
    exact turn [some 0] rfl rfl rfl ⟨⟨_, rfl, .stay (fun c hc => stays_fz (fz_sc (List.all_eq_true.1 (jnc_sc j) c hc)))⟩, trivial⟩ ⟨tr_pt rfl, tr_agg (.cons tr_f (.cons tr_f (.cons tr_f (.cons tr_f (.cons tr_f (.cons tr_f (.cons tr_f (.cons tr_f (.cons tr_f (.cons tr_f (.cons tr_f (.cons tr_f (.cons tr_f (.cons tr_f (.cons tr_f (.cons tr_f .nil)))))))))))))))), tr_v, trivial⟩
  rintro k sl H ⟨i, rfl, hi, hp, rfl, rfl⟩
  refine w_seq ?_
  refine w_reg rfl ?_
  refine v_lss lay3 rfl rfl (fun h3 => ?_) (fun h3 => ?_)
  rotate_left
  · have hall : ∀ i : Fin 4, rowOk j i := fun i => hp i.val i.isLt (by omega)
    refine v_nil ?_
    refine q_n ?_
    refine w_seq ?_
    refine w_f rfl ?_
    refine w_exit ?_
    refine q_e ?_
    refine q_e ?_
    refine q_hit ?_
    refine q_n ?_
    refine w_seq ?_
    refine w_reg rfl ?_
    refine v_assign (c := .v (.bool true)) rfl ?_
    refine v_nil ?_
    refine q_n ?_
    refine w_ret ?_
    refine r_r rfl ?_
    exact a_b (by simp only [true_iff]; exact ⟨h1, h2, hall⟩)
  have hi1 : i < 4 := by omega
  refine v_nil ?_
  refine q_n ?_
  refine w_seq ?_
  refine w_t rfl ?_
  refine w_skip ?_
  refine q_n ?_
  refine w_seq ?_
  refine w_block ?_
  refine w_seq ?_
  refine w_reg rfl ?_
  refine v_move rfl ?_
  refine v_index_e i (.agg (foc (j.2.2.1 ⟨i, hi1⟩))) lay69 lay67 rfl rfl rfl hi1 (by show i * 4 + 4 ≤ 16; omega) (flc_x _ hi1) ?_
  refine v_alloc (m := 1) (H' := [_, ⟨[.f _ _, .f _ _, .f _ _, .f _ _], 67, true⟩]) lay67 rfl rfl ?_
  refine v_assign rfl ?_
  refine v_store (H' := [_, ⟨[_, _, _, _], 67, true⟩]) lay67 rfl rfl rfl rfl rfl rfl ?_
  refine v_nil ?_
  refine q_n ?_
  refine w_seq ?_
  refine w_reg rfl ?_
  refine v_move rfl ?_
  refine v_fa_pt (off' := 0) lay72 rfl rfl rfl ?_
  refine v_load_pt (.c _) lay2 rfl rfl rfl rfl ?_
  refine v_lss lay2 rfl rfl (fun h4 => ?_) (fun h4 => ?_)
  · refine v_assign rfl ?_
    refine v_nil ?_
    refine q_n ?_
    refine w_seq ?_
    refine w_seq ?_
    refine w_reg rfl ?_
    refine v_load_pt (.agg [_, _, _, _]) lay67 rfl rfl rfl rfl ?_
    refine v_move (c := .v (.int .i64 0)) rfl ?_
    refine v_nil ?_
    refine q_n ?_
    refine w_block ?_
    refine w_loop (fun k sl H => ∃ (n : Nat) (acc : Bool), k = 4 - n ∧ n ≤ 4 ∧ (acc = true → (i : Int) < j.1) ∧ (acc = false → ¬ (i : Int) < j.1) ∧ (∀ b (hb : b < 4), b < n → cellOk j i b (j.2.2.1 ⟨i, hi1⟩ ⟨b, hb⟩)) ∧ sl = sls [(1, .c (.pt 0 0)), (20, .agg (flc j.2.2.1)), (21, cI i), (3, cI i), (4, .c (.pt 1 0)), (5, cB acc), (29, .agg (foc (j.2.2.1 ⟨i, hi1⟩))), (30, cI n)] ∧ H = [⟨jnc j, 72, true⟩, ⟨foc (j.2.2.1 ⟨i, hi1⟩), 67, true⟩]) ?_ ?_
    · refine ⟨_, _, _, ?_, 0, true, rfl, Nat.zero_le _, (fun _ => by omega), (fun h => by cases h), fun b hb h => by omega, rfl, rfl⟩
      exact turn [some 0, some 1] rfl rfl rfl ⟨⟨_, rfl, .stay (fun c hc => stays_fz (fz_sc (List.all_eq_true.1 (jnc_sc j) c hc)))⟩, ⟨_, rfl, .stay (fun c hc => stays_fz (fz_sc (List.all_eq_true.1 (foc_sc _) c hc)))⟩, trivial⟩ ⟨tr_pt rfl, tr_agg (.cons tr_f (.cons tr_f (.cons tr_f (.cons tr_f (.cons tr_f (.cons tr_f (.cons tr_f (.cons tr_f (.cons tr_f (.cons tr_f (.cons tr_f (.cons tr_f (.cons tr_f (.cons tr_f (.cons tr_f (.cons tr_f .nil)))))))))))))))), tr_v, tr_v, tr_pt rfl, tr_v, tr_agg (.cons tr_f (.cons tr_f (.cons tr_f (.cons tr_f .nil)))), tr_v, trivial⟩
    rintro k sl H ⟨n, acc, rfl, hn, hA, hB, hpn, rfl, rfl⟩
    rcases acc with _ | _
    · skip
      refine w_seq ?_
      refine w_reg rfl ?_
      refine v_lss lay3 rfl rfl (fun h5 => ?_) (fun h5 => ?_)
      rotate_left
      · have hBi := hB rfl
        obtain rfl : n = 4 := by omega
        have hrow : ∀ b : Fin 4, cellOk j i b.val (j.2.2.1 ⟨i, hi1⟩ b) := fun b => hpn b.val b.isLt b.isLt
        obtain ⟨rs, ers, hrs⟩ := psm_rung (g := (j.2.2.1 ⟨i, hi1⟩)) (fun k hk => hj.1 i hi1 k hk) (fun k hk => (hrow ⟨k, hk⟩).1)
        rw [← sumL_row] at ers
        refine v_nil ?_
        refine q_n ?_
        refine w_seq ?_
        refine w_f rfl ?_
        refine w_exit ?_
        refine q_e ?_
        refine q_e ?_
        refine q_hit ?_
        refine q_n ?_
        refine w_seq ?_
        refine w_reg rfl ?_
        refine v_slice_arr (k := 1) lay67 lay26 rfl rfl rfl rfl (by decide) (Nat.le_of_ble_eq_true rfl) ?_
        refine v_call (cSum (l4 (j.2.2.1 ⟨i, hi1⟩)) (Nat.le_of_ble_eq_true rfl) (Nat.le_of_ble_eq_true rfl)) rfl rfl rfl (.cons (vw_part (xs := l4 (j.2.2.1 ⟨i, hi1⟩)) fe_sc rfl rfl rfl (Nat.le_of_ble_eq_true rfl)) .nil) ?_
        refine v_assign rfl ?_
        refine v_nil ?_
        refine q_n ?_
        refine w_seq ?_
        refine w_reg rfl ?_
        refine v_move rfl ?_
        refine v_move rfl ?_
        refine v_guard_off rfl rfl rfl ?_
        refine v_guard_off rfl rfl rfl ?_
        refine v_guard_off rfl rfl rfl ?_
        refine v_guard_un rfl rfl ?_
        refine v_guard_un rfl rfl ?_
        refine v_guard_off rfl rfl rfl ?_
        refine v_guard_off rfl rfl rfl ?_
        refine v_guard_un rfl rfl ?_
        refine v_guard_un rfl rfl ?_
        refine v_guard_un rfl rfl ?_
        refine v_guard_un rfl rfl ?_
        refine v_guard_un rfl rfl ?_
        refine v_guard_un rfl rfl ?_
        refine v_guard_off rfl rfl rfl ?_
        refine v_pick_f (v := .v (.bool false)) rfl rfl ?_
        refine v_move rfl ?_
        refine v_guard_on rfl rfl ?_
        refine v_move rfl ?_
        refine v_guard_on rfl rfl ?_
        refine v_not true rfl rfl ?_
        refine v_guard_on rfl rfl ?_
        refine v_move rfl ?_
        refine v_guard_on rfl rfl ?_
        refine v_move rfl ?_
        refine v_guard_on rfl rfl ?_
        refine v_fa_pt (off' := 18) lay72 rfl rfl rfl ?_
        refine v_guard_on rfl rfl ?_
        refine v_idx_arr_e (k := 1) (i) lay70 lay26 rfl rfl rfl (rfl) (hi1) ?_
        refine v_guard_on rfl rfl ?_
        refine v_load_pt (.c (.f .f32 (j.2.2.2 ⟨i, hi1⟩))) lay26 rfl rfl (Nat.ble_eq_true_of_le (by show 18 + i * 1 + 1 ≤ 22; omega)) (jp_pt j hi1) ?_
        refine v_guard_on rfl rfl ?_
        refine v_callb (cNoI _ (hj.2 i hi1)) rfl rfl (.cons vw_f .nil) (fun h8 => ?_) (fun h8 => ?_)
        rotate_left
        · have hnl := h8
          refine v_guard_on rfl rfl ?_
          refine v_not true rfl rfl ?_
          refine v_guard_on rfl rfl ?_
          refine v_pick_t rfl rfl ?_
          refine v_pick_f rfl rfl ?_
          refine v_nil ?_
          refine q_n ?_
          refine w_t rfl ?_
          refine w_seq ?_
          refine w_reg rfl ?_
          refine v_assign (c := .v (.bool false)) rfl ?_
          refine v_nil ?_
          refine q_n ?_
          refine w_ret (q_br (q_r (q_r (q_br (q_r ?_)))))
          refine r_r rfl ?_
          exact a_b (by simp only [Bool.false_eq_true, false_iff]; exact jn_nil (hi := hi1) (by omega) hnl)
        have hnl := h8
        refine v_guard_on rfl rfl ?_
        refine v_not false rfl rfl ?_
        refine v_guard_on rfl rfl ?_
        refine v_pick_t rfl rfl ?_
        refine v_pick_f rfl rfl ?_
        refine v_nil ?_
        refine q_n ?_
        refine w_f rfl ?_
        refine w_skip ?_
        refine q_bn ?_
        refine q_n ?_
        refine w_reg rfl ?_
        refine v_add lay3 rfl rfl (i64r (by omega)) ?_
        refine v_move rfl ?_
        refine v_nil ?_
        refine q_n ?_
        refine ⟨_, _, _, ?_, ⟨i + 1, rfl, by omega, fun a ha h => ?_, rfl, rfl⟩, by omega⟩
        · exact turn [some 0] rfl rfl rfl ⟨⟨_, rfl, .stay (fun c hc => stays_fz (fz_sc (List.all_eq_true.1 (jnc_sc j) c hc)))⟩, trivial⟩ ⟨tr_pt rfl, tr_agg (.cons tr_f (.cons tr_f (.cons tr_f (.cons tr_f (.cons tr_f (.cons tr_f (.cons tr_f (.cons tr_f (.cons tr_f (.cons tr_f (.cons tr_f (.cons tr_f (.cons tr_f (.cons tr_f (.cons tr_f (.cons tr_f .nil)))))))))))))))), tr_v, trivial⟩
        · rcases Nat.lt_or_eq_of_le (Nat.le_of_lt_succ h) with h | rfl
          · exact hp a ha h
          · exact row_nil hrow (by omega) hnl
      have hn1 : n < 4 := by omega
      have hBi := hB rfl
      refine v_nil ?_
      refine q_n ?_
      refine w_seq ?_
      refine w_t rfl ?_
      refine w_skip ?_
      refine q_n ?_
      refine w_seq ?_
      refine w_block ?_
      refine w_seq ?_
      refine w_reg rfl ?_
      refine v_move rfl ?_
      refine v_index_e n (.c (.f .f32 (j.2.2.1 ⟨i, hi1⟩ ⟨n, hn1⟩))) lay67 lay26 rfl rfl rfl hn1 (by show n * 1 + 1 ≤ 4; omega) (foc_x _ hn1) ?_
      refine v_assign rfl ?_
      refine v_assign rfl ?_
      refine v_nil ?_
      refine q_n ?_
      refine w_seq ?_
      refine w_reg rfl ?_
      refine v_move rfl ?_
      refine v_callb (cShI _ (hj.1 i hi1 n hn1)) rfl rfl (.cons vw_f .nil) (fun h6 => ?_) (fun h6 => ?_)
      rotate_left
      · have hsh := h6
        refine v_not true rfl rfl ?_
        refine v_move rfl ?_
        refine v_guard_off rfl rfl rfl ?_
        refine v_guard_off rfl rfl rfl ?_
        refine v_guard_off rfl rfl rfl ?_
        refine v_guard_un rfl rfl ?_
        refine v_guard_un rfl rfl ?_
        refine v_guard_un rfl rfl ?_
        refine v_guard_un rfl rfl ?_
        refine v_guard_off rfl rfl rfl ?_
        refine v_guard_off rfl rfl rfl ?_
        refine v_guard_un rfl rfl ?_
        refine v_guard_un rfl rfl ?_
        refine v_guard_off rfl rfl rfl ?_
        refine v_pick_t (v := .v (.bool true)) rfl rfl ?_
        refine v_nil ?_
        refine q_n ?_
        refine w_t rfl ?_
        refine w_seq ?_
        refine w_reg rfl ?_
        refine v_assign (c := .v (.bool false)) rfl ?_
        refine v_nil ?_
        refine q_n ?_
        refine w_ret (q_br (q_r (q_r (q_br (q_r (q_br (q_r (q_r (q_br (q_r ?_))))))))))
        refine r_r rfl ?_
        exact a_b (by simp only [Bool.false_eq_true, false_iff]; exact jn_cell (n := n) (hi := hi1) (hn := hn1) fun hc => hsh hc.1)
      have hsh := h6
      refine v_not false rfl rfl ?_
      refine v_move rfl ?_
      refine v_guard_on rfl rfl ?_
      refine v_move rfl ?_
      refine v_guard_on rfl rfl ?_
      refine v_not true rfl rfl ?_
      refine v_guard_on rfl rfl ?_
      refine v_move rfl ?_
      refine v_guard_off rfl rfl rfl ?_
      refine v_guard_off rfl rfl rfl ?_
      refine v_guard_off rfl rfl rfl ?_
      refine v_guard_off rfl rfl rfl ?_
      refine v_guard_on rfl rfl ?_
      refine v_pick_t (v := .v (.bool true)) rfl rfl ?_
      refine v_guard_on rfl rfl ?_
      refine v_move rfl ?_
      refine v_guard_on rfl rfl ?_
      refine v_move rfl ?_
      refine v_guard_on rfl rfl ?_
      refine v_binb lay26 rfl rfl rfl (fun h7 => ?_) (fun h7 => ?_)
      · have hne : ¬ feq (j.2.2.1 ⟨i, hi1⟩ ⟨n, hn1⟩) := ne_t h7
        refine v_guard_on rfl rfl ?_
        refine v_pick_t rfl rfl ?_
        refine v_pick_f rfl rfl ?_
        refine v_nil ?_
        refine q_n ?_
        refine w_t rfl ?_
        refine w_seq ?_
        refine w_reg rfl ?_
        refine v_assign (c := .v (.bool false)) rfl ?_
        refine v_nil ?_
        refine q_n ?_
        refine w_ret (q_br (q_r (q_r (q_br (q_r (q_br (q_r (q_r (q_br (q_r ?_))))))))))
        refine r_r rfl ?_
        exact a_b (by simp only [Bool.false_eq_true, false_iff]; exact jn_cell (n := n) (hi := hi1) (hn := hn1) fun hc => hne (hc.2 (.inl (by omega))))
      have hne : feq (j.2.2.1 ⟨i, hi1⟩ ⟨n, hn1⟩) := ne_f h7
      refine v_guard_on rfl rfl ?_
      refine v_pick_t rfl rfl ?_
      refine v_pick_f rfl rfl ?_
      refine v_nil ?_
      refine q_n ?_
      refine w_f rfl ?_
      refine w_skip ?_
      refine q_bn ?_
      refine q_n ?_
      refine w_reg rfl ?_
      refine v_add lay3 rfl rfl (i64r (by omega)) ?_
      refine v_move rfl ?_
      refine v_nil ?_
      refine q_n ?_
      have hcell : cellOk j i n (j.2.2.1 ⟨i, hi1⟩ ⟨n, hn1⟩) := ⟨hsh, fun hor => by first | exact hne | (exfalso; omega)⟩
      refine ⟨_, _, _, ?_, ⟨n + 1, false, rfl, by omega, hA, hB, fun b hb h => ?_, rfl, rfl⟩, by omega⟩
      · exact turn [some 0, some 1] rfl rfl rfl ⟨⟨_, rfl, .stay (fun c hc => stays_fz (fz_sc (List.all_eq_true.1 (jnc_sc j) c hc)))⟩, ⟨_, rfl, .stay (fun c hc => stays_fz (fz_sc (List.all_eq_true.1 (foc_sc _) c hc)))⟩, trivial⟩ ⟨tr_pt rfl, tr_agg (.cons tr_f (.cons tr_f (.cons tr_f (.cons tr_f (.cons tr_f (.cons tr_f (.cons tr_f (.cons tr_f (.cons tr_f (.cons tr_f (.cons tr_f (.cons tr_f (.cons tr_f (.cons tr_f (.cons tr_f (.cons tr_f .nil)))))))))))))))), tr_v, tr_v, tr_pt rfl, tr_v, tr_agg (.cons tr_f (.cons tr_f (.cons tr_f (.cons tr_f .nil)))), tr_v, trivial⟩
      · rcases Nat.lt_or_eq_of_le (Nat.le_of_lt_succ h) with h | rfl
        · exact hpn b hb h
        · exact hcell
    · skip
      refine w_seq ?_
      refine w_reg rfl ?_
      refine v_lss lay3 rfl rfl (fun h9 => ?_) (fun h9 => ?_)
      · have hn1 : n < 4 := by omega
        have hAi := hA rfl
        refine v_nil ?_
        refine q_n ?_
        refine w_seq ?_
        refine w_t rfl ?_
        refine w_skip ?_
        refine q_n ?_
        refine w_seq ?_
        refine w_block ?_
        refine w_seq ?_
        refine w_reg rfl ?_
        refine v_move rfl ?_
        refine v_index_e n (.c (.f .f32 (j.2.2.1 ⟨i, hi1⟩ ⟨n, hn1⟩))) lay67 lay26 rfl rfl rfl hn1 (by show n * 1 + 1 ≤ 4; omega) (foc_x _ hn1) ?_
        refine v_assign rfl ?_
        refine v_assign rfl ?_
        refine v_nil ?_
        refine q_n ?_
        refine w_seq ?_
        refine w_reg rfl ?_
        refine v_move rfl ?_
        refine v_callb (cShI _ (hj.1 i hi1 n hn1)) rfl rfl (.cons vw_f .nil) (fun h10 => ?_) (fun h10 => ?_)
        rotate_left
        · have hsh := h10
          refine v_not true rfl rfl ?_
          refine v_move rfl ?_
          refine v_guard_off rfl rfl rfl ?_
          refine v_guard_off rfl rfl rfl ?_
          refine v_guard_off rfl rfl rfl ?_
          refine v_guard_un rfl rfl ?_
          refine v_guard_un rfl rfl ?_
          refine v_guard_un rfl rfl ?_
          refine v_guard_un rfl rfl ?_
          refine v_guard_off rfl rfl rfl ?_
          refine v_guard_off rfl rfl rfl ?_
          refine v_guard_un rfl rfl ?_
          refine v_guard_un rfl rfl ?_
          refine v_guard_off rfl rfl rfl ?_
          refine v_pick_t (v := .v (.bool true)) rfl rfl ?_
          refine v_nil ?_
          refine q_n ?_
          refine w_t rfl ?_
          refine w_seq ?_
          refine w_reg rfl ?_
          refine v_assign (c := .v (.bool false)) rfl ?_
          refine v_nil ?_
          refine q_n ?_
          refine w_ret (q_br (q_r (q_r (q_br (q_r (q_br (q_r (q_r (q_br (q_r ?_))))))))))
          refine r_r rfl ?_
          exact a_b (by simp only [Bool.false_eq_true, false_iff]; exact jn_cell (n := n) (hi := hi1) (hn := hn1) fun hc => hsh hc.1)
        have hsh := h10
        refine v_not false rfl rfl ?_
        refine v_move rfl ?_
        refine v_guard_on rfl rfl ?_
        refine v_move rfl ?_
        refine v_guard_on rfl rfl ?_
        refine v_not false rfl rfl ?_
        refine v_guard_on rfl rfl ?_
        refine v_move rfl ?_
        refine v_guard_on rfl rfl ?_
        refine v_move rfl ?_
        refine v_guard_on rfl rfl ?_
        refine v_fa_pt (off' := 1) lay72 rfl rfl rfl ?_
        refine v_guard_on rfl rfl ?_
        refine v_load_pt (.c _) lay2 rfl rfl rfl rfl ?_
        refine v_guard_on rfl rfl ?_
        refine v_geq lay2 rfl rfl (fun h11 => ?_) (fun h11 => ?_)
        rotate_left
        · have hge := h11
          refine v_guard_on rfl rfl ?_
          refine v_pick_f rfl rfl ?_
          refine v_guard_on rfl rfl ?_
          refine v_move rfl ?_
          refine v_guard_off rfl rfl rfl ?_
          refine v_guard_off rfl rfl rfl ?_
          refine v_guard_on rfl rfl ?_
          refine v_pick_f (v := .v (.bool false)) rfl rfl ?_
          refine v_pick_f rfl rfl ?_
          refine v_nil ?_
          refine q_n ?_
          refine w_f rfl ?_
          refine w_skip ?_
          refine q_bn ?_
          refine q_n ?_
          refine w_reg rfl ?_
          refine v_add lay3 rfl rfl (i64r (by omega)) ?_
          refine v_move rfl ?_
          refine v_nil ?_
          refine q_n ?_
          have hcell : cellOk j i n (j.2.2.1 ⟨i, hi1⟩ ⟨n, hn1⟩) := ⟨hsh, fun hor => by first | exact hne | (exfalso; omega)⟩
          refine ⟨_, _, _, ?_, ⟨n + 1, true, rfl, by omega, hA, hB, fun b hb h => ?_, rfl, rfl⟩, by omega⟩
          · exact turn [some 0, some 1] rfl rfl rfl ⟨⟨_, rfl, .stay (fun c hc => stays_fz (fz_sc (List.all_eq_true.1 (jnc_sc j) c hc)))⟩, ⟨_, rfl, .stay (fun c hc => stays_fz (fz_sc (List.all_eq_true.1 (foc_sc _) c hc)))⟩, trivial⟩ ⟨tr_pt rfl, tr_agg (.cons tr_f (.cons tr_f (.cons tr_f (.cons tr_f (.cons tr_f (.cons tr_f (.cons tr_f (.cons tr_f (.cons tr_f (.cons tr_f (.cons tr_f (.cons tr_f (.cons tr_f (.cons tr_f (.cons tr_f (.cons tr_f .nil)))))))))))))))), tr_v, tr_v, tr_pt rfl, tr_v, tr_agg (.cons tr_f (.cons tr_f (.cons tr_f (.cons tr_f .nil)))), tr_v, trivial⟩
          · rcases Nat.lt_or_eq_of_le (Nat.le_of_lt_succ h) with h | rfl
            · exact hpn b hb h
            · exact hcell
        have hge := h11
        refine v_guard_on rfl rfl ?_
        refine v_pick_f rfl rfl ?_
        refine v_guard_on rfl rfl ?_
        refine v_move rfl ?_
        refine v_guard_on rfl rfl ?_
        refine v_move rfl ?_
        refine v_guard_on rfl rfl ?_
        refine v_binb lay26 rfl rfl rfl (fun h12 => ?_) (fun h12 => ?_)
        · have hne : ¬ feq (j.2.2.1 ⟨i, hi1⟩ ⟨n, hn1⟩) := ne_t h12
          refine v_guard_on rfl rfl ?_
          refine v_pick_t rfl rfl ?_
          refine v_pick_f rfl rfl ?_
          refine v_nil ?_
          refine q_n ?_
          refine w_t rfl ?_
          refine w_seq ?_
          refine w_reg rfl ?_
          refine v_assign (c := .v (.bool false)) rfl ?_
          refine v_nil ?_
          refine q_n ?_
          refine w_ret (q_br (q_r (q_r (q_br (q_r (q_br (q_r (q_r (q_br (q_r ?_))))))))))
          refine r_r rfl ?_
          exact a_b (by simp only [Bool.false_eq_true, false_iff]; exact jn_cell (n := n) (hi := hi1) (hn := hn1) fun hc => hne (hc.2 (.inr (by omega))))
        have hne : feq (j.2.2.1 ⟨i, hi1⟩ ⟨n, hn1⟩) := ne_f h12
        refine v_guard_on rfl rfl ?_
        refine v_pick_t rfl rfl ?_
        refine v_pick_f rfl rfl ?_
        refine v_nil ?_
        refine q_n ?_
        refine w_f rfl ?_
        refine w_skip ?_
        refine q_bn ?_
        refine q_n ?_
        refine w_reg rfl ?_
        refine v_add lay3 rfl rfl (i64r (by omega)) ?_
        refine v_move rfl ?_
        refine v_nil ?_
        refine q_n ?_
        have hcell : cellOk j i n (j.2.2.1 ⟨i, hi1⟩ ⟨n, hn1⟩) := ⟨hsh, fun hor => by first | exact hne | (exfalso; omega)⟩
        refine ⟨_, _, _, ?_, ⟨n + 1, true, rfl, by omega, hA, hB, fun b hb h => ?_, rfl, rfl⟩, by omega⟩
        · exact turn [some 0, some 1] rfl rfl rfl ⟨⟨_, rfl, .stay (fun c hc => stays_fz (fz_sc (List.all_eq_true.1 (jnc_sc j) c hc)))⟩, ⟨_, rfl, .stay (fun c hc => stays_fz (fz_sc (List.all_eq_true.1 (foc_sc _) c hc)))⟩, trivial⟩ ⟨tr_pt rfl, tr_agg (.cons tr_f (.cons tr_f (.cons tr_f (.cons tr_f (.cons tr_f (.cons tr_f (.cons tr_f (.cons tr_f (.cons tr_f (.cons tr_f (.cons tr_f (.cons tr_f (.cons tr_f (.cons tr_f (.cons tr_f (.cons tr_f .nil)))))))))))))))), tr_v, tr_v, tr_pt rfl, tr_v, tr_agg (.cons tr_f (.cons tr_f (.cons tr_f (.cons tr_f .nil)))), tr_v, trivial⟩
        · rcases Nat.lt_or_eq_of_le (Nat.le_of_lt_succ h) with h | rfl
          · exact hpn b hb h
          · exact hcell
      have hAi := hA rfl
      obtain rfl : n = 4 := by omega
      have hrow : ∀ b : Fin 4, cellOk j i b.val (j.2.2.1 ⟨i, hi1⟩ b) := fun b => hpn b.val b.isLt b.isLt
      obtain ⟨rs, ers, hrs⟩ := psm_rung (g := (j.2.2.1 ⟨i, hi1⟩)) (fun k hk => hj.1 i hi1 k hk) (fun k hk => (hrow ⟨k, hk⟩).1)
      rw [← sumL_row] at ers
      refine v_nil ?_
      refine q_n ?_
      refine w_seq ?_
      refine w_f rfl ?_
      refine w_exit ?_
      refine q_e ?_
      refine q_e ?_
      refine q_hit ?_
      refine q_n ?_
      refine w_seq ?_
      refine w_reg rfl ?_
      refine v_slice_arr (k := 1) lay67 lay26 rfl rfl rfl rfl (by decide) (Nat.le_of_ble_eq_true rfl) ?_
      refine v_call (cSum (l4 (j.2.2.1 ⟨i, hi1⟩)) (Nat.le_of_ble_eq_true rfl) (Nat.le_of_ble_eq_true rfl)) rfl rfl rfl (.cons (vw_part (xs := l4 (j.2.2.1 ⟨i, hi1⟩)) fe_sc rfl rfl rfl (Nat.le_of_ble_eq_true rfl)) .nil) ?_
      refine v_assign rfl ?_
      refine v_nil ?_
      refine q_n ?_
      refine w_seq ?_
      refine w_reg rfl ?_
      refine v_move rfl ?_
      refine v_move rfl ?_
      refine v_guard_on rfl rfl ?_
      refine v_move rfl ?_
      refine v_guard_on rfl rfl ?_
      refine v_binb lay26 rfl rfl rfl (fun h13 => ?_) (fun h13 => ?_)
      · have hlo : flt (sumL (l4 (j.2.2.1 ⟨i, hi1⟩))) 1065336439 := h13
        refine v_guard_on rfl rfl ?_
        refine v_move rfl ?_
        refine v_guard_off rfl rfl rfl ?_
        refine v_guard_off rfl rfl rfl ?_
        refine v_guard_on rfl rfl ?_
        refine v_pick_t (v := .v (.bool true)) rfl rfl ?_
        refine v_guard_on rfl rfl ?_
        refine v_move rfl ?_
        refine v_guard_off rfl rfl rfl ?_
        refine v_guard_off rfl rfl rfl ?_
        refine v_guard_off rfl rfl rfl ?_
        refine v_guard_off rfl rfl rfl ?_
        refine v_guard_off rfl rfl rfl ?_
        refine v_guard_off rfl rfl rfl ?_
        refine v_guard_on rfl rfl ?_
        refine v_pick_t (v := .v (.bool true)) rfl rfl ?_
        refine v_pick_t rfl rfl ?_
        refine v_move rfl ?_
        refine v_guard_off rfl rfl rfl ?_
        refine v_guard_off rfl rfl rfl ?_
        refine v_guard_off rfl rfl rfl ?_
        refine v_guard_un rfl rfl ?_
        refine v_guard_un rfl rfl ?_
        refine v_guard_un rfl rfl ?_
        refine v_guard_un rfl rfl ?_
        refine v_guard_un rfl rfl ?_
        refine v_guard_un rfl rfl ?_
        refine v_guard_off rfl rfl rfl ?_
        refine v_pick_t (v := .v (.bool true)) rfl rfl ?_
        refine v_nil ?_
        refine q_n ?_
        refine w_t rfl ?_
        refine w_seq ?_
        refine w_reg rfl ?_
        refine v_assign (c := .v (.bool false)) rfl ?_
        refine v_nil ?_
        refine q_n ?_
        refine w_ret (q_br (q_r (q_r (q_br (q_r ?_)))))
        refine r_r rfl ?_
        exact a_b (by simp only [Bool.false_eq_true, false_iff]; exact jn_in (hi := hi1) (by omega) fun h => flt_not hlo h.1.1)
      have hlo : ¬ flt (sumL (l4 (j.2.2.1 ⟨i, hi1⟩))) 1065336439 := fun h => absurd (h13.symm.trans h) (by decide)
      refine v_guard_on rfl rfl ?_
      refine v_move rfl ?_
      refine v_guard_on rfl rfl ?_
      refine v_move rfl ?_
      refine v_guard_on rfl rfl ?_
      refine v_binb lay26 rfl rfl rfl (fun h14 => ?_) (fun h14 => ?_)
      · have hhi : fgt (sumL (l4 (j.2.2.1 ⟨i, hi1⟩))) 1065361605 := h14
        refine v_guard_on rfl rfl ?_
        refine v_pick_f rfl rfl ?_
        refine v_guard_on rfl rfl ?_
        refine v_move rfl ?_
        refine v_guard_off rfl rfl rfl ?_
        refine v_guard_off rfl rfl rfl ?_
        refine v_guard_off rfl rfl rfl ?_
        refine v_guard_off rfl rfl rfl ?_
        refine v_guard_off rfl rfl rfl ?_
        refine v_guard_off rfl rfl rfl ?_
        refine v_guard_on rfl rfl ?_
        refine v_pick_t (v := .v (.bool true)) rfl rfl ?_
        refine v_pick_t rfl rfl ?_
        refine v_move rfl ?_
        refine v_guard_off rfl rfl rfl ?_
        refine v_guard_off rfl rfl rfl ?_
        refine v_guard_off rfl rfl rfl ?_
        refine v_guard_un rfl rfl ?_
        refine v_guard_un rfl rfl ?_
        refine v_guard_un rfl rfl ?_
        refine v_guard_un rfl rfl ?_
        refine v_guard_un rfl rfl ?_
        refine v_guard_un rfl rfl ?_
        refine v_guard_off rfl rfl rfl ?_
        refine v_pick_t (v := .v (.bool true)) rfl rfl ?_
        refine v_nil ?_
        refine q_n ?_
        refine w_t rfl ?_
        refine w_seq ?_
        refine w_reg rfl ?_
        refine v_assign (c := .v (.bool false)) rfl ?_
        refine v_nil ?_
        refine q_n ?_
        refine w_ret (q_br (q_r (q_r (q_br (q_r ?_)))))
        refine r_r rfl ?_
        exact a_b (by simp only [Bool.false_eq_true, false_iff]; exact jn_in (hi := hi1) (by omega) fun h => fgt_not hhi h.1.2)
      have hhi : ¬ fgt (sumL (l4 (j.2.2.1 ⟨i, hi1⟩))) 1065361605 := fun h => absurd (h14.symm.trans h) (by decide)
      refine v_guard_on rfl rfl ?_
      refine v_pick_f rfl rfl ?_
      refine v_guard_on rfl rfl ?_
      refine v_move rfl ?_
      refine v_guard_on rfl rfl ?_
      refine v_move rfl ?_
      refine v_guard_on rfl rfl ?_
      refine v_fa_pt (off' := 18) lay72 rfl rfl rfl ?_
      refine v_guard_on rfl rfl ?_
      refine v_idx_arr_e (k := 1) (i) lay70 lay26 rfl rfl rfl (rfl) (hi1) ?_
      refine v_guard_on rfl rfl ?_
      refine v_load_pt (.c (.f .f32 (j.2.2.2 ⟨i, hi1⟩))) lay26 rfl rfl (Nat.ble_eq_true_of_le (by show 18 + i * 1 + 1 ≤ 22; omega)) (jp_pt j hi1) ?_
      refine v_guard_on rfl rfl ?_
      refine v_callb (cPrI _ (hj.2 i hi1)) rfl rfl (.cons vw_f .nil) (fun h15 => ?_) (fun h15 => ?_)
      rotate_left
      · have hpr := h15
        refine v_guard_on rfl rfl ?_
        refine v_not true rfl rfl ?_
        refine v_guard_on rfl rfl ?_
        refine v_pick_f rfl rfl ?_
        refine v_pick_t rfl rfl ?_
        refine v_move rfl ?_
        refine v_guard_off rfl rfl rfl ?_
        refine v_guard_off rfl rfl rfl ?_
        refine v_guard_off rfl rfl rfl ?_
        refine v_guard_un rfl rfl ?_
        refine v_guard_un rfl rfl ?_
        refine v_guard_un rfl rfl ?_
        refine v_guard_un rfl rfl ?_
        refine v_guard_un rfl rfl ?_
        refine v_guard_un rfl rfl ?_
        refine v_guard_off rfl rfl rfl ?_
        refine v_pick_t (v := .v (.bool true)) rfl rfl ?_
        refine v_nil ?_
        refine q_n ?_
        refine w_t rfl ?_
        refine w_seq ?_
        refine w_reg rfl ?_
        refine v_assign (c := .v (.bool false)) rfl ?_
        refine v_nil ?_
        refine q_n ?_
        refine w_ret (q_br (q_r (q_r (q_br (q_r ?_)))))
        refine r_r rfl ?_
        exact a_b (by simp only [Bool.false_eq_true, false_iff]; exact jn_in (hi := hi1) (by omega) fun h => hpr h.2)
      have hpr := h15
      refine v_guard_on rfl rfl ?_
      refine v_not false rfl rfl ?_
      refine v_guard_on rfl rfl ?_
      refine v_pick_f rfl rfl ?_
      refine v_pick_t rfl rfl ?_
      refine v_move rfl ?_
      refine v_guard_on rfl rfl ?_
      refine v_move rfl ?_
      refine v_guard_on rfl rfl ?_
      refine v_not false rfl rfl ?_
      refine v_guard_on rfl rfl ?_
      refine v_move rfl ?_
      refine v_guard_off rfl rfl rfl ?_
      refine v_guard_off rfl rfl rfl ?_
      refine v_guard_off rfl rfl rfl ?_
      refine v_guard_off rfl rfl rfl ?_
      refine v_guard_off rfl rfl rfl ?_
      refine v_guard_off rfl rfl rfl ?_
      refine v_guard_on rfl rfl ?_
      refine v_pick_f (v := .v (.bool false)) rfl rfl ?_
      refine v_pick_f rfl rfl ?_
      refine v_nil ?_
      refine q_n ?_
      refine w_f rfl ?_
      refine w_skip ?_
      refine q_bn ?_
      refine q_n ?_
      refine w_reg rfl ?_
      refine v_add lay3 rfl rfl (i64r (by omega)) ?_
      refine v_move rfl ?_
      refine v_nil ?_
      refine q_n ?_
      refine ⟨_, _, _, ?_, ⟨i + 1, rfl, by omega, fun a ha h => ?_, rfl, rfl⟩, by omega⟩
      · exact turn [some 0] rfl rfl rfl ⟨⟨_, rfl, .stay (fun c hc => stays_fz (fz_sc (List.all_eq_true.1 (jnc_sc j) c hc)))⟩, trivial⟩ ⟨tr_pt rfl, tr_agg (.cons tr_f (.cons tr_f (.cons tr_f (.cons tr_f (.cons tr_f (.cons tr_f (.cons tr_f (.cons tr_f (.cons tr_f (.cons tr_f (.cons tr_f (.cons tr_f (.cons tr_f (.cons tr_f (.cons tr_f (.cons tr_f .nil)))))))))))))))), tr_v, trivial⟩
      · rcases Nat.lt_or_eq_of_le (Nat.le_of_lt_succ h) with h | rfl
        · exact hp a ha h
        · exact row_in hrow (by omega) (sum_ok ers hrs hlo hhi) hpr
  refine v_assign rfl ?_
  refine v_nil ?_
  refine q_n ?_
  refine w_seq ?_
  refine w_seq ?_
  refine w_reg rfl ?_
  refine v_load_pt (.agg [_, _, _, _]) lay67 rfl rfl rfl rfl ?_
  refine v_move (c := .v (.int .i64 0)) rfl ?_
  refine v_nil ?_
  refine q_n ?_
  refine w_block ?_
  refine w_loop (fun k sl H => ∃ (n : Nat) (acc : Bool), k = 4 - n ∧ n ≤ 4 ∧ (acc = true → (i : Int) < j.1) ∧ (acc = false → ¬ (i : Int) < j.1) ∧ (∀ b (hb : b < 4), b < n → cellOk j i b (j.2.2.1 ⟨i, hi1⟩ ⟨b, hb⟩)) ∧ sl = sls [(1, .c (.pt 0 0)), (20, .agg (flc j.2.2.1)), (21, cI i), (3, cI i), (4, .c (.pt 1 0)), (5, cB acc), (29, .agg (foc (j.2.2.1 ⟨i, hi1⟩))), (30, cI n)] ∧ H = [⟨jnc j, 72, true⟩, ⟨foc (j.2.2.1 ⟨i, hi1⟩), 67, true⟩]) ?_ ?_
  · refine ⟨_, _, _, ?_, 0, false, rfl, Nat.zero_le _, (fun h => by cases h), (fun _ => by omega), fun b hb h => by omega, rfl, rfl⟩
    exact turn [some 0, some 1] rfl rfl rfl ⟨⟨_, rfl, .stay (fun c hc => stays_fz (fz_sc (List.all_eq_true.1 (jnc_sc j) c hc)))⟩, ⟨_, rfl, .stay (fun c hc => stays_fz (fz_sc (List.all_eq_true.1 (foc_sc _) c hc)))⟩, trivial⟩ ⟨tr_pt rfl, tr_agg (.cons tr_f (.cons tr_f (.cons tr_f (.cons tr_f (.cons tr_f (.cons tr_f (.cons tr_f (.cons tr_f (.cons tr_f (.cons tr_f (.cons tr_f (.cons tr_f (.cons tr_f (.cons tr_f (.cons tr_f (.cons tr_f .nil)))))))))))))))), tr_v, tr_v, tr_pt rfl, tr_v, tr_agg (.cons tr_f (.cons tr_f (.cons tr_f (.cons tr_f .nil)))), tr_v, trivial⟩
  rintro k sl H ⟨n, acc, rfl, hn, hA, hB, hpn, rfl, rfl⟩
  rcases acc with _ | _
  · skip
    refine w_seq ?_
    refine w_reg rfl ?_
    refine v_lss lay3 rfl rfl (fun h16 => ?_) (fun h16 => ?_)
    rotate_left
    · have hBi := hB rfl
      obtain rfl : n = 4 := by omega
      have hrow : ∀ b : Fin 4, cellOk j i b.val (j.2.2.1 ⟨i, hi1⟩ b) := fun b => hpn b.val b.isLt b.isLt
      obtain ⟨rs, ers, hrs⟩ := psm_rung (g := (j.2.2.1 ⟨i, hi1⟩)) (fun k hk => hj.1 i hi1 k hk) (fun k hk => (hrow ⟨k, hk⟩).1)
      rw [← sumL_row] at ers
      refine v_nil ?_
      refine q_n ?_
      refine w_seq ?_
      refine w_f rfl ?_
      refine w_exit ?_
      refine q_e ?_
      refine q_e ?_
      refine q_hit ?_
      refine q_n ?_
      refine w_seq ?_
      refine w_reg rfl ?_
      refine v_slice_arr (k := 1) lay67 lay26 rfl rfl rfl rfl (by decide) (Nat.le_of_ble_eq_true rfl) ?_
      refine v_call (cSum (l4 (j.2.2.1 ⟨i, hi1⟩)) (Nat.le_of_ble_eq_true rfl) (Nat.le_of_ble_eq_true rfl)) rfl rfl rfl (.cons (vw_part (xs := l4 (j.2.2.1 ⟨i, hi1⟩)) fe_sc rfl rfl rfl (Nat.le_of_ble_eq_true rfl)) .nil) ?_
      refine v_assign rfl ?_
      refine v_nil ?_
      refine q_n ?_
      refine w_seq ?_
      refine w_reg rfl ?_
      refine v_move rfl ?_
      refine v_move rfl ?_
      refine v_guard_off rfl rfl rfl ?_
      refine v_guard_off rfl rfl rfl ?_
      refine v_guard_off rfl rfl rfl ?_
      refine v_guard_un rfl rfl ?_
      refine v_guard_un rfl rfl ?_
      refine v_guard_off rfl rfl rfl ?_
      refine v_guard_off rfl rfl rfl ?_
      refine v_guard_un rfl rfl ?_
      refine v_guard_un rfl rfl ?_
      refine v_guard_un rfl rfl ?_
      refine v_guard_un rfl rfl ?_
      refine v_guard_un rfl rfl ?_
      refine v_guard_un rfl rfl ?_
      refine v_guard_off rfl rfl rfl ?_
      refine v_pick_f (v := .v (.bool false)) rfl rfl ?_
      refine v_move rfl ?_
      refine v_guard_on rfl rfl ?_
      refine v_move rfl ?_
      refine v_guard_on rfl rfl ?_
      refine v_not true rfl rfl ?_
      refine v_guard_on rfl rfl ?_
      refine v_move rfl ?_
      refine v_guard_on rfl rfl ?_
      refine v_move rfl ?_
      refine v_guard_on rfl rfl ?_
      refine v_fa_pt (off' := 18) lay72 rfl rfl rfl ?_
      refine v_guard_on rfl rfl ?_
      refine v_idx_arr_e (k := 1) (i) lay70 lay26 rfl rfl rfl (rfl) (hi1) ?_
      refine v_guard_on rfl rfl ?_
      refine v_load_pt (.c (.f .f32 (j.2.2.2 ⟨i, hi1⟩))) lay26 rfl rfl (Nat.ble_eq_true_of_le (by show 18 + i * 1 + 1 ≤ 22; omega)) (jp_pt j hi1) ?_
      refine v_guard_on rfl rfl ?_
      refine v_callb (cNoI _ (hj.2 i hi1)) rfl rfl (.cons vw_f .nil) (fun h19 => ?_) (fun h19 => ?_)
      rotate_left
      · have hnl := h19
        refine v_guard_on rfl rfl ?_
        refine v_not true rfl rfl ?_
        refine v_guard_on rfl rfl ?_
        refine v_pick_t rfl rfl ?_
        refine v_pick_f rfl rfl ?_
        refine v_nil ?_
        refine q_n ?_
        refine w_t rfl ?_
        refine w_seq ?_
        refine w_reg rfl ?_
        refine v_assign (c := .v (.bool false)) rfl ?_
        refine v_nil ?_
        refine q_n ?_
        refine w_ret (q_br (q_r (q_r (q_br (q_r ?_)))))
        refine r_r rfl ?_
        exact a_b (by simp only [Bool.false_eq_true, false_iff]; exact jn_nil (hi := hi1) (by omega) hnl)
      have hnl := h19
      refine v_guard_on rfl rfl ?_
      refine v_not false rfl rfl ?_
      refine v_guard_on rfl rfl ?_
      refine v_pick_t rfl rfl ?_
      refine v_pick_f rfl rfl ?_
      refine v_nil ?_
      refine q_n ?_
      refine w_f rfl ?_
      refine w_skip ?_
      refine q_bn ?_
      refine q_n ?_
      refine w_reg rfl ?_
      refine v_add lay3 rfl rfl (i64r (by omega)) ?_
      refine v_move rfl ?_
      refine v_nil ?_
      refine q_n ?_
      refine ⟨_, _, _, ?_, ⟨i + 1, rfl, by omega, fun a ha h => ?_, rfl, rfl⟩, by omega⟩
      · exact turn [some 0] rfl rfl rfl ⟨⟨_, rfl, .stay (fun c hc => stays_fz (fz_sc (List.all_eq_true.1 (jnc_sc j) c hc)))⟩, trivial⟩ ⟨tr_pt rfl, tr_agg (.cons tr_f (.cons tr_f (.cons tr_f (.cons tr_f (.cons tr_f (.cons tr_f (.cons tr_f (.cons tr_f (.cons tr_f (.cons tr_f (.cons tr_f (.cons tr_f (.cons tr_f (.cons tr_f (.cons tr_f (.cons tr_f .nil)))))))))))))))), tr_v, trivial⟩
      · rcases Nat.lt_or_eq_of_le (Nat.le_of_lt_succ h) with h | rfl
        · exact hp a ha h
        · exact row_nil hrow (by omega) hnl
    have hn1 : n < 4 := by omega
    have hBi := hB rfl
    refine v_nil ?_
    refine q_n ?_
    refine w_seq ?_
    refine w_t rfl ?_
    refine w_skip ?_
    refine q_n ?_
    refine w_seq ?_
    refine w_block ?_
    refine w_seq ?_
    refine w_reg rfl ?_
    refine v_move rfl ?_
    refine v_index_e n (.c (.f .f32 (j.2.2.1 ⟨i, hi1⟩ ⟨n, hn1⟩))) lay67 lay26 rfl rfl rfl hn1 (by show n * 1 + 1 ≤ 4; omega) (foc_x _ hn1) ?_
    refine v_assign rfl ?_
    refine v_assign rfl ?_
    refine v_nil ?_
    refine q_n ?_
    refine w_seq ?_
    refine w_reg rfl ?_
    refine v_move rfl ?_
    refine v_callb (cShI _ (hj.1 i hi1 n hn1)) rfl rfl (.cons vw_f .nil) (fun h17 => ?_) (fun h17 => ?_)
    rotate_left
    · have hsh := h17
      refine v_not true rfl rfl ?_
      refine v_move rfl ?_
      refine v_guard_off rfl rfl rfl ?_
      refine v_guard_off rfl rfl rfl ?_
      refine v_guard_off rfl rfl rfl ?_
      refine v_guard_un rfl rfl ?_
      refine v_guard_un rfl rfl ?_
      refine v_guard_un rfl rfl ?_
      refine v_guard_un rfl rfl ?_
      refine v_guard_off rfl rfl rfl ?_
      refine v_guard_off rfl rfl rfl ?_
      refine v_guard_un rfl rfl ?_
      refine v_guard_un rfl rfl ?_
      refine v_guard_off rfl rfl rfl ?_
      refine v_pick_t (v := .v (.bool true)) rfl rfl ?_
      refine v_nil ?_
      refine q_n ?_
      refine w_t rfl ?_
      refine w_seq ?_
      refine w_reg rfl ?_
      refine v_assign (c := .v (.bool false)) rfl ?_
      refine v_nil ?_
      refine q_n ?_
      refine w_ret (q_br (q_r (q_r (q_br (q_r (q_br (q_r (q_r (q_br (q_r ?_))))))))))
      refine r_r rfl ?_
      exact a_b (by simp only [Bool.false_eq_true, false_iff]; exact jn_cell (n := n) (hi := hi1) (hn := hn1) fun hc => hsh hc.1)
    have hsh := h17
    refine v_not false rfl rfl ?_
    refine v_move rfl ?_
    refine v_guard_on rfl rfl ?_
    refine v_move rfl ?_
    refine v_guard_on rfl rfl ?_
    refine v_not true rfl rfl ?_
    refine v_guard_on rfl rfl ?_
    refine v_move rfl ?_
    refine v_guard_off rfl rfl rfl ?_
    refine v_guard_off rfl rfl rfl ?_
    refine v_guard_off rfl rfl rfl ?_
    refine v_guard_off rfl rfl rfl ?_
    refine v_guard_on rfl rfl ?_
    refine v_pick_t (v := .v (.bool true)) rfl rfl ?_
    refine v_guard_on rfl rfl ?_
    refine v_move rfl ?_
    refine v_guard_on rfl rfl ?_
    refine v_move rfl ?_
    refine v_guard_on rfl rfl ?_
    refine v_binb lay26 rfl rfl rfl (fun h18 => ?_) (fun h18 => ?_)
    · have hne : ¬ feq (j.2.2.1 ⟨i, hi1⟩ ⟨n, hn1⟩) := ne_t h18
      refine v_guard_on rfl rfl ?_
      refine v_pick_t rfl rfl ?_
      refine v_pick_f rfl rfl ?_
      refine v_nil ?_
      refine q_n ?_
      refine w_t rfl ?_
      refine w_seq ?_
      refine w_reg rfl ?_
      refine v_assign (c := .v (.bool false)) rfl ?_
      refine v_nil ?_
      refine q_n ?_
      refine w_ret (q_br (q_r (q_r (q_br (q_r (q_br (q_r (q_r (q_br (q_r ?_))))))))))
      refine r_r rfl ?_
      exact a_b (by simp only [Bool.false_eq_true, false_iff]; exact jn_cell (n := n) (hi := hi1) (hn := hn1) fun hc => hne (hc.2 (.inl (by omega))))
    have hne : feq (j.2.2.1 ⟨i, hi1⟩ ⟨n, hn1⟩) := ne_f h18
    refine v_guard_on rfl rfl ?_
    refine v_pick_t rfl rfl ?_
    refine v_pick_f rfl rfl ?_
    refine v_nil ?_
    refine q_n ?_
    refine w_f rfl ?_
    refine w_skip ?_
    refine q_bn ?_
    refine q_n ?_
    refine w_reg rfl ?_
    refine v_add lay3 rfl rfl (i64r (by omega)) ?_
    refine v_move rfl ?_
    refine v_nil ?_
    refine q_n ?_
    have hcell : cellOk j i n (j.2.2.1 ⟨i, hi1⟩ ⟨n, hn1⟩) := ⟨hsh, fun hor => by first | exact hne | (exfalso; omega)⟩
    refine ⟨_, _, _, ?_, ⟨n + 1, false, rfl, by omega, hA, hB, fun b hb h => ?_, rfl, rfl⟩, by omega⟩
    · exact turn [some 0, some 1] rfl rfl rfl ⟨⟨_, rfl, .stay (fun c hc => stays_fz (fz_sc (List.all_eq_true.1 (jnc_sc j) c hc)))⟩, ⟨_, rfl, .stay (fun c hc => stays_fz (fz_sc (List.all_eq_true.1 (foc_sc _) c hc)))⟩, trivial⟩ ⟨tr_pt rfl, tr_agg (.cons tr_f (.cons tr_f (.cons tr_f (.cons tr_f (.cons tr_f (.cons tr_f (.cons tr_f (.cons tr_f (.cons tr_f (.cons tr_f (.cons tr_f (.cons tr_f (.cons tr_f (.cons tr_f (.cons tr_f (.cons tr_f .nil)))))))))))))))), tr_v, tr_v, tr_pt rfl, tr_v, tr_agg (.cons tr_f (.cons tr_f (.cons tr_f (.cons tr_f .nil)))), tr_v, trivial⟩
    · rcases Nat.lt_or_eq_of_le (Nat.le_of_lt_succ h) with h | rfl
      · exact hpn b hb h
      · exact hcell
  · skip
    refine w_seq ?_
    refine w_reg rfl ?_
    refine v_lss lay3 rfl rfl (fun h20 => ?_) (fun h20 => ?_)
    · have hn1 : n < 4 := by omega
      have hAi := hA rfl
      refine v_nil ?_
      refine q_n ?_
      refine w_seq ?_
      refine w_t rfl ?_
      refine w_skip ?_
      refine q_n ?_
      refine w_seq ?_
      refine w_block ?_
      refine w_seq ?_
      refine w_reg rfl ?_
      refine v_move rfl ?_
      refine v_index_e n (.c (.f .f32 (j.2.2.1 ⟨i, hi1⟩ ⟨n, hn1⟩))) lay67 lay26 rfl rfl rfl hn1 (by show n * 1 + 1 ≤ 4; omega) (foc_x _ hn1) ?_
      refine v_assign rfl ?_
      refine v_assign rfl ?_
      refine v_nil ?_
      refine q_n ?_
      refine w_seq ?_
      refine w_reg rfl ?_
      refine v_move rfl ?_
      refine v_callb (cShI _ (hj.1 i hi1 n hn1)) rfl rfl (.cons vw_f .nil) (fun h21 => ?_) (fun h21 => ?_)
      rotate_left
      · have hsh := h21
        refine v_not true rfl rfl ?_
        refine v_move rfl ?_
        refine v_guard_off rfl rfl rfl ?_
        refine v_guard_off rfl rfl rfl ?_
        refine v_guard_off rfl rfl rfl ?_
        refine v_guard_un rfl rfl ?_
        refine v_guard_un rfl rfl ?_
        refine v_guard_un rfl rfl ?_
        refine v_guard_un rfl rfl ?_
        refine v_guard_off rfl rfl rfl ?_
        refine v_guard_off rfl rfl rfl ?_
        refine v_guard_un rfl rfl ?_
        refine v_guard_un rfl rfl ?_
        refine v_guard_off rfl rfl rfl ?_
        refine v_pick_t (v := .v (.bool true)) rfl rfl ?_
        refine v_nil ?_
        refine q_n ?_
        refine w_t rfl ?_
        refine w_seq ?_
        refine w_reg rfl ?_
        refine v_assign (c := .v (.bool false)) rfl ?_
        refine v_nil ?_
        refine q_n ?_
        refine w_ret (q_br (q_r (q_r (q_br (q_r (q_br (q_r (q_r (q_br (q_r ?_))))))))))
        refine r_r rfl ?_
        exact a_b (by simp only [Bool.false_eq_true, false_iff]; exact jn_cell (n := n) (hi := hi1) (hn := hn1) fun hc => hsh hc.1)
      have hsh := h21
      refine v_not false rfl rfl ?_
      refine v_move rfl ?_
      refine v_guard_on rfl rfl ?_
      refine v_move rfl ?_
      refine v_guard_on rfl rfl ?_
      refine v_not false rfl rfl ?_
      refine v_guard_on rfl rfl ?_
      refine v_move rfl ?_
      refine v_guard_on rfl rfl ?_
      refine v_move rfl ?_
      refine v_guard_on rfl rfl ?_
      refine v_fa_pt (off' := 1) lay72 rfl rfl rfl ?_
      refine v_guard_on rfl rfl ?_
      refine v_load_pt (.c _) lay2 rfl rfl rfl rfl ?_
      refine v_guard_on rfl rfl ?_
      refine v_geq lay2 rfl rfl (fun h22 => ?_) (fun h22 => ?_)
      rotate_left
      · have hge := h22
        refine v_guard_on rfl rfl ?_
        refine v_pick_f rfl rfl ?_
        refine v_guard_on rfl rfl ?_
        refine v_move rfl ?_
        refine v_guard_off rfl rfl rfl ?_
        refine v_guard_off rfl rfl rfl ?_
        refine v_guard_on rfl rfl ?_
        refine v_pick_f (v := .v (.bool false)) rfl rfl ?_
        refine v_pick_f rfl rfl ?_
        refine v_nil ?_
        refine q_n ?_
        refine w_f rfl ?_
        refine w_skip ?_
        refine q_bn ?_
        refine q_n ?_
        refine w_reg rfl ?_
        refine v_add lay3 rfl rfl (i64r (by omega)) ?_
        refine v_move rfl ?_
        refine v_nil ?_
        refine q_n ?_
        have hcell : cellOk j i n (j.2.2.1 ⟨i, hi1⟩ ⟨n, hn1⟩) := ⟨hsh, fun hor => by first | exact hne | (exfalso; omega)⟩
        refine ⟨_, _, _, ?_, ⟨n + 1, true, rfl, by omega, hA, hB, fun b hb h => ?_, rfl, rfl⟩, by omega⟩
        · exact turn [some 0, some 1] rfl rfl rfl ⟨⟨_, rfl, .stay (fun c hc => stays_fz (fz_sc (List.all_eq_true.1 (jnc_sc j) c hc)))⟩, ⟨_, rfl, .stay (fun c hc => stays_fz (fz_sc (List.all_eq_true.1 (foc_sc _) c hc)))⟩, trivial⟩ ⟨tr_pt rfl, tr_agg (.cons tr_f (.cons tr_f (.cons tr_f (.cons tr_f (.cons tr_f (.cons tr_f (.cons tr_f (.cons tr_f (.cons tr_f (.cons tr_f (.cons tr_f (.cons tr_f (.cons tr_f (.cons tr_f (.cons tr_f (.cons tr_f .nil)))))))))))))))), tr_v, tr_v, tr_pt rfl, tr_v, tr_agg (.cons tr_f (.cons tr_f (.cons tr_f (.cons tr_f .nil)))), tr_v, trivial⟩
        · rcases Nat.lt_or_eq_of_le (Nat.le_of_lt_succ h) with h | rfl
          · exact hpn b hb h
          · exact hcell
      have hge := h22
      refine v_guard_on rfl rfl ?_
      refine v_pick_f rfl rfl ?_
      refine v_guard_on rfl rfl ?_
      refine v_move rfl ?_
      refine v_guard_on rfl rfl ?_
      refine v_move rfl ?_
      refine v_guard_on rfl rfl ?_
      refine v_binb lay26 rfl rfl rfl (fun h23 => ?_) (fun h23 => ?_)
      · have hne : ¬ feq (j.2.2.1 ⟨i, hi1⟩ ⟨n, hn1⟩) := ne_t h23
        refine v_guard_on rfl rfl ?_
        refine v_pick_t rfl rfl ?_
        refine v_pick_f rfl rfl ?_
        refine v_nil ?_
        refine q_n ?_
        refine w_t rfl ?_
        refine w_seq ?_
        refine w_reg rfl ?_
        refine v_assign (c := .v (.bool false)) rfl ?_
        refine v_nil ?_
        refine q_n ?_
        refine w_ret (q_br (q_r (q_r (q_br (q_r (q_br (q_r (q_r (q_br (q_r ?_))))))))))
        refine r_r rfl ?_
        exact a_b (by simp only [Bool.false_eq_true, false_iff]; exact jn_cell (n := n) (hi := hi1) (hn := hn1) fun hc => hne (hc.2 (.inr (by omega))))
      have hne : feq (j.2.2.1 ⟨i, hi1⟩ ⟨n, hn1⟩) := ne_f h23
      refine v_guard_on rfl rfl ?_
      refine v_pick_t rfl rfl ?_
      refine v_pick_f rfl rfl ?_
      refine v_nil ?_
      refine q_n ?_
      refine w_f rfl ?_
      refine w_skip ?_
      refine q_bn ?_
      refine q_n ?_
      refine w_reg rfl ?_
      refine v_add lay3 rfl rfl (i64r (by omega)) ?_
      refine v_move rfl ?_
      refine v_nil ?_
      refine q_n ?_
      have hcell : cellOk j i n (j.2.2.1 ⟨i, hi1⟩ ⟨n, hn1⟩) := ⟨hsh, fun hor => by first | exact hne | (exfalso; omega)⟩
      refine ⟨_, _, _, ?_, ⟨n + 1, true, rfl, by omega, hA, hB, fun b hb h => ?_, rfl, rfl⟩, by omega⟩
      · exact turn [some 0, some 1] rfl rfl rfl ⟨⟨_, rfl, .stay (fun c hc => stays_fz (fz_sc (List.all_eq_true.1 (jnc_sc j) c hc)))⟩, ⟨_, rfl, .stay (fun c hc => stays_fz (fz_sc (List.all_eq_true.1 (foc_sc _) c hc)))⟩, trivial⟩ ⟨tr_pt rfl, tr_agg (.cons tr_f (.cons tr_f (.cons tr_f (.cons tr_f (.cons tr_f (.cons tr_f (.cons tr_f (.cons tr_f (.cons tr_f (.cons tr_f (.cons tr_f (.cons tr_f (.cons tr_f (.cons tr_f (.cons tr_f (.cons tr_f .nil)))))))))))))))), tr_v, tr_v, tr_pt rfl, tr_v, tr_agg (.cons tr_f (.cons tr_f (.cons tr_f (.cons tr_f .nil)))), tr_v, trivial⟩
      · rcases Nat.lt_or_eq_of_le (Nat.le_of_lt_succ h) with h | rfl
        · exact hpn b hb h
        · exact hcell
    have hAi := hA rfl
    obtain rfl : n = 4 := by omega
    have hrow : ∀ b : Fin 4, cellOk j i b.val (j.2.2.1 ⟨i, hi1⟩ b) := fun b => hpn b.val b.isLt b.isLt
    obtain ⟨rs, ers, hrs⟩ := psm_rung (g := (j.2.2.1 ⟨i, hi1⟩)) (fun k hk => hj.1 i hi1 k hk) (fun k hk => (hrow ⟨k, hk⟩).1)
    rw [← sumL_row] at ers
    refine v_nil ?_
    refine q_n ?_
    refine w_seq ?_
    refine w_f rfl ?_
    refine w_exit ?_
    refine q_e ?_
    refine q_e ?_
    refine q_hit ?_
    refine q_n ?_
    refine w_seq ?_
    refine w_reg rfl ?_
    refine v_slice_arr (k := 1) lay67 lay26 rfl rfl rfl rfl (by decide) (Nat.le_of_ble_eq_true rfl) ?_
    refine v_call (cSum (l4 (j.2.2.1 ⟨i, hi1⟩)) (Nat.le_of_ble_eq_true rfl) (Nat.le_of_ble_eq_true rfl)) rfl rfl rfl (.cons (vw_part (xs := l4 (j.2.2.1 ⟨i, hi1⟩)) fe_sc rfl rfl rfl (Nat.le_of_ble_eq_true rfl)) .nil) ?_
    refine v_assign rfl ?_
    refine v_nil ?_
    refine q_n ?_
    refine w_seq ?_
    refine w_reg rfl ?_
    refine v_move rfl ?_
    refine v_move rfl ?_
    refine v_guard_on rfl rfl ?_
    refine v_move rfl ?_
    refine v_guard_on rfl rfl ?_
    refine v_binb lay26 rfl rfl rfl (fun h24 => ?_) (fun h24 => ?_)
    · have hlo : flt (sumL (l4 (j.2.2.1 ⟨i, hi1⟩))) 1065336439 := h24
      refine v_guard_on rfl rfl ?_
      refine v_move rfl ?_
      refine v_guard_off rfl rfl rfl ?_
      refine v_guard_off rfl rfl rfl ?_
      refine v_guard_on rfl rfl ?_
      refine v_pick_t (v := .v (.bool true)) rfl rfl ?_
      refine v_guard_on rfl rfl ?_
      refine v_move rfl ?_
      refine v_guard_off rfl rfl rfl ?_
      refine v_guard_off rfl rfl rfl ?_
      refine v_guard_off rfl rfl rfl ?_
      refine v_guard_off rfl rfl rfl ?_
      refine v_guard_off rfl rfl rfl ?_
      refine v_guard_off rfl rfl rfl ?_
      refine v_guard_on rfl rfl ?_
      refine v_pick_t (v := .v (.bool true)) rfl rfl ?_
      refine v_pick_t rfl rfl ?_
      refine v_move rfl ?_
      refine v_guard_off rfl rfl rfl ?_
      refine v_guard_off rfl rfl rfl ?_
      refine v_guard_off rfl rfl rfl ?_
      refine v_guard_un rfl rfl ?_
      refine v_guard_un rfl rfl ?_
      refine v_guard_un rfl rfl ?_
      refine v_guard_un rfl rfl ?_
      refine v_guard_un rfl rfl ?_
      refine v_guard_un rfl rfl ?_
      refine v_guard_off rfl rfl rfl ?_
      refine v_pick_t (v := .v (.bool true)) rfl rfl ?_
      refine v_nil ?_
      refine q_n ?_
      refine w_t rfl ?_
      refine w_seq ?_
      refine w_reg rfl ?_
      refine v_assign (c := .v (.bool false)) rfl ?_
      refine v_nil ?_
      refine q_n ?_
      refine w_ret (q_br (q_r (q_r (q_br (q_r ?_)))))
      refine r_r rfl ?_
      exact a_b (by simp only [Bool.false_eq_true, false_iff]; exact jn_in (hi := hi1) (by omega) fun h => flt_not hlo h.1.1)
    have hlo : ¬ flt (sumL (l4 (j.2.2.1 ⟨i, hi1⟩))) 1065336439 := fun h => absurd (h24.symm.trans h) (by decide)
    refine v_guard_on rfl rfl ?_
    refine v_move rfl ?_
    refine v_guard_on rfl rfl ?_
    refine v_move rfl ?_
    refine v_guard_on rfl rfl ?_
    refine v_binb lay26 rfl rfl rfl (fun h25 => ?_) (fun h25 => ?_)
    · have hhi : fgt (sumL (l4 (j.2.2.1 ⟨i, hi1⟩))) 1065361605 := h25
      refine v_guard_on rfl rfl ?_
      refine v_pick_f rfl rfl ?_
      refine v_guard_on rfl rfl ?_
      refine v_move rfl ?_
      refine v_guard_off rfl rfl rfl ?_
      refine v_guard_off rfl rfl rfl ?_
      refine v_guard_off rfl rfl rfl ?_
      refine v_guard_off rfl rfl rfl ?_
      refine v_guard_off rfl rfl rfl ?_
      refine v_guard_off rfl rfl rfl ?_
      refine v_guard_on rfl rfl ?_
      refine v_pick_t (v := .v (.bool true)) rfl rfl ?_
      refine v_pick_t rfl rfl ?_
      refine v_move rfl ?_
      refine v_guard_off rfl rfl rfl ?_
      refine v_guard_off rfl rfl rfl ?_
      refine v_guard_off rfl rfl rfl ?_
      refine v_guard_un rfl rfl ?_
      refine v_guard_un rfl rfl ?_
      refine v_guard_un rfl rfl ?_
      refine v_guard_un rfl rfl ?_
      refine v_guard_un rfl rfl ?_
      refine v_guard_un rfl rfl ?_
      refine v_guard_off rfl rfl rfl ?_
      refine v_pick_t (v := .v (.bool true)) rfl rfl ?_
      refine v_nil ?_
      refine q_n ?_
      refine w_t rfl ?_
      refine w_seq ?_
      refine w_reg rfl ?_
      refine v_assign (c := .v (.bool false)) rfl ?_
      refine v_nil ?_
      refine q_n ?_
      refine w_ret (q_br (q_r (q_r (q_br (q_r ?_)))))
      refine r_r rfl ?_
      exact a_b (by simp only [Bool.false_eq_true, false_iff]; exact jn_in (hi := hi1) (by omega) fun h => fgt_not hhi h.1.2)
    have hhi : ¬ fgt (sumL (l4 (j.2.2.1 ⟨i, hi1⟩))) 1065361605 := fun h => absurd (h25.symm.trans h) (by decide)
    refine v_guard_on rfl rfl ?_
    refine v_pick_f rfl rfl ?_
    refine v_guard_on rfl rfl ?_
    refine v_move rfl ?_
    refine v_guard_on rfl rfl ?_
    refine v_move rfl ?_
    refine v_guard_on rfl rfl ?_
    refine v_fa_pt (off' := 18) lay72 rfl rfl rfl ?_
    refine v_guard_on rfl rfl ?_
    refine v_idx_arr_e (k := 1) (i) lay70 lay26 rfl rfl rfl (rfl) (hi1) ?_
    refine v_guard_on rfl rfl ?_
    refine v_load_pt (.c (.f .f32 (j.2.2.2 ⟨i, hi1⟩))) lay26 rfl rfl (Nat.ble_eq_true_of_le (by show 18 + i * 1 + 1 ≤ 22; omega)) (jp_pt j hi1) ?_
    refine v_guard_on rfl rfl ?_
    refine v_callb (cPrI _ (hj.2 i hi1)) rfl rfl (.cons vw_f .nil) (fun h26 => ?_) (fun h26 => ?_)
    rotate_left
    · have hpr := h26
      refine v_guard_on rfl rfl ?_
      refine v_not true rfl rfl ?_
      refine v_guard_on rfl rfl ?_
      refine v_pick_f rfl rfl ?_
      refine v_pick_t rfl rfl ?_
      refine v_move rfl ?_
      refine v_guard_off rfl rfl rfl ?_
      refine v_guard_off rfl rfl rfl ?_
      refine v_guard_off rfl rfl rfl ?_
      refine v_guard_un rfl rfl ?_
      refine v_guard_un rfl rfl ?_
      refine v_guard_un rfl rfl ?_
      refine v_guard_un rfl rfl ?_
      refine v_guard_un rfl rfl ?_
      refine v_guard_un rfl rfl ?_
      refine v_guard_off rfl rfl rfl ?_
      refine v_pick_t (v := .v (.bool true)) rfl rfl ?_
      refine v_nil ?_
      refine q_n ?_
      refine w_t rfl ?_
      refine w_seq ?_
      refine w_reg rfl ?_
      refine v_assign (c := .v (.bool false)) rfl ?_
      refine v_nil ?_
      refine q_n ?_
      refine w_ret (q_br (q_r (q_r (q_br (q_r ?_)))))
      refine r_r rfl ?_
      exact a_b (by simp only [Bool.false_eq_true, false_iff]; exact jn_in (hi := hi1) (by omega) fun h => hpr h.2)
    have hpr := h26
    refine v_guard_on rfl rfl ?_
    refine v_not false rfl rfl ?_
    refine v_guard_on rfl rfl ?_
    refine v_pick_f rfl rfl ?_
    refine v_pick_t rfl rfl ?_
    refine v_move rfl ?_
    refine v_guard_on rfl rfl ?_
    refine v_move rfl ?_
    refine v_guard_on rfl rfl ?_
    refine v_not false rfl rfl ?_
    refine v_guard_on rfl rfl ?_
    refine v_move rfl ?_
    refine v_guard_off rfl rfl rfl ?_
    refine v_guard_off rfl rfl rfl ?_
    refine v_guard_off rfl rfl rfl ?_
    refine v_guard_off rfl rfl rfl ?_
    refine v_guard_off rfl rfl rfl ?_
    refine v_guard_off rfl rfl rfl ?_
    refine v_guard_on rfl rfl ?_
    refine v_pick_f (v := .v (.bool false)) rfl rfl ?_
    refine v_pick_f rfl rfl ?_
    refine v_nil ?_
    refine q_n ?_
    refine w_f rfl ?_
    refine w_skip ?_
    refine q_bn ?_
    refine q_n ?_
    refine w_reg rfl ?_
    refine v_add lay3 rfl rfl (i64r (by omega)) ?_
    refine v_move rfl ?_
    refine v_nil ?_
    refine q_n ?_
    refine ⟨_, _, _, ?_, ⟨i + 1, rfl, by omega, fun a ha h => ?_, rfl, rfl⟩, by omega⟩
    · exact turn [some 0] rfl rfl rfl ⟨⟨_, rfl, .stay (fun c hc => stays_fz (fz_sc (List.all_eq_true.1 (jnc_sc j) c hc)))⟩, trivial⟩ ⟨tr_pt rfl, tr_agg (.cons tr_f (.cons tr_f (.cons tr_f (.cons tr_f (.cons tr_f (.cons tr_f (.cons tr_f (.cons tr_f (.cons tr_f (.cons tr_f (.cons tr_f (.cons tr_f (.cons tr_f (.cons tr_f (.cons tr_f (.cons tr_f .nil)))))))))))))))), tr_v, trivial⟩
    · rcases Nat.lt_or_eq_of_le (Nat.le_of_lt_succ h) with h | rfl
      · exact hp a ha h
      · exact row_in hrow (by omega) (sum_ok ers hrs hlo hhi) hpr
end Go.VL
namespace Go.VL
open Go.RowKit
set_option maxRecDepth 20000
set_option maxHeartbeats 8000000
/-- Marks of roads that are used, each once. -/
def usd : List Int → List Bool → Bool × List Bool
  | [], u => (true, u)
  | a :: r, u => if (0 ≤ a ∧ a ≤ (u.length : Int) - 1) ∧ u.getD a.toNat true = false then usd r (u.set a.toNat true) else (false, u)
theorem usd_at {xs : List Int} {v : List Bool} {i : Nat} (h : i < xs.length) : usd (xs.drop i) v = if (0 ≤ xs[i] ∧ xs[i] ≤ (v.length : Int) - 1) ∧ v.getD xs[i].toNat true = false then usd (xs.drop (i + 1)) (v.set xs[i].toNat true) else (false, v) := by
  rw [List.drop_eq_getElem_cons h, usd]
theorem usd_go {xs : List Int} {v : List Bool} {i : Nat} (h : i < xs.length) (h0 : 0 ≤ xs[i]) (hl : xs[i].toNat < v.length) (hb : v[xs[i].toNat] = false) : usd (xs.drop i) v = usd (xs.drop (i + 1)) (v.set xs[i].toNat true) := by
  rw [usd_at h, if_pos ⟨⟨h0, by omega⟩, by rw [List.getD_eq_getElem?_getD, List.getElem?_eq_getElem hl]; exact hb⟩]
theorem usd_n1 {xs : List Int} {v : List Bool} {i : Nat} (h : i < xs.length) (h0 : ¬ (0 ≤ xs[i] ∧ xs[i] ≤ (v.length : Int) - 1)) : usd (xs.drop i) v = (false, v) := by
  rw [usd_at h, if_neg fun hc => h0 hc.1]
theorem usd_n2 {xs : List Int} {v : List Bool} {i : Nat} (h : i < xs.length) (hl : xs[i].toNat < v.length) (hb : v[xs[i].toNat] = true) : usd (xs.drop i) v = (false, v) := by
  rw [usd_at h, if_neg fun hc => ?_]
  have := hc.2
  rw [List.getD_eq_getElem?_getD, List.getElem?_eq_getElem hl] at this
  rw [show v[xs[i].toNat] = false from this] at hb
  cases hb
theorem usd_len : ∀ {xs : List Int} {u : List Bool}, (usd xs u).2.length = u.length
  | [], u => rfl
  | a :: r, u => by
    unfold usd
    split
    · rw [usd_len, List.length_set]
    · rfl
theorem cUsd0 (xs : List Int) (u w : List Bool) (hx : xs.length ≤ 2 ^ 40) (hu : u.length ≤ 2 ^ 40) : DetC X 113 [.c (ints false xs), .c (.mu 0 0 u.length 1)] [⟨flat bo u, 4, true⟩, ⟨flat bo w, 4, true⟩] (cB (usd xs u).1) [⟨flat bo (usd xs u).2, 4, true⟩, ⟨flat bo w, 4, true⟩] := by
  refine GraphC.of_body (drawD_ok X) (fun _ _ => Go.Proofs.Tryz.call113 _ _) Go.Proofs.Tryz.func113 rfl (n := 36) rfl rfl ?_
  refine w_seq ?_
  refine w_reg rfl ?_
  refine v_assign (c := .v (.bool false)) rfl ?_
  refine v_nil ?_
  refine q_n ?_
  refine w_seq ?_
  refine w_seq ?_
  refine w_reg rfl ?_
  refine v_assign (c := .v (.int .i64 0)) rfl ?_
  refine v_nil ?_
  refine q_n ?_
  refine w_block ?_
  refine w_loop (fun k sl H => ∃ (i : Nat) (v : List Bool), k = xs.length - i ∧ i ≤ xs.length ∧ usd (xs.drop i) v = usd xs u ∧ v.length = u.length ∧ sl = sls [(0, .c (ints false xs)), (1, .c (.mu 0 0 u.length 1)), (5, cI i)] ∧ H = [⟨flat bo v, 4, true⟩, ⟨flat bo w, 4, true⟩]) ?_ ?_
  · refine ⟨_, _, _, ?_, 0, u, rfl, Nat.zero_le _, rfl, rfl, rfl, rfl⟩
    exact turn [some 0, some 1] rfl rfl rfl ⟨⟨_, rfl, trc_flat bo_sc rfl⟩, ⟨_, rfl, trc_flat bo_sc rfl⟩, trivial⟩ ⟨tr_sl, tr_mu rfl, tr_v, trivial⟩
  rintro k sl H ⟨i, v, rfl, hi, hp, hvl, rfl, rfl⟩
  refine w_seq ?_
  refine w_seq ?_
  refine w_reg rfl ?_
  refine v_move rfl ?_
  refine v_move rfl ?_
  refine v_len_sl lay73 rfl ?_
  refine v_lss lay3 rfl rfl (fun h1 => ?_) (fun h1 => ?_)
  rotate_left
  · refine v_nil ?_
    refine q_n ?_
    refine w_f rfl ?_
    refine w_exit ?_
    refine q_e ?_
    refine q_e ?_
    refine q_hit ?_
    refine q_n ?_
    refine w_seq ?_
    refine w_reg rfl ?_
    refine v_assign (c := .v (.bool true)) rfl ?_
    refine v_nil ?_
    refine q_n ?_
    refine w_ret ?_
    refine r_r rfl ?_
    have he : usd xs u = (true, v) := by
      rw [← hp]
      obtain rfl : i = xs.length := by omega
      rw [List.drop_length]
      rfl
    rw [he]
    exact g_ans (H1 := [⟨flat bo v, 4, true⟩, ⟨flat bo w, 4, true⟩]) [some 0, some 1] rfl rfl rfl ⟨(fun _ => ⟨_, rfl, trc_flat bo_sc rfl⟩), (fun _ => ⟨_, rfl, trc_flat bo_sc rfl⟩), trivial⟩ tr_v ⟨rfl, rfl⟩
  have hi1 : i < xs.length := by omega
  refine v_nil ?_
  refine q_n ?_
  refine w_t rfl ?_
  refine w_skip ?_
  refine q_n ?_
  refine w_seq ?_
  refine w_block ?_
  refine w_seq ?_
  refine w_seq ?_
  refine w_reg rfl ?_
  refine v_move rfl ?_
  refine v_move rfl ?_
  refine v_idx_e (k := 1) (i) int_len lay73 lay2 rfl rfl rfl (rfl) rfl (rfl) (hi1) ?_
  refine v_load_vw (.c (.v _)) lay2 rfl rfl rfl ?_
  refine v_move rfl ?_
  refine v_len_mu lay107 rfl ?_
  refine v_sub lay2 rfl rfl (i64r (by omega)) ?_
  refine v_callb (cIn _ _ _) rfl rfl (.cons vw_v (.cons vw_v (.cons vw_v .nil))) (fun h3 => ?_) (fun h3 => ?_)
  rotate_left
  · have hnr := h3
    refine v_not true rfl rfl ?_
    refine v_move rfl ?_
    refine v_guard_off rfl rfl rfl ?_
    refine v_guard_off rfl rfl rfl ?_
    refine v_guard_off rfl rfl rfl ?_
    refine v_guard_off rfl rfl rfl ?_
    refine v_guard_off rfl rfl rfl ?_
    refine v_guard_off rfl rfl rfl ?_
    refine v_guard_off rfl rfl rfl ?_
    refine v_pick_t (v := .v (.bool true)) rfl rfl ?_
    refine v_nil ?_
    refine q_n ?_
    refine w_t rfl ?_
    refine w_seq ?_
    refine w_reg rfl ?_
    refine v_assign (c := .v (.bool false)) rfl ?_
    refine v_nil ?_
    refine q_n ?_
    refine w_ret (q_r (q_br (q_r (q_r (q_br (q_r ?_))))))
    refine r_r rfl ?_
    have he : usd xs u = (false, v) := by
      rw [← hp]
      exact usd_n1 hi1 (by omega)
    rw [he]
    exact g_ans (H1 := [⟨flat bo v, 4, true⟩, ⟨flat bo w, 4, true⟩]) [some 0, some 1] rfl rfl rfl ⟨(fun _ => ⟨_, rfl, trc_flat bo_sc rfl⟩), (fun _ => ⟨_, rfl, trc_flat bo_sc rfl⟩), trivial⟩ tr_v ⟨rfl, rfl⟩
  have hlt : xs[i].toNat < u.length := by omega
  have het : xs[i] = (xs[i].toNat : Int) := by omega
  have hlv : xs[i].toNat < v.length := by omega
  refine v_not false rfl rfl ?_
  refine v_move rfl ?_
  refine v_guard_on rfl rfl ?_
  refine v_move rfl ?_
  refine v_guard_on rfl rfl ?_
  refine v_move rfl ?_
  refine v_guard_on rfl rfl ?_
  refine v_move rfl ?_
  refine v_guard_on rfl rfl ?_
  refine v_idx_e (k := 1) (i) int_len lay73 lay2 rfl rfl rfl (rfl) rfl (rfl) (hi1) ?_
  refine v_guard_on rfl rfl ?_
  refine v_load_vw (.c (.v _)) lay2 rfl rfl rfl ?_
  refine v_guard_on rfl rfl ?_
  refine v_idx_mu_e (k := 1) (off := 0) (xs[i].toNat) lay107 lay4 rfl rfl rfl (het) (hlt) ?_
  refine v_guard_on rfl rfl ?_
  refine v_load_flatb (enc := bo) (ys := v) xs[i].toNat 0 bo_len lay4 rfl rfl (by omega) hlv (by decide) rfl (fun h6 => ?_) (fun h6 => ?_)
  · have hbt := h6
    refine v_pick_f rfl rfl ?_
    refine v_nil ?_
    refine q_n ?_
    refine w_t rfl ?_
    refine w_seq ?_
    refine w_reg rfl ?_
    refine v_assign (c := .v (.bool false)) rfl ?_
    refine v_nil ?_
    refine q_n ?_
    refine w_ret (q_r (q_br (q_r (q_r (q_br (q_r ?_))))))
    refine r_r rfl ?_
    have he : usd xs u = (false, v) := by
      rw [← hp]
      exact usd_n2 hi1 hlv hbt
    rw [he]
    exact g_ans (H1 := [⟨flat bo v, 4, true⟩, ⟨flat bo w, 4, true⟩]) [some 0, some 1] rfl rfl rfl ⟨(fun _ => ⟨_, rfl, trc_flat bo_sc rfl⟩), (fun _ => ⟨_, rfl, trc_flat bo_sc rfl⟩), trivial⟩ tr_v ⟨rfl, rfl⟩
  have hbf := h6
  refine v_pick_f rfl rfl ?_
  refine v_nil ?_
  refine q_n ?_
  refine w_f rfl ?_
  refine w_skip ?_
  refine q_n ?_
  refine w_reg rfl ?_
  refine v_move rfl ?_
  refine v_move rfl ?_
  refine v_move rfl ?_
  refine v_idx_e (k := 1) (i) int_len lay73 lay2 rfl rfl rfl (rfl) rfl (rfl) (hi1) ?_
  refine v_load_vw (.c (.v _)) lay2 rfl rfl rfl ?_
  refine v_idx_mu_e (k := 1) (off := 0) (xs[i].toNat) lay107 lay4 rfl rfl rfl (het) (hlt) ?_
  refine v_store_flat (H' := [_, _]) xs[i].toNat 0 (true) bo_len lay4 rfl rfl rfl (by omega) (hlv) rfl rfl (rfl) rfl ?_
  refine v_nil ?_
  refine q_bn ?_
  refine q_n ?_
  refine w_reg rfl ?_
  refine v_move rfl ?_
  refine v_add lay3 rfl rfl (i64r (by omega)) ?_
  refine v_assign rfl ?_
  refine v_nil ?_
  refine q_n ?_
  rw [usd_go hi1 (by omega) hlv hbf] at hp
  refine ⟨_, _, _, ?_, ⟨i + 1, v.set xs[i].toNat true, rfl, by omega, hp, by rw [List.length_set]; exact hvl, rfl, rfl⟩, by omega⟩
  exact turn [some 0, some 1] rfl rfl rfl ⟨⟨_, rfl, trc_flat bo_sc rfl⟩, ⟨_, rfl, trc_flat bo_sc rfl⟩, trivial⟩ ⟨tr_sl, tr_mu rfl, tr_v, trivial⟩
theorem cUsd1 (xs : List Int) (u w : List Bool) (hx : xs.length ≤ 2 ^ 40) (hu : u.length ≤ 2 ^ 40) : DetC X 113 [.c (ints false xs), .c (.mu 1 0 u.length 1)] [⟨flat bo w, 4, true⟩, ⟨flat bo u, 4, true⟩] (cB (usd xs u).1) [⟨flat bo w, 4, true⟩, ⟨flat bo (usd xs u).2, 4, true⟩] := by
  refine GraphC.of_body (drawD_ok X) (fun _ _ => Go.Proofs.Tryz.call113 _ _) Go.Proofs.Tryz.func113 rfl (n := 36) rfl rfl ?_
  refine w_seq ?_
  refine w_reg rfl ?_
  refine v_assign (c := .v (.bool false)) rfl ?_
  refine v_nil ?_
  refine q_n ?_
  refine w_seq ?_
  refine w_seq ?_
  refine w_reg rfl ?_
  refine v_assign (c := .v (.int .i64 0)) rfl ?_
  refine v_nil ?_
  refine q_n ?_
  refine w_block ?_
  refine w_loop (fun k sl H => ∃ (i : Nat) (v : List Bool), k = xs.length - i ∧ i ≤ xs.length ∧ usd (xs.drop i) v = usd xs u ∧ v.length = u.length ∧ sl = sls [(0, .c (ints false xs)), (1, .c (.mu 1 0 u.length 1)), (5, cI i)] ∧ H = [⟨flat bo w, 4, true⟩, ⟨flat bo v, 4, true⟩]) ?_ ?_
  · refine ⟨_, _, _, ?_, 0, u, rfl, Nat.zero_le _, rfl, rfl, rfl, rfl⟩
    exact turn [some 0, some 1] rfl rfl rfl ⟨⟨_, rfl, trc_flat bo_sc rfl⟩, ⟨_, rfl, trc_flat bo_sc rfl⟩, trivial⟩ ⟨tr_sl, tr_mu rfl, tr_v, trivial⟩
  rintro k sl H ⟨i, v, rfl, hi, hp, hvl, rfl, rfl⟩
  refine w_seq ?_
  refine w_seq ?_
  refine w_reg rfl ?_
  refine v_move rfl ?_
  refine v_move rfl ?_
  refine v_len_sl lay73 rfl ?_
  refine v_lss lay3 rfl rfl (fun h1 => ?_) (fun h1 => ?_)
  rotate_left
  · refine v_nil ?_
    refine q_n ?_
    refine w_f rfl ?_
    refine w_exit ?_
    refine q_e ?_
    refine q_e ?_
    refine q_hit ?_
    refine q_n ?_
    refine w_seq ?_
    refine w_reg rfl ?_
    refine v_assign (c := .v (.bool true)) rfl ?_
    refine v_nil ?_
    refine q_n ?_
    refine w_ret ?_
    refine r_r rfl ?_
    have he : usd xs u = (true, v) := by
      rw [← hp]
      obtain rfl : i = xs.length := by omega
      rw [List.drop_length]
      rfl
    rw [he]
    exact g_ans (H1 := [⟨flat bo w, 4, true⟩, ⟨flat bo v, 4, true⟩]) [some 0, some 1] rfl rfl rfl ⟨(fun _ => ⟨_, rfl, trc_flat bo_sc rfl⟩), (fun _ => ⟨_, rfl, trc_flat bo_sc rfl⟩), trivial⟩ tr_v ⟨rfl, rfl⟩
  have hi1 : i < xs.length := by omega
  refine v_nil ?_
  refine q_n ?_
  refine w_t rfl ?_
  refine w_skip ?_
  refine q_n ?_
  refine w_seq ?_
  refine w_block ?_
  refine w_seq ?_
  refine w_seq ?_
  refine w_reg rfl ?_
  refine v_move rfl ?_
  refine v_move rfl ?_
  refine v_idx_e (k := 1) (i) int_len lay73 lay2 rfl rfl rfl (rfl) rfl (rfl) (hi1) ?_
  refine v_load_vw (.c (.v _)) lay2 rfl rfl rfl ?_
  refine v_move rfl ?_
  refine v_len_mu lay107 rfl ?_
  refine v_sub lay2 rfl rfl (i64r (by omega)) ?_
  refine v_callb (cIn _ _ _) rfl rfl (.cons vw_v (.cons vw_v (.cons vw_v .nil))) (fun h3 => ?_) (fun h3 => ?_)
  rotate_left
  · have hnr := h3
    refine v_not true rfl rfl ?_
    refine v_move rfl ?_
    refine v_guard_off rfl rfl rfl ?_
    refine v_guard_off rfl rfl rfl ?_
    refine v_guard_off rfl rfl rfl ?_
    refine v_guard_off rfl rfl rfl ?_
    refine v_guard_off rfl rfl rfl ?_
    refine v_guard_off rfl rfl rfl ?_
    refine v_guard_off rfl rfl rfl ?_
    refine v_pick_t (v := .v (.bool true)) rfl rfl ?_
    refine v_nil ?_
    refine q_n ?_
    refine w_t rfl ?_
    refine w_seq ?_
    refine w_reg rfl ?_
    refine v_assign (c := .v (.bool false)) rfl ?_
    refine v_nil ?_
    refine q_n ?_
    refine w_ret (q_r (q_br (q_r (q_r (q_br (q_r ?_))))))
    refine r_r rfl ?_
    have he : usd xs u = (false, v) := by
      rw [← hp]
      exact usd_n1 hi1 (by omega)
    rw [he]
    exact g_ans (H1 := [⟨flat bo w, 4, true⟩, ⟨flat bo v, 4, true⟩]) [some 0, some 1] rfl rfl rfl ⟨(fun _ => ⟨_, rfl, trc_flat bo_sc rfl⟩), (fun _ => ⟨_, rfl, trc_flat bo_sc rfl⟩), trivial⟩ tr_v ⟨rfl, rfl⟩
  have hlt : xs[i].toNat < u.length := by omega
  have het : xs[i] = (xs[i].toNat : Int) := by omega
  have hlv : xs[i].toNat < v.length := by omega
  refine v_not false rfl rfl ?_
  refine v_move rfl ?_
  refine v_guard_on rfl rfl ?_
  refine v_move rfl ?_
  refine v_guard_on rfl rfl ?_
  refine v_move rfl ?_
  refine v_guard_on rfl rfl ?_
  refine v_move rfl ?_
  refine v_guard_on rfl rfl ?_
  refine v_idx_e (k := 1) (i) int_len lay73 lay2 rfl rfl rfl (rfl) rfl (rfl) (hi1) ?_
  refine v_guard_on rfl rfl ?_
  refine v_load_vw (.c (.v _)) lay2 rfl rfl rfl ?_
  refine v_guard_on rfl rfl ?_
  refine v_idx_mu_e (k := 1) (off := 0) (xs[i].toNat) lay107 lay4 rfl rfl rfl (het) (hlt) ?_
  refine v_guard_on rfl rfl ?_
  refine v_load_flatb (enc := bo) (ys := v) xs[i].toNat 0 bo_len lay4 rfl rfl (by omega) hlv (by decide) rfl (fun h6 => ?_) (fun h6 => ?_)
  · have hbt := h6
    refine v_pick_f rfl rfl ?_
    refine v_nil ?_
    refine q_n ?_
    refine w_t rfl ?_
    refine w_seq ?_
    refine w_reg rfl ?_
    refine v_assign (c := .v (.bool false)) rfl ?_
    refine v_nil ?_
    refine q_n ?_
    refine w_ret (q_r (q_br (q_r (q_r (q_br (q_r ?_))))))
    refine r_r rfl ?_
    have he : usd xs u = (false, v) := by
      rw [← hp]
      exact usd_n2 hi1 hlv hbt
    rw [he]
    exact g_ans (H1 := [⟨flat bo w, 4, true⟩, ⟨flat bo v, 4, true⟩]) [some 0, some 1] rfl rfl rfl ⟨(fun _ => ⟨_, rfl, trc_flat bo_sc rfl⟩), (fun _ => ⟨_, rfl, trc_flat bo_sc rfl⟩), trivial⟩ tr_v ⟨rfl, rfl⟩
  have hbf := h6
  refine v_pick_f rfl rfl ?_
  refine v_nil ?_
  refine q_n ?_
  refine w_f rfl ?_
  refine w_skip ?_
  refine q_n ?_
  refine w_reg rfl ?_
  refine v_move rfl ?_
  refine v_move rfl ?_
  refine v_move rfl ?_
  refine v_idx_e (k := 1) (i) int_len lay73 lay2 rfl rfl rfl (rfl) rfl (rfl) (hi1) ?_
  refine v_load_vw (.c (.v _)) lay2 rfl rfl rfl ?_
  refine v_idx_mu_e (k := 1) (off := 0) (xs[i].toNat) lay107 lay4 rfl rfl rfl (het) (hlt) ?_
  refine v_store_flat (H' := [_, _]) xs[i].toNat 0 (true) bo_len lay4 rfl rfl rfl (by omega) (hlv) rfl rfl (rfl) rfl ?_
  refine v_nil ?_
  refine q_bn ?_
  refine q_n ?_
  refine w_reg rfl ?_
  refine v_move rfl ?_
  refine v_add lay3 rfl rfl (i64r (by omega)) ?_
  refine v_assign rfl ?_
  refine v_nil ?_
  refine q_n ?_
  rw [usd_go hi1 (by omega) hlv hbf] at hp
  refine ⟨_, _, _, ?_, ⟨i + 1, v.set xs[i].toNat true, rfl, by omega, hp, by rw [List.length_set]; exact hvl, rfl, rfl⟩, by omega⟩
  exact turn [some 0, some 1] rfl rfl rfl ⟨⟨_, rfl, trc_flat bo_sc rfl⟩, ⟨_, rfl, trc_flat bo_sc rfl⟩, trivial⟩ ⟨tr_sl, tr_mu rfl, tr_v, trivial⟩
end Go.VL
namespace Go.VL
open Go.RowKit
set_option maxRecDepth 20000
set_option maxHeartbeats 8000000
def jPre (j : Jo) : Prop := jnOk j.1 ∧ (j.2.1.length : Int) = j.1.1 ∧ (j.2.2.1.length : Int) = j.1.2.1
instance (j : Jo) : Decidable (jPre j) := by unfold jPre; infer_instance
/-- Which roads are ins, and which are outs; and whether joints are as told. -/
def ends (np : Nat) : List Jo → List Bool → List Bool → List Bool × List Bool × Bool
  | [], a, b => (a, b, true)
  | j :: r, a, b => if jPre j then (if (usd j.2.1 a).1 = true then (if (usd j.2.2.1 b).1 = true then (if -1 ≤ j.2.2.2 ∧ j.2.2.2 ≤ (np : Int) - 1 then ends np r (usd j.2.1 a).2 (usd j.2.2.1 b).2 else ((usd j.2.1 a).2, (usd j.2.2.1 b).2, false)) else ((usd j.2.1 a).2, (usd j.2.2.1 b).2, false)) else ((usd j.2.1 a).2, b, false)) else (a, b, false)
section
variable {np : Nat} {js : List Jo} {a b : List Bool} {i : Nat} (h : i < js.length)
include h
theorem ends_at : ends np (js.drop i) a b = if jPre js[i] then (if (usd js[i].2.1 a).1 = true then (if (usd js[i].2.2.1 b).1 = true then (if -1 ≤ js[i].2.2.2 ∧ js[i].2.2.2 ≤ (np : Int) - 1 then ends np (js.drop (i + 1)) (usd js[i].2.1 a).2 (usd js[i].2.2.1 b).2 else ((usd js[i].2.1 a).2, (usd js[i].2.2.1 b).2, false)) else ((usd js[i].2.1 a).2, (usd js[i].2.2.1 b).2, false)) else ((usd js[i].2.1 a).2, b, false)) else (a, b, false) := by
  rw [List.drop_eq_getElem_cons h, ends]
theorem ends_0 (h0 : ¬ jPre js[i]) : ends np (js.drop i) a b = (a, b, false) := by rw [ends_at h, if_neg h0]
theorem ends_1 (h0 : jPre js[i]) (h1 : ¬ (usd js[i].2.1 a).1 = true) : ends np (js.drop i) a b = ((usd js[i].2.1 a).2, b, false) := by rw [ends_at h, if_pos h0, if_neg h1]
theorem ends_2 (h0 : jPre js[i]) (h1 : (usd js[i].2.1 a).1 = true) (h2 : ¬ (usd js[i].2.2.1 b).1 = true) : ends np (js.drop i) a b = ((usd js[i].2.1 a).2, (usd js[i].2.2.1 b).2, false) := by rw [ends_at h, if_pos h0, if_pos h1, if_neg h2]
theorem ends_3 (h0 : jPre js[i]) (h1 : (usd js[i].2.1 a).1 = true) (h2 : (usd js[i].2.2.1 b).1 = true) (h3 : ¬ (-1 ≤ js[i].2.2.2 ∧ js[i].2.2.2 ≤ (np : Int) - 1)) : ends np (js.drop i) a b = ((usd js[i].2.1 a).2, (usd js[i].2.2.1 b).2, false) := by rw [ends_at h, if_pos h0, if_pos h1, if_pos h2, if_neg h3]
theorem ends_4 (h0 : jPre js[i]) (h1 : (usd js[i].2.1 a).1 = true) (h2 : (usd js[i].2.2.1 b).1 = true) (h3 : -1 ≤ js[i].2.2.2 ∧ js[i].2.2.2 ≤ (np : Int) - 1) : ends np (js.drop i) a b = ends np (js.drop (i + 1)) (usd js[i].2.1 a).2 (usd js[i].2.2.1 b).2 := by rw [ends_at h, if_pos h0, if_pos h1, if_pos h2, if_pos h3]
end
theorem usd0 {xs : List Int} {u w : List Bool} {m : Nat} (hx : xs.length ≤ 2 ^ 40) (hu : u.length = m) (hm : m ≤ 2 ^ 40) {b : Bool} (hb : (usd xs u).1 = b) : DetC X 113 [.c (ints false xs), .c (.mu 0 0 m 1)] [⟨flat bo u, 4, true⟩, ⟨flat bo w, 4, true⟩] (cB b) [⟨flat bo (usd xs u).2, 4, true⟩, ⟨flat bo w, 4, true⟩] := by
  subst hu hb
  exact cUsd0 xs u w hx hm
theorem usd1 {xs : List Int} {u w : List Bool} {m : Nat} (hx : xs.length ≤ 2 ^ 40) (hu : u.length = m) (hm : m ≤ 2 ^ 40) {b : Bool} (hb : (usd xs u).1 = b) : DetC X 113 [.c (ints false xs), .c (.mu 1 0 m 1)] [⟨flat bo w, 4, true⟩, ⟨flat bo u, 4, true⟩] (cB b) [⟨flat bo w, 4, true⟩, ⟨flat bo (usd xs u).2, 4, true⟩] := by
  subst hu hb
  exact cUsd1 xs u w hx hm
theorem cEnds (t : Tw) (hB : tB (2 ^ 20) t) (hF : tF t) : PureC X 55 [.c (.vw false (twf true t) 0)] (.tup [.c (bls true (ends t.2.2.2.1.length t.2.2.1 (List.replicate t.1.length false) (List.replicate t.1.length false)).1), .c (bls true (ends t.2.2.2.1.length t.2.2.1 (List.replicate t.1.length false) (List.replicate t.1.length false)).2.1), cB (ends t.2.2.2.1.length t.2.2.1 (List.replicate t.1.length false) (List.replicate t.1.length false)).2.2]) := by
  refine PureC.of_body (drawD_ok X) (fun _ _ => Go.Proofs.Tryz.call55 _ _) Go.Proofs.Tryz.func55 rfl (n := 103) rfl ?_
  refine w_seq ?_
  refine w_reg rfl ?_
  refine v_assign rfl ?_
  refine v_assign rfl ?_
  refine v_assign (c := .v (.bool false)) rfl ?_
  refine v_nil ?_
  refine q_n ?_
  refine w_seq ?_
  refine w_reg rfl ?_
  refine v_move rfl ?_
  refine v_nil_vw rfl ?_
  refine v_fa_vw (off' := 0) lay35 rfl rfl rfl ?_
  refine v_load_vw (.c (_)) lay31 rfl rfl rfl ?_
  refine v_len_sl lay31 rfl ?_
  refine v_make (enc := bo) (a0 := false) (m := 0) (H' := [_]) rfl lay107 lay4 rfl rfl rfl rfl (t.1.length) (rfl) (by have := hB.1; unfold maxLen; simp only []; omega) rfl rfl ?_
  refine v_assign rfl ?_
  refine v_nil ?_
  refine q_n ?_
  refine w_seq ?_
  refine w_reg rfl ?_
  refine v_move rfl ?_
  refine v_nil_vw rfl ?_
  refine v_fa_vw (off' := 0) lay35 rfl rfl rfl ?_
  refine v_load_vw (.c (_)) lay31 rfl rfl rfl ?_
  refine v_len_sl lay31 rfl ?_
  refine v_make (enc := bo) (a0 := false) (m := 1) (H' := [_, _]) rfl lay107 lay4 rfl rfl rfl rfl (t.1.length) (rfl) (by have := hB.1; unfold maxLen; simp only []; omega) rfl rfl ?_
  refine v_assign rfl ?_
  refine v_nil ?_
  refine q_n ?_
  refine w_seq ?_
  refine w_seq ?_
  refine w_reg rfl ?_
  refine v_assign (c := .v (.int .i64 0)) rfl ?_
  refine v_nil ?_
  refine q_n ?_
  refine w_block ?_
  refine w_loop (fun k sl H => ∃ (i : Nat) (a b : List Bool), k = t.2.2.1.length - i ∧ i ≤ t.2.2.1.length ∧ ends t.2.2.2.1.length (t.2.2.1.drop i) a b = ends t.2.2.2.1.length t.2.2.1 (List.replicate t.1.length false) (List.replicate t.1.length false) ∧ a.length = t.1.length ∧ b.length = t.1.length ∧ sl = sls [(0, .c (.vw false (twf true t) 0)), (5, .c (.mu 0 0 t.1.length 1)), (6, .c (.mu 1 0 t.1.length 1)), (7, cI i)] ∧ H = [⟨flat bo a, 4, true⟩, ⟨flat bo b, 4, true⟩]) ?_ ?_
  · refine ⟨_, _, _, ?_, 0, List.replicate t.1.length false, List.replicate t.1.length false, rfl, Nat.zero_le _, rfl, by simp, by simp, rfl, rfl⟩
    exact turn [some 0, some 1] rfl rfl rfl ⟨⟨_, rfl, trc_flat bo_sc rfl⟩, ⟨_, rfl, trc_flat bo_sc rfl⟩, trivial⟩ ⟨tr_vw, tr_mu rfl, tr_mu rfl, tr_v, trivial⟩
  rintro k sl H ⟨i, a, b, rfl, hi, hp, ha, hb, rfl, rfl⟩
  refine w_seq ?_
  refine w_seq ?_
  refine w_reg rfl ?_
  refine v_move rfl ?_
  refine v_move rfl ?_
  refine v_nil_vw rfl ?_
  refine v_fa_vw (off' := 2) lay35 rfl rfl rfl ?_
  refine v_load_vw (.c (_)) lay32 rfl rfl rfl ?_
  refine v_len_sl lay32 rfl ?_
  refine v_lss lay3 rfl rfl (fun h1 => ?_) (fun h1 => ?_)
  rotate_left
  · refine v_nil ?_
    refine q_n ?_
    refine w_f rfl ?_
    refine w_exit ?_
    refine q_e ?_
    refine q_e ?_
    refine q_hit ?_
    refine q_n ?_
    refine w_seq ?_
    refine w_reg rfl ?_
    refine v_move rfl ?_
    refine v_move rfl ?_
    refine v_assign rfl ?_
    refine v_assign rfl ?_
    refine v_assign (c := .v (.bool true)) rfl ?_
    refine v_nil ?_
    refine q_n ?_
    refine w_ret ?_
    refine r_r rfl ?_
    have he : ends t.2.2.2.1.length t.2.2.1 (List.replicate t.1.length false) (List.replicate t.1.length false) = (a, b, true) := by
      rw [← hp]
      obtain rfl : i = t.2.2.1.length := by omega
      rw [List.drop_length]
      rfl
    rw [he]
    exact a_tup (.cons (a_flat2 bo_sc bo_len rfl rfl ha.symm ha) (.cons (a_flat2 bo_sc bo_len rfl rfl hb.symm hb) (.cons tr_v .nil)))
  have hi1 : i < t.2.2.1.length := by omega
  have hbl := hB.2.2.2.1 _ (List.getElem_mem hi1)
  refine v_nil ?_
  refine q_n ?_
  refine w_t rfl ?_
  refine w_skip ?_
  refine q_n ?_
  refine w_seq ?_
  refine w_block ?_
  refine w_seq ?_
  refine w_reg rfl ?_
  refine v_move rfl ?_
  refine v_nil_vw rfl ?_
  refine v_fa_vw (off' := 2) lay35 rfl rfl rfl ?_
  refine v_load_vw (.c (_)) lay32 rfl rfl rfl ?_
  refine v_move rfl ?_
  refine v_idx_e (k := 25) (i) joc_len lay32 lay75 rfl rfl rfl (rfl) rfl (rfl) (hi1) ?_
  refine v_assign rfl ?_
  refine v_nil ?_
  refine q_n ?_
  refine w_seq ?_
  refine w_draw [0, 1, 3, 7, 15, 31, 63, 127, 255, 511, 1023, 63, 2111, 6207, 14399, 30783, 65535, 131071, 262143, 524287, 1048575, 2097151, 4194303, 8388607, 524287, 17301503, 50855935, 117964799, 252182527, 536870911, 1073741823, 2147483647, 4294967295, 8589934591, 17179869183, 34359738367, 4294967295, 137438953471, 274877906943, 549755813887, 1099511627775, 2199023255551, 4398046511103, 8796093022207, 17592186044415, 2199023255551, 70368744177663, 140737488355327, 281474976710655, 562949953421311, 1125899906842623, 2251799813685247, 4503599627370495, 9007199254740991, 1125899906842623, 19140298416324607, 55169095435288575, 127226689473216511, 271341877549072383, 559572253700784127, 1152921504606846975, 2305843009213693951, 4611686018427387903] [⟨0, 0, []⟩, ⟨1, 0, []⟩, ⟨2, 0, []⟩, ⟨3, 0, []⟩, ⟨4, 0, []⟩, ⟨5, 0, []⟩, ⟨6, 0, []⟩, ⟨7, 0, []⟩, ⟨8, 0, []⟩, ⟨9, 0, []⟩, ⟨10, 0, []⟩, ⟨11, 0, []⟩, ⟨12, 0, []⟩, ⟨13, 0, []⟩, ⟨14, 0, []⟩, ⟨15, 0, []⟩, ⟨16, 0, []⟩, ⟨17, 0, []⟩, ⟨18, 0, []⟩, ⟨19, 0, []⟩, ⟨20, 0, []⟩, ⟨21, 0, []⟩, ⟨22, 0, []⟩, ⟨23, 0, []⟩, ⟨24, 0, []⟩, ⟨25, 0, []⟩, ⟨26, 0, []⟩, ⟨27, 0, []⟩, ⟨28, 0, []⟩, ⟨29, 0, []⟩, ⟨30, 0, []⟩, ⟨31, 0, []⟩, ⟨32, 0, []⟩, ⟨33, 0, []⟩, ⟨34, 0, []⟩, ⟨35, 0, []⟩, ⟨36, 0, []⟩, ⟨37, 1, []⟩, ⟨38, 0, []⟩, ⟨39, 0, []⟩, ⟨40, 0, []⟩, ⟨41, 0, []⟩, ⟨42, 0, []⟩, ⟨43, 0, []⟩, ⟨44, 0, []⟩, ⟨45, 0, []⟩, ⟨46, 1, []⟩, ⟨47, 0, []⟩, ⟨48, 0, []⟩, ⟨49, 0, []⟩, ⟨50, 0, []⟩, ⟨51, 0, []⟩, ⟨52, 0, []⟩, ⟨53, 0, []⟩, ⟨54, 0, []⟩, ⟨55, 0, []⟩, ⟨56, 0, []⟩, ⟨57, 0, []⟩, ⟨58, 0, []⟩, ⟨59, 0, []⟩, ⟨60, 0, []⟩, ⟨61, 0, []⟩, ⟨62, 0, []⟩] rfl rfl ?_
  refine d_q rfl rfl rfl rfl rfl ?_
  refine v_move rfl ?_
  refine v_nil ?_
  refine d_q rfl rfl rfl rfl rfl ?_
  refine v_nil_vw rfl ?_
  refine v_nil ?_
  refine d_q rfl rfl rfl rfl rfl ?_
  refine v_fa_vw (off' := 0) lay75 rfl rfl rfl ?_
  refine v_nil ?_
  refine d_callb (cJnS t.2.2.1[i].1 [.sl true t.2.2.1[i].2.1.length 1 (flat int t.2.2.1[i].2.1), .sl true t.2.2.1[i].2.2.1.length 1 (flat int t.2.2.1[i].2.2.1), .v (.int .i64 t.2.2.1[i].2.2.2)] (hF.2.2.1 _ (List.getElem_mem hi1))) rfl rfl rfl rfl (.cons vw_vw .nil) (fun h3 => ?_) (fun h3 => ?_)
  rotate_left
  · have hjn := h3
    refine d_q rfl rfl rfl rfl rfl ?_
    refine v_not true rfl rfl ?_
    refine v_nil ?_
    refine d_q rfl rfl rfl rfl rfl ?_
    refine v_move rfl ?_
    refine v_nil ?_
    refine d_off rfl rfl ?_
    refine d_off rfl rfl ?_
    refine d_off rfl rfl ?_
    refine d_off rfl rfl ?_
    refine d_off rfl rfl ?_
    refine d_off rfl rfl ?_
    refine d_off rfl rfl ?_
    refine d_off rfl rfl ?_
    refine d_off rfl rfl ?_
    refine d_off rfl rfl ?_
    refine d_off rfl rfl ?_
    refine d_q rfl rfl rfl rfl rfl ?_
    refine v_pick_t (v := .v (.bool true)) rfl rfl ?_
    refine v_nil ?_
    refine d_q rfl rfl rfl rfl rfl ?_
    refine v_move rfl ?_
    refine v_nil ?_
    refine d_off rfl rfl ?_
    refine d_off rfl rfl ?_
    refine d_off rfl rfl ?_
    refine d_off rfl rfl ?_
    refine d_off rfl rfl ?_
    refine d_off rfl rfl ?_
    refine d_off rfl rfl ?_
    refine d_off rfl rfl ?_
    refine d_off rfl rfl ?_
    refine d_off rfl rfl ?_
    refine d_off rfl rfl ?_
    refine d_q rfl rfl rfl rfl rfl ?_
    refine v_pick_t (v := .v (.bool true)) rfl rfl ?_
    refine v_nil ?_
    refine d_q rfl rfl rfl rfl rfl ?_
    refine v_move rfl ?_
    refine v_nil ?_
    refine d_off rfl rfl ?_
    refine d_off rfl rfl ?_
    refine d_off rfl rfl ?_
    refine d_off rfl rfl ?_
    refine d_off rfl rfl ?_
    refine d_off rfl rfl ?_
    refine d_off rfl rfl ?_
    refine d_q rfl rfl rfl rfl rfl ?_
    refine v_pick_t (v := .v (.bool true)) rfl rfl ?_
    refine v_nil ?_
    refine d_q rfl rfl rfl rfl rfl ?_
    refine v_move rfl ?_
    refine v_nil ?_
    refine d_off rfl rfl ?_
    refine d_off rfl rfl ?_
    refine d_off rfl rfl ?_
    refine d_off rfl rfl ?_
    refine d_off rfl rfl ?_
    refine d_off rfl rfl ?_
    refine d_off rfl rfl ?_
    refine d_q rfl rfl rfl rfl rfl ?_
    refine v_pick_t (v := .v (.bool true)) rfl rfl ?_
    refine v_nil ?_
    refine d_q rfl rfl rfl rfl rfl ?_
    refine v_move rfl ?_
    refine v_nil ?_
    refine d_off rfl rfl ?_
    refine d_off rfl rfl ?_
    refine d_off rfl rfl ?_
    refine d_off rfl rfl ?_
    refine d_off rfl rfl ?_
    refine d_off rfl rfl ?_
    refine d_off rfl rfl ?_
    refine d_off rfl rfl ?_
    refine d_off rfl rfl ?_
    refine d_off rfl rfl ?_
    refine d_off rfl rfl ?_
    refine d_off rfl rfl ?_
    refine d_q rfl rfl rfl rfl rfl ?_
    refine v_pick_t (v := .v (.bool true)) rfl rfl ?_
    refine v_nil ?_
    refine d_nil ?_
    refine q_n ?_
    refine w_t rfl ?_
    refine w_seq ?_
    refine w_reg rfl ?_
    refine v_move rfl ?_
    refine v_move rfl ?_
    refine v_assign rfl ?_
    refine v_assign rfl ?_
    refine v_assign (c := .v (.bool false)) rfl ?_
    refine v_nil ?_
    refine q_n ?_
    refine w_ret (q_br (q_r (q_r (q_br (q_r ?_)))))
    refine r_r rfl ?_
    have he : ends t.2.2.2.1.length t.2.2.1 (List.replicate t.1.length false) (List.replicate t.1.length false) = (a, b, false) := by
      rw [← hp]
      exact ends_0 hi1 fun h => hjn h.1
    rw [he]
    exact a_tup (.cons (a_flat2 bo_sc bo_len rfl rfl ha.symm ha) (.cons (a_flat2 bo_sc bo_len rfl rfl hb.symm hb) (.cons tr_v .nil)))
  have hjn := h3
  refine d_q rfl rfl rfl rfl rfl ?_
  refine v_not false rfl rfl ?_
  refine v_nil ?_
  refine d_q rfl rfl rfl rfl rfl ?_
  refine v_move rfl ?_
  refine v_nil ?_
  refine d_q rfl rfl rfl rfl rfl ?_
  refine v_move rfl ?_
  refine v_nil ?_
  refine d_q rfl rfl rfl rfl rfl ?_
  refine v_nil_vw rfl ?_
  refine v_nil ?_
  refine d_q rfl rfl rfl rfl rfl ?_
  refine v_fa_vw (off' := 22) lay75 rfl rfl rfl ?_
  refine v_nil ?_
  refine d_q rfl rfl rfl rfl rfl ?_
  refine v_load_vw (.c (_)) lay73 rfl rfl rfl ?_
  refine v_nil ?_
  refine d_q rfl rfl rfl rfl rfl ?_
  refine v_len_sl lay73 rfl ?_
  refine v_nil ?_
  refine d_q rfl rfl rfl rfl rfl ?_
  refine v_move rfl ?_
  refine v_nil ?_
  refine d_q rfl rfl rfl rfl rfl ?_
  refine v_nil_vw rfl ?_
  refine v_nil ?_
  refine d_q rfl rfl rfl rfl rfl ?_
  refine v_fa_vw (off' := 0) lay75 rfl rfl rfl ?_
  refine v_nil ?_
  refine d_q rfl rfl rfl rfl rfl ?_
  refine v_fa_vw (off' := 0) lay72 rfl rfl rfl ?_
  refine v_nil ?_
  refine d_q rfl rfl rfl rfl rfl ?_
  refine v_load_vw (.c (.v _)) lay2 rfl rfl rfl ?_
  refine v_nil ?_
  refine d_q rfl rfl rfl rfl rfl ?_
  refine v_neq lay2 rfl rfl (fun h4 => ?_) (fun h4 => ?_)
  · have hin := h4
    refine v_nil ?_
    refine d_q rfl rfl rfl rfl rfl ?_
    refine v_pick_f rfl rfl ?_
    refine v_nil ?_
    refine d_q rfl rfl rfl rfl rfl ?_
    refine v_move rfl ?_
    refine v_nil ?_
    refine d_off rfl rfl ?_
    refine d_off rfl rfl ?_
    refine d_off rfl rfl ?_
    refine d_off rfl rfl ?_
    refine d_off rfl rfl ?_
    refine d_off rfl rfl ?_
    refine d_off rfl rfl ?_
    refine d_off rfl rfl ?_
    refine d_off rfl rfl ?_
    refine d_off rfl rfl ?_
    refine d_off rfl rfl ?_
    refine d_q rfl rfl rfl rfl rfl ?_
    refine v_pick_t (v := .v (.bool true)) rfl rfl ?_
    refine v_nil ?_
    refine d_q rfl rfl rfl rfl rfl ?_
    refine v_move rfl ?_
    refine v_nil ?_
    refine d_off rfl rfl ?_
    refine d_off rfl rfl ?_
    refine d_off rfl rfl ?_
    refine d_off rfl rfl ?_
    refine d_off rfl rfl ?_
    refine d_off rfl rfl ?_
    refine d_off rfl rfl ?_
    refine d_q rfl rfl rfl rfl rfl ?_
    refine v_pick_t (v := .v (.bool true)) rfl rfl ?_
    refine v_nil ?_
    refine d_q rfl rfl rfl rfl rfl ?_
    refine v_move rfl ?_
    refine v_nil ?_
    refine d_off rfl rfl ?_
    refine d_off rfl rfl ?_
    refine d_off rfl rfl ?_
    refine d_off rfl rfl ?_
    refine d_off rfl rfl ?_
    refine d_off rfl rfl ?_
    refine d_off rfl rfl ?_
    refine d_q rfl rfl rfl rfl rfl ?_
    refine v_pick_t (v := .v (.bool true)) rfl rfl ?_
    refine v_nil ?_
    refine d_q rfl rfl rfl rfl rfl ?_
    refine v_move rfl ?_
    refine v_nil ?_
    refine d_off rfl rfl ?_
    refine d_off rfl rfl ?_
    refine d_off rfl rfl ?_
    refine d_off rfl rfl ?_
    refine d_off rfl rfl ?_
    refine d_off rfl rfl ?_
    refine d_off rfl rfl ?_
    refine d_off rfl rfl ?_
    refine d_off rfl rfl ?_
    refine d_off rfl rfl ?_
    refine d_off rfl rfl ?_
    refine d_off rfl rfl ?_
    refine d_q rfl rfl rfl rfl rfl ?_
    refine v_pick_t (v := .v (.bool true)) rfl rfl ?_
    refine v_nil ?_
    refine d_nil ?_
    refine q_n ?_
    refine w_t rfl ?_
    refine w_seq ?_
    refine w_reg rfl ?_
    refine v_move rfl ?_
    refine v_move rfl ?_
    refine v_assign rfl ?_
    refine v_assign rfl ?_
    refine v_assign (c := .v (.bool false)) rfl ?_
    refine v_nil ?_
    refine q_n ?_
    refine w_ret (q_br (q_r (q_r (q_br (q_r ?_)))))
    refine r_r rfl ?_
    have he : ends t.2.2.2.1.length t.2.2.1 (List.replicate t.1.length false) (List.replicate t.1.length false) = (a, b, false) := by
      rw [← hp]
      exact ends_0 hi1 fun h => by have := h.2.1; omega
    rw [he]
    exact a_tup (.cons (a_flat2 bo_sc bo_len rfl rfl ha.symm ha) (.cons (a_flat2 bo_sc bo_len rfl rfl hb.symm hb) (.cons tr_v .nil)))
  have hin := h4
  refine v_nil ?_
  refine d_q rfl rfl rfl rfl rfl ?_
  refine v_pick_f rfl rfl ?_
  refine v_nil ?_
  refine d_q rfl rfl rfl rfl rfl ?_
  refine v_move rfl ?_
  refine v_nil ?_
  refine d_q rfl rfl rfl rfl rfl ?_
  refine v_move rfl ?_
  refine v_nil ?_
  refine d_q rfl rfl rfl rfl rfl ?_
  refine v_nil_vw rfl ?_
  refine v_nil ?_
  refine d_q rfl rfl rfl rfl rfl ?_
  refine v_fa_vw (off' := 23) lay75 rfl rfl rfl ?_
  refine v_nil ?_
  refine d_q rfl rfl rfl rfl rfl ?_
  refine v_load_vw (.c (_)) lay73 rfl rfl rfl ?_
  refine v_nil ?_
  refine d_q rfl rfl rfl rfl rfl ?_
  refine v_len_sl lay73 rfl ?_
  refine v_nil ?_
  refine d_q rfl rfl rfl rfl rfl ?_
  refine v_move rfl ?_
  refine v_nil ?_
  refine d_q rfl rfl rfl rfl rfl ?_
  refine v_nil_vw rfl ?_
  refine v_nil ?_
  refine d_q rfl rfl rfl rfl rfl ?_
  refine v_fa_vw (off' := 0) lay75 rfl rfl rfl ?_
  refine v_nil ?_
  refine d_q rfl rfl rfl rfl rfl ?_
  refine v_fa_vw (off' := 1) lay72 rfl rfl rfl ?_
  refine v_nil ?_
  refine d_q rfl rfl rfl rfl rfl ?_
  refine v_load_vw (.c (.v _)) lay2 rfl rfl rfl ?_
  refine v_nil ?_
  refine d_q rfl rfl rfl rfl rfl ?_
  refine v_neq lay2 rfl rfl (fun h5 => ?_) (fun h5 => ?_)
  · have hot := h5
    refine v_nil ?_
    refine d_q rfl rfl rfl rfl rfl ?_
    refine v_pick_f rfl rfl ?_
    refine v_nil ?_
    refine d_q rfl rfl rfl rfl rfl ?_
    refine v_move rfl ?_
    refine v_nil ?_
    refine d_off rfl rfl ?_
    refine d_off rfl rfl ?_
    refine d_off rfl rfl ?_
    refine d_off rfl rfl ?_
    refine d_off rfl rfl ?_
    refine d_off rfl rfl ?_
    refine d_off rfl rfl ?_
    refine d_q rfl rfl rfl rfl rfl ?_
    refine v_pick_t (v := .v (.bool true)) rfl rfl ?_
    refine v_nil ?_
    refine d_q rfl rfl rfl rfl rfl ?_
    refine v_move rfl ?_
    refine v_nil ?_
    refine d_off rfl rfl ?_
    refine d_off rfl rfl ?_
    refine d_off rfl rfl ?_
    refine d_off rfl rfl ?_
    refine d_off rfl rfl ?_
    refine d_off rfl rfl ?_
    refine d_off rfl rfl ?_
    refine d_q rfl rfl rfl rfl rfl ?_
    refine v_pick_t (v := .v (.bool true)) rfl rfl ?_
    refine v_nil ?_
    refine d_q rfl rfl rfl rfl rfl ?_
    refine v_move rfl ?_
    refine v_nil ?_
    refine d_off rfl rfl ?_
    refine d_off rfl rfl ?_
    refine d_off rfl rfl ?_
    refine d_off rfl rfl ?_
    refine d_off rfl rfl ?_
    refine d_off rfl rfl ?_
    refine d_off rfl rfl ?_
    refine d_off rfl rfl ?_
    refine d_off rfl rfl ?_
    refine d_off rfl rfl ?_
    refine d_off rfl rfl ?_
    refine d_off rfl rfl ?_
    refine d_q rfl rfl rfl rfl rfl ?_
    refine v_pick_t (v := .v (.bool true)) rfl rfl ?_
    refine v_nil ?_
    refine d_nil ?_
    refine q_n ?_
    refine w_t rfl ?_
    refine w_seq ?_
    refine w_reg rfl ?_
    refine v_move rfl ?_
    refine v_move rfl ?_
    refine v_assign rfl ?_
    refine v_assign rfl ?_
    refine v_assign (c := .v (.bool false)) rfl ?_
    refine v_nil ?_
    refine q_n ?_
    refine w_ret (q_br (q_r (q_r (q_br (q_r ?_)))))
    refine r_r rfl ?_
    have he : ends t.2.2.2.1.length t.2.2.1 (List.replicate t.1.length false) (List.replicate t.1.length false) = (a, b, false) := by
      rw [← hp]
      exact ends_0 hi1 fun h => by have := h.2.2; omega
    rw [he]
    exact a_tup (.cons (a_flat2 bo_sc bo_len rfl rfl ha.symm ha) (.cons (a_flat2 bo_sc bo_len rfl rfl hb.symm hb) (.cons tr_v .nil)))
  have hot := h5
  refine v_nil ?_
  refine d_q rfl rfl rfl rfl rfl ?_
  refine v_pick_f rfl rfl ?_
  refine v_nil ?_
  refine d_q rfl rfl rfl rfl rfl ?_
  refine v_move rfl ?_
  refine v_nil ?_
  refine d_q rfl rfl rfl rfl rfl ?_
  refine v_move rfl ?_
  refine v_nil ?_
  refine d_q rfl rfl rfl rfl rfl ?_
  refine v_nil_vw rfl ?_
  refine v_nil ?_
  refine d_q rfl rfl rfl rfl rfl ?_
  refine v_fa_vw (off' := 22) lay75 rfl rfl rfl ?_
  refine v_nil ?_
  refine d_q rfl rfl rfl rfl rfl ?_
  refine v_load_vw (.c (_)) lay73 rfl rfl rfl ?_
  refine v_nil ?_
  refine d_q rfl rfl rfl rfl rfl ?_
  refine v_move rfl ?_
  refine v_nil ?_
  refine dec_split (p := (usd t.2.2.1[i].2.1 a).1 = true) (fun h6 => ?_) (fun h6 => ?_)
  rotate_left
  · refine d_id ?_
    have hu1 := h6
    refine d_det (H' := [_, _]) (usd0 (by have := hB.2.2.2.1 _ (List.getElem_mem hi1); omega) ha (by have := hB.1; omega) (by simpa using h6)) rfl rfl rfl rfl again_nil ?_
    refine d_q rfl rfl rfl rfl rfl ?_
    refine v_not true rfl rfl ?_
    refine v_nil ?_
    refine d_q rfl rfl rfl rfl rfl ?_
    refine v_pick_f rfl rfl ?_
    refine v_nil ?_
    refine d_q rfl rfl rfl rfl rfl ?_
    refine v_move rfl ?_
    refine v_nil ?_
    refine d_off rfl rfl ?_
    refine d_off rfl rfl ?_
    refine d_off rfl rfl ?_
    refine d_off rfl rfl ?_
    refine d_off rfl rfl ?_
    refine d_off rfl rfl ?_
    refine d_off rfl rfl ?_
    refine d_q rfl rfl rfl rfl rfl ?_
    refine v_pick_t (v := .v (.bool true)) rfl rfl ?_
    refine v_nil ?_
    refine d_q rfl rfl rfl rfl rfl ?_
    refine v_move rfl ?_
    refine v_nil ?_
    refine d_off rfl rfl ?_
    refine d_off rfl rfl ?_
    refine d_off rfl rfl ?_
    refine d_off rfl rfl ?_
    refine d_off rfl rfl ?_
    refine d_off rfl rfl ?_
    refine d_off rfl rfl ?_
    refine d_off rfl rfl ?_
    refine d_off rfl rfl ?_
    refine d_off rfl rfl ?_
    refine d_off rfl rfl ?_
    refine d_off rfl rfl ?_
    refine d_q rfl rfl rfl rfl rfl ?_
    refine v_pick_t (v := .v (.bool true)) rfl rfl ?_
    refine v_nil ?_
    refine d_nil ?_
    refine q_n ?_
    refine w_t rfl ?_
    refine w_seq ?_
    refine w_reg rfl ?_
    refine v_move rfl ?_
    refine v_move rfl ?_
    refine v_assign rfl ?_
    refine v_assign rfl ?_
    refine v_assign (c := .v (.bool false)) rfl ?_
    refine v_nil ?_
    refine q_n ?_
    refine w_ret (q_br (q_r (q_r (q_br (q_r ?_)))))
    refine r_r rfl ?_
    have he : ends t.2.2.2.1.length t.2.2.1 (List.replicate t.1.length false) (List.replicate t.1.length false) = ((usd t.2.2.1[i].2.1 a).2, b, false) := by
      rw [← hp]
      exact ends_1 hi1 ⟨hjn, by omega, by omega⟩ hu1
    rw [he]
    exact a_tup (.cons (a_flat2 bo_sc bo_len rfl rfl (by rw [usd_len]; exact ha.symm) (by rw [usd_len]; exact ha)) (.cons (a_flat2 bo_sc bo_len rfl rfl hb.symm hb) (.cons tr_v .nil)))
  refine d_id ?_
  have hu1 := h6
  refine d_det (H' := [_, _]) (usd0 (by have := hB.2.2.2.1 _ (List.getElem_mem hi1); omega) ha (by have := hB.1; omega) h6) rfl rfl rfl rfl again_nil ?_
  refine d_q rfl rfl rfl rfl rfl ?_
  refine v_not false rfl rfl ?_
  refine v_nil ?_
  refine d_q rfl rfl rfl rfl rfl ?_
  refine v_pick_f rfl rfl ?_
  refine v_nil ?_
  refine d_q rfl rfl rfl rfl rfl ?_
  refine v_move rfl ?_
  refine v_nil ?_
  refine d_q rfl rfl rfl rfl rfl ?_
  refine v_move rfl ?_
  refine v_nil ?_
  refine d_q rfl rfl rfl rfl rfl ?_
  refine v_nil_vw rfl ?_
  refine v_nil ?_
  refine d_q rfl rfl rfl rfl rfl ?_
  refine v_fa_vw (off' := 23) lay75 rfl rfl rfl ?_
  refine v_nil ?_
  refine d_q rfl rfl rfl rfl rfl ?_
  refine v_load_vw (.c (_)) lay73 rfl rfl rfl ?_
  refine v_nil ?_
  refine d_q rfl rfl rfl rfl rfl ?_
  refine v_move rfl ?_
  refine v_nil ?_
  refine dec_split (p := (usd t.2.2.1[i].2.2.1 b).1 = true) (fun h7 => ?_) (fun h7 => ?_)
  rotate_left
  · refine d_id ?_
    have hu2 := h7
    refine d_det (H' := [_, _]) (usd1 (by have := hB.2.2.2.1 _ (List.getElem_mem hi1); omega) hb (by have := hB.1; omega) (by simpa using h7)) rfl rfl rfl rfl again_nil ?_
    refine d_q rfl rfl rfl rfl rfl ?_
    refine v_not true rfl rfl ?_
    refine v_nil ?_
    refine d_q rfl rfl rfl rfl rfl ?_
    refine v_pick_f rfl rfl ?_
    refine v_nil ?_
    refine d_q rfl rfl rfl rfl rfl ?_
    refine v_move rfl ?_
    refine v_nil ?_
    refine d_off rfl rfl ?_
    refine d_off rfl rfl ?_
    refine d_off rfl rfl ?_
    refine d_off rfl rfl ?_
    refine d_off rfl rfl ?_
    refine d_off rfl rfl ?_
    refine d_off rfl rfl ?_
    refine d_off rfl rfl ?_
    refine d_off rfl rfl ?_
    refine d_off rfl rfl ?_
    refine d_off rfl rfl ?_
    refine d_off rfl rfl ?_
    refine d_q rfl rfl rfl rfl rfl ?_
    refine v_pick_t (v := .v (.bool true)) rfl rfl ?_
    refine v_nil ?_
    refine d_nil ?_
    refine q_n ?_
    refine w_t rfl ?_
    refine w_seq ?_
    refine w_reg rfl ?_
    refine v_move rfl ?_
    refine v_move rfl ?_
    refine v_assign rfl ?_
    refine v_assign rfl ?_
    refine v_assign (c := .v (.bool false)) rfl ?_
    refine v_nil ?_
    refine q_n ?_
    refine w_ret (q_br (q_r (q_r (q_br (q_r ?_)))))
    refine r_r rfl ?_
    have he : ends t.2.2.2.1.length t.2.2.1 (List.replicate t.1.length false) (List.replicate t.1.length false) = ((usd t.2.2.1[i].2.1 a).2, (usd t.2.2.1[i].2.2.1 b).2, false) := by
      rw [← hp]
      exact ends_2 hi1 ⟨hjn, by omega, by omega⟩ hu1 hu2
    rw [he]
    exact a_tup (.cons (a_flat2 bo_sc bo_len rfl rfl (by rw [usd_len]; exact ha.symm) (by rw [usd_len]; exact ha)) (.cons (a_flat2 bo_sc bo_len rfl rfl (by rw [usd_len]; exact hb.symm) (by rw [usd_len]; exact hb)) (.cons tr_v .nil)))
  refine d_id ?_
  have hu2 := h7
  refine d_det (H' := [_, _]) (usd1 (by have := hB.2.2.2.1 _ (List.getElem_mem hi1); omega) hb (by have := hB.1; omega) h7) rfl rfl rfl rfl again_nil ?_
  refine d_q rfl rfl rfl rfl rfl ?_
  refine v_not false rfl rfl ?_
  refine v_nil ?_
  refine d_q rfl rfl rfl rfl rfl ?_
  refine v_pick_f rfl rfl ?_
  refine v_nil ?_
  refine d_q rfl rfl rfl rfl rfl ?_
  refine v_move rfl ?_
  refine v_nil ?_
  refine d_q rfl rfl rfl rfl rfl ?_
  refine v_move rfl ?_
  refine v_nil ?_
  refine d_q rfl rfl rfl rfl rfl ?_
  refine v_nil_vw rfl ?_
  refine v_nil ?_
  refine d_q rfl rfl rfl rfl rfl ?_
  refine v_fa_vw (off' := 24) lay75 rfl rfl rfl ?_
  refine v_nil ?_
  refine d_q rfl rfl rfl rfl rfl ?_
  refine v_load_vw (.c (.v _)) lay2 rfl rfl rfl ?_
  refine v_nil ?_
  refine d_q rfl rfl rfl rfl rfl ?_
  refine v_move rfl ?_
  refine v_nil ?_
  refine d_q rfl rfl rfl rfl rfl ?_
  refine v_nil_vw rfl ?_
  refine v_nil ?_
  refine d_q rfl rfl rfl rfl rfl ?_
  refine v_fa_vw (off' := 3) lay35 rfl rfl rfl ?_
  refine v_nil ?_
  refine d_q rfl rfl rfl rfl rfl ?_
  refine v_load_vw (.c (_)) lay33 rfl rfl rfl ?_
  refine v_nil ?_
  refine d_q rfl rfl rfl rfl rfl ?_
  refine v_len_sl lay33 rfl ?_
  refine v_nil ?_
  refine d_q rfl rfl rfl rfl rfl ?_
  refine v_sub lay2 rfl rfl (i64r (by have q1 := hB.2.2.2.2.1; have q2 := hB.2.2.1; omega)) ?_
  refine v_nil ?_
  refine d_callb (cIn _ _ _) rfl rfl rfl rfl (.cons vw_v (.cons vw_v (.cons vw_v .nil))) (fun h8 => ?_) (fun h8 => ?_)
  · have hpl := h8
    refine d_q rfl rfl rfl rfl rfl ?_
    refine v_not false rfl rfl ?_
    refine v_nil ?_
    refine d_q rfl rfl rfl rfl rfl ?_
    refine v_pick_f rfl rfl ?_
    refine v_nil ?_
    refine d_nil ?_
    refine q_n ?_
    refine w_f rfl ?_
    refine w_skip ?_
    refine q_bn ?_
    refine q_n ?_
    refine w_reg rfl ?_
    refine v_move rfl ?_
    refine v_add lay3 rfl rfl (i64r (by have q1 := hB.2.2.2.2.1; have q2 := hB.2.2.1; omega)) ?_
    refine v_assign rfl ?_
    refine v_nil ?_
    refine q_n ?_
    rw [ends_4 hi1 ⟨hjn, by omega, by omega⟩ hu1 hu2 hpl] at hp
    refine ⟨_, _, _, ?_, ⟨i + 1, _, _, rfl, by omega, hp, by rw [usd_len]; exact ha, by rw [usd_len]; exact hb, rfl, rfl⟩, by omega⟩
    exact turn [some 0, some 1] rfl rfl rfl ⟨⟨_, rfl, trc_flat bo_sc rfl⟩, ⟨_, rfl, trc_flat bo_sc rfl⟩, trivial⟩ ⟨tr_vw, tr_mu rfl, tr_mu rfl, tr_v, trivial⟩
  have hpl := h8
  refine d_q rfl rfl rfl rfl rfl ?_
  refine v_not true rfl rfl ?_
  refine v_nil ?_
  refine d_q rfl rfl rfl rfl rfl ?_
  refine v_pick_f rfl rfl ?_
  refine v_nil ?_
  refine d_nil ?_
  refine q_n ?_
  refine w_t rfl ?_
  refine w_seq ?_
  refine w_reg rfl ?_
  refine v_move rfl ?_
  refine v_move rfl ?_
  refine v_assign rfl ?_
  refine v_assign rfl ?_
  refine v_assign (c := .v (.bool false)) rfl ?_
  refine v_nil ?_
  refine q_n ?_
  refine w_ret (q_br (q_r (q_r (q_br (q_r ?_)))))
  refine r_r rfl ?_
  have he : ends t.2.2.2.1.length t.2.2.1 (List.replicate t.1.length false) (List.replicate t.1.length false) = ((usd t.2.2.1[i].2.1 a).2, (usd t.2.2.1[i].2.2.1 b).2, false) := by
    rw [← hp]
    exact ends_3 hi1 ⟨hjn, by omega, by omega⟩ hu1 hu2 hpl
  rw [he]
  exact a_tup (.cons (a_flat2 bo_sc bo_len rfl rfl (by rw [usd_len]; exact ha.symm) (by rw [usd_len]; exact ha)) (.cons (a_flat2 bo_sc bo_len rfl rfl (by rw [usd_len]; exact hb.symm) (by rw [usd_len]; exact hb)) (.cons tr_v .nil)))
end Go.VL
namespace Go.VL
open Go.RowKit
set_option maxRecDepth 20000
set_option maxHeartbeats 8000000
/-- What the joints of a town tell. -/
abbrev endT (t : Tw) : List Bool × List Bool × Bool := ends t.2.2.2.1.length t.2.2.1 (List.replicate t.1.length false) (List.replicate t.1.length false)
/-- A road of a town, and what is offered to it. -/
def rOkT (t : Tw) (i : Nat) : Prop := roadOk (t.1.getD i zR) ∧ amtB (t.2.1.getD i none) = true ∧ ((endT t).2.1.getD i false = true → feq (t.2.1.getD i none))
instance (t : Tw) (i : Nat) : Decidable (rOkT t i) := by unfold rOkT; infer_instance
def tBnd (t : Tw) : Prop := (1 ≤ (t.1.length : Int) ∧ (t.1.length : Int) ≤ 8) ∧ t.2.1.length = t.1.length ∧ t.2.2.1.length ≤ 4 ∧ t.2.2.2.1.length ≤ 6
instance (t : Tw) : Decidable (tBnd t) := by unfold tBnd; infer_instance
/-- A town that is valid, as the reference looks at it. -/
def townOk (t : Tw) : Prop := tBnd t ∧ ((endT t).2.2 = true ∧ (∀ i, i < t.1.length → rOkT t i) ∧ ∀ p ∈ t.2.2.2.1, okP p.1 p.2.1 p.2.2) ∧ (0 ≤ t.2.2.2.2.1 ∧ t.2.2.2.2.1 ≤ 1000000000) ∧ amtB t.2.2.2.2.2.1 = true ∧ amtB t.2.2.2.2.2.2 = true
instance (t : Tw) : Decidable (townOk t) := by unfold townOk; infer_instance
theorem ends_len {np : Nat} : ∀ {js : List Jo} {a b : List Bool}, (ends np js a b).2.1.length = b.length
  | [], a, b => rfl
  | j :: r, a, b => by
    unfold ends
    split
    · split
      · split
        · split
          · rw [ends_len, usd_len]
          · exact usd_len
        · exact usd_len
      · rfl
    · rfl
theorem endT_len (t : Tw) : (endT t).2.1.length = t.1.length := by rw [ends_len, List.length_replicate]
theorem gd {α : Type} {xs : List α} {i : Nat} {d : α} (h : i < xs.length) : xs.getD i d = xs[i] := by
  rw [List.getD_eq_getElem?_getD, List.getElem?_eq_getElem h]
  rfl
theorem rok_of {t : Tw} {i : Nat} (h1 : i < t.1.length) (h2 : i < t.2.1.length) (h3 : i < (endT t).2.1.length) (ha : roadOk t.1[i]) (hb : amtB t.2.1[i] = true) (hc : (endT t).2.1[i] = true → feq t.2.1[i]) : rOkT t i := by
  unfold rOkT
  rw [gd h1, gd h2, gd h3]
  exact ⟨ha, hb, hc⟩
theorem rok_no {t : Tw} {i : Nat} (h1 : i < t.1.length) (h2 : i < t.2.1.length) (h3 : i < (endT t).2.1.length) (h : ¬ (roadOk t.1[i] ∧ amtB t.2.1[i] = true ∧ ((endT t).2.1[i] = true → feq t.2.1[i]))) : ¬ townOk t := fun ho => by
  have := ho.2.1.2.1 i h1
  unfold rOkT at this
  rw [gd h1, gd h2, gd h3] at this
  exact h this
theorem cTwS (t : Tw) (hB : tB (2 ^ 20) t) (hF : tF t) : PureC X 18 [.c (.vw false (twf true t) 0)] (cB (decide (townOk t))) := by
  refine PureC.of_body (drawD_ok X) (fun _ _ => Go.Proofs.Tryz.call18 _ _) Go.Proofs.Tryz.func18 rfl (n := 137) rfl ?_
  refine w_seq ?_
  refine w_reg rfl ?_
  refine v_assign (c := .v (.bool false)) rfl ?_
  refine v_nil ?_
  refine q_n ?_
  refine w_seq ?_
  refine w_seq ?_
  refine w_draw [0, 1, 3, 7, 15, 31, 63, 127, 255, 511, 1023, 2047, 4095, 255, 8447, 24831, 57599, 123135, 262143, 524287, 1048575, 2097151, 4194303, 8388607, 16777215, 33554431, 67108863, 134217727, 268435455, 536870911, 1073741823, 2147483647, 4294967295, 8589934591, 17179869183, 34359738367] [⟨0, 0, []⟩, ⟨1, 0, []⟩, ⟨2, 0, []⟩, ⟨3, 0, []⟩, ⟨4, 0, []⟩, ⟨5, 0, []⟩, ⟨6, 0, []⟩, ⟨7, 0, []⟩, ⟨8, 0, []⟩, ⟨9, 0, []⟩, ⟨10, 0, []⟩, ⟨11, 0, []⟩, ⟨12, 0, []⟩, ⟨13, 0, []⟩, ⟨14, 0, []⟩, ⟨15, 0, []⟩, ⟨16, 0, []⟩, ⟨17, 0, []⟩, ⟨18, 0, []⟩, ⟨19, 0, []⟩, ⟨20, 0, []⟩, ⟨21, 0, []⟩, ⟨22, 0, []⟩, ⟨23, 0, []⟩, ⟨24, 0, []⟩, ⟨25, 0, []⟩, ⟨26, 0, []⟩, ⟨27, 0, []⟩, ⟨28, 0, []⟩, ⟨29, 0, []⟩, ⟨30, 0, []⟩, ⟨31, 0, []⟩, ⟨32, 0, []⟩, ⟨33, 0, []⟩, ⟨34, 0, []⟩, ⟨35, 0, []⟩] rfl rfl ?_
  refine d_q rfl rfl rfl rfl rfl ?_
  refine v_move rfl ?_
  refine v_nil ?_
  refine d_q rfl rfl rfl rfl rfl ?_
  refine v_nil_vw rfl ?_
  refine v_nil ?_
  refine d_q rfl rfl rfl rfl rfl ?_
  refine v_fa_vw (off' := 0) lay35 rfl rfl rfl ?_
  refine v_nil ?_
  refine d_q rfl rfl rfl rfl rfl ?_
  refine v_load_vw (.c (_)) lay31 rfl rfl rfl ?_
  refine v_nil ?_
  refine d_q rfl rfl rfl rfl rfl ?_
  refine v_len_sl lay31 rfl ?_
  refine v_nil ?_
  refine d_callb (cIn _ _ _) rfl rfl rfl rfl (.cons vw_v (.cons vw_v (.cons vw_v .nil))) (fun h1 => ?_) (fun h1 => ?_)
  rotate_left
  · have hbn : ¬ tBnd t := fun hb => by unfold tBnd at hb; omega
    refine d_q rfl rfl rfl rfl rfl ?_
    refine v_not true rfl rfl ?_
    refine v_nil ?_
    refine d_q rfl rfl rfl rfl rfl ?_
    refine v_move rfl ?_
    refine v_nil ?_
    refine d_off rfl rfl ?_
    refine d_off rfl rfl ?_
    refine d_off rfl rfl ?_
    refine d_off rfl rfl ?_
    refine d_off rfl rfl ?_
    refine d_off rfl rfl ?_
    refine d_off rfl rfl ?_
    refine d_off rfl rfl ?_
    refine d_off rfl rfl ?_
    refine d_off rfl rfl ?_
    refine d_off rfl rfl ?_
    refine d_q rfl rfl rfl rfl rfl ?_
    refine v_pick_t (v := .v (.bool true)) rfl rfl ?_
    refine v_nil ?_
    refine d_q rfl rfl rfl rfl rfl ?_
    refine v_move rfl ?_
    refine v_nil ?_
    refine d_off rfl rfl ?_
    refine d_off rfl rfl ?_
    refine d_off rfl rfl ?_
    refine d_off rfl rfl ?_
    refine d_off rfl rfl ?_
    refine d_off rfl rfl ?_
    refine d_q rfl rfl rfl rfl rfl ?_
    refine v_pick_t (v := .v (.bool true)) rfl rfl ?_
    refine v_nil ?_
    refine d_q rfl rfl rfl rfl rfl ?_
    refine v_move rfl ?_
    refine v_nil ?_
    refine d_off rfl rfl ?_
    refine d_off rfl rfl ?_
    refine d_off rfl rfl ?_
    refine d_off rfl rfl ?_
    refine d_off rfl rfl ?_
    refine d_off rfl rfl ?_
    refine d_q rfl rfl rfl rfl rfl ?_
    refine v_pick_t (v := .v (.bool true)) rfl rfl ?_
    refine v_nil ?_
    refine d_nil ?_
    refine q_n ?_
    refine w_t rfl ?_
    refine w_seq ?_
    refine w_reg rfl ?_
    refine v_assign (c := .v (.bool false)) rfl ?_
    refine v_nil ?_
    refine q_n ?_
    refine w_ret (q_r ?_)
    refine r_r rfl ?_
    exact a_b (by simp only [Bool.false_eq_true, false_iff]; exact fun ho => hbn ho.1)
  refine d_q rfl rfl rfl rfl rfl ?_
  refine v_not false rfl rfl ?_
  refine v_nil ?_
  refine d_q rfl rfl rfl rfl rfl ?_
  refine v_move rfl ?_
  refine v_nil ?_
  refine d_q rfl rfl rfl rfl rfl ?_
  refine v_move rfl ?_
  refine v_nil ?_
  refine d_q rfl rfl rfl rfl rfl ?_
  refine v_nil_vw rfl ?_
  refine v_nil ?_
  refine d_q rfl rfl rfl rfl rfl ?_
  refine v_fa_vw (off' := 1) lay35 rfl rfl rfl ?_
  refine v_nil ?_
  refine d_q rfl rfl rfl rfl rfl ?_
  refine v_load_vw (.c (_)) lay23 rfl rfl rfl ?_
  refine v_nil ?_
  refine d_q rfl rfl rfl rfl rfl ?_
  refine v_len_sl lay23 rfl ?_
  refine v_nil ?_
  refine d_q rfl rfl rfl rfl rfl ?_
  refine v_move rfl ?_
  refine v_nil ?_
  refine d_q rfl rfl rfl rfl rfl ?_
  refine v_nil_vw rfl ?_
  refine v_nil ?_
  refine d_q rfl rfl rfl rfl rfl ?_
  refine v_fa_vw (off' := 0) lay35 rfl rfl rfl ?_
  refine v_nil ?_
  refine d_q rfl rfl rfl rfl rfl ?_
  refine v_load_vw (.c (_)) lay31 rfl rfl rfl ?_
  refine v_nil ?_
  refine d_q rfl rfl rfl rfl rfl ?_
  refine v_len_sl lay31 rfl ?_
  refine v_nil ?_
  refine d_q rfl rfl rfl rfl rfl ?_
  refine v_neq lay3 rfl rfl (fun h2 => ?_) (fun h2 => ?_)
  · have hbn : ¬ tBnd t := fun hb => by unfold tBnd at hb; omega
    refine v_nil ?_
    refine d_q rfl rfl rfl rfl rfl ?_
    refine v_pick_f rfl rfl ?_
    refine v_nil ?_
    refine d_q rfl rfl rfl rfl rfl ?_
    refine v_move rfl ?_
    refine v_nil ?_
    refine d_off rfl rfl ?_
    refine d_off rfl rfl ?_
    refine d_off rfl rfl ?_
    refine d_off rfl rfl ?_
    refine d_off rfl rfl ?_
    refine d_off rfl rfl ?_
    refine d_q rfl rfl rfl rfl rfl ?_
    refine v_pick_t (v := .v (.bool true)) rfl rfl ?_
    refine v_nil ?_
    refine d_q rfl rfl rfl rfl rfl ?_
    refine v_move rfl ?_
    refine v_nil ?_
    refine d_off rfl rfl ?_
    refine d_off rfl rfl ?_
    refine d_off rfl rfl ?_
    refine d_off rfl rfl ?_
    refine d_off rfl rfl ?_
    refine d_off rfl rfl ?_
    refine d_q rfl rfl rfl rfl rfl ?_
    refine v_pick_t (v := .v (.bool true)) rfl rfl ?_
    refine v_nil ?_
    refine d_nil ?_
    refine q_n ?_
    refine w_t rfl ?_
    refine w_seq ?_
    refine w_reg rfl ?_
    refine v_assign (c := .v (.bool false)) rfl ?_
    refine v_nil ?_
    refine q_n ?_
    refine w_ret (q_r ?_)
    refine r_r rfl ?_
    exact a_b (by simp only [Bool.false_eq_true, false_iff]; exact fun ho => hbn ho.1)
  refine v_nil ?_
  refine d_q rfl rfl rfl rfl rfl ?_
  refine v_pick_f rfl rfl ?_
  refine v_nil ?_
  refine d_q rfl rfl rfl rfl rfl ?_
  refine v_move rfl ?_
  refine v_nil ?_
  refine d_q rfl rfl rfl rfl rfl ?_
  refine v_move rfl ?_
  refine v_nil ?_
  refine d_q rfl rfl rfl rfl rfl ?_
  refine v_nil_vw rfl ?_
  refine v_nil ?_
  refine d_q rfl rfl rfl rfl rfl ?_
  refine v_fa_vw (off' := 2) lay35 rfl rfl rfl ?_
  refine v_nil ?_
  refine d_q rfl rfl rfl rfl rfl ?_
  refine v_load_vw (.c (_)) lay32 rfl rfl rfl ?_
  refine v_nil ?_
  refine d_q rfl rfl rfl rfl rfl ?_
  refine v_len_sl lay32 rfl ?_
  refine v_nil ?_
  refine d_q rfl rfl rfl rfl rfl ?_
  refine v_gtr lay3 rfl rfl (fun h3 => ?_) (fun h3 => ?_)
  · have hbn : ¬ tBnd t := fun hb => by unfold tBnd at hb; omega
    refine v_nil ?_
    refine d_q rfl rfl rfl rfl rfl ?_
    refine v_pick_f rfl rfl ?_
    refine v_nil ?_
    refine d_q rfl rfl rfl rfl rfl ?_
    refine v_move rfl ?_
    refine v_nil ?_
    refine d_off rfl rfl ?_
    refine d_off rfl rfl ?_
    refine d_off rfl rfl ?_
    refine d_off rfl rfl ?_
    refine d_off rfl rfl ?_
    refine d_off rfl rfl ?_
    refine d_q rfl rfl rfl rfl rfl ?_
    refine v_pick_t (v := .v (.bool true)) rfl rfl ?_
    refine v_nil ?_
    refine d_nil ?_
    refine q_n ?_
    refine w_t rfl ?_
    refine w_seq ?_
    refine w_reg rfl ?_
    refine v_assign (c := .v (.bool false)) rfl ?_
    refine v_nil ?_
    refine q_n ?_
    refine w_ret (q_r ?_)
    refine r_r rfl ?_
    exact a_b (by simp only [Bool.false_eq_true, false_iff]; exact fun ho => hbn ho.1)
  refine v_nil ?_
  refine d_q rfl rfl rfl rfl rfl ?_
  refine v_pick_f rfl rfl ?_
  refine v_nil ?_
  refine d_q rfl rfl rfl rfl rfl ?_
  refine v_move rfl ?_
  refine v_nil ?_
  refine d_q rfl rfl rfl rfl rfl ?_
  refine v_move rfl ?_
  refine v_nil ?_
  refine d_q rfl rfl rfl rfl rfl ?_
  refine v_nil_vw rfl ?_
  refine v_nil ?_
  refine d_q rfl rfl rfl rfl rfl ?_
  refine v_fa_vw (off' := 3) lay35 rfl rfl rfl ?_
  refine v_nil ?_
  refine d_q rfl rfl rfl rfl rfl ?_
  refine v_load_vw (.c (_)) lay33 rfl rfl rfl ?_
  refine v_nil ?_
  refine d_q rfl rfl rfl rfl rfl ?_
  refine v_len_sl lay33 rfl ?_
  refine v_nil ?_
  refine d_q rfl rfl rfl rfl rfl ?_
  refine v_gtr lay3 rfl rfl (fun h4 => ?_) (fun h4 => ?_)
  · have hbn : ¬ tBnd t := fun hb => by unfold tBnd at hb; omega
    refine v_nil ?_
    refine d_q rfl rfl rfl rfl rfl ?_
    refine v_pick_f rfl rfl ?_
    refine v_nil ?_
    refine d_nil ?_
    refine q_n ?_
    refine w_t rfl ?_
    refine w_seq ?_
    refine w_reg rfl ?_
    refine v_assign (c := .v (.bool false)) rfl ?_
    refine v_nil ?_
    refine q_n ?_
    refine w_ret (q_r ?_)
    refine r_r rfl ?_
    exact a_b (by simp only [Bool.false_eq_true, false_iff]; exact fun ho => hbn ho.1)
  have hbn : tBnd t := ⟨by omega, by omega, by omega, by omega⟩
  refine v_nil ?_
  refine d_q rfl rfl rfl rfl rfl ?_
  refine v_pick_f rfl rfl ?_
  refine v_nil ?_
  refine d_nil ?_
  refine q_n ?_
  refine w_f rfl ?_
  refine w_skip ?_
  refine q_n ?_
  refine w_seq ?_
  refine w_reg rfl ?_
  refine v_move rfl ?_
  refine v_call (cEnds t hB hF) rfl rfl rfl (.cons vw_vw .nil) ?_
  refine v_move_t rfl ?_
  refine v_extract_c rfl rfl ?_
  refine v_extract_c rfl rfl ?_
  refine v_extract_c rfl rfl ?_
  refine v_assign rfl ?_
  refine v_assign rfl ?_
  refine v_assign rfl ?_
  refine v_nil ?_
  refine q_n ?_
  refine w_seq ?_
  refine w_seq ?_
  refine w_reg rfl ?_
  refine v_assign (c := .v (.int .i64 0)) rfl ?_
  refine v_nil ?_
  refine q_n ?_
  refine w_block ?_
  refine w_loop (fun k sl H => ∃ (i : Nat) (acc : Bool), k = t.1.length - i ∧ i ≤ t.1.length ∧ (acc = true → (endT t).2.2 = true ∧ ∀ q, q < i → rOkT t q) ∧ (acc = false → ¬ townOk t) ∧ sl = sls [(0, .c (.vw false (twf true t) 0)), (4, .c (bls true (endT t).2.1)), (5, cB acc), (6, cI i)] ∧ H = []) ?_ ?_
  · refine ⟨_, _, _, ?_, 0, (endT t).2.2, rfl, Nat.zero_le _, fun h => ⟨h, fun q hq => by omega⟩, (fun h ho => by have := ho.2.1.1; rw [h] at this; cases this), rfl, rfl⟩
    exact turn0 ⟨tr_vw, tr_sl, tr_v, tr_v, trivial⟩
  rintro k sl H ⟨i, acc, rfl, hi, hA, hN, rfl, rfl⟩
  rcases acc with _ | _
  · skip
    refine w_seq ?_
    refine w_seq ?_
    refine w_reg rfl ?_
    refine v_move rfl ?_
    refine v_move rfl ?_
    refine v_nil_vw rfl ?_
    refine v_fa_vw (off' := 0) lay35 rfl rfl rfl ?_
    refine v_load_vw (.c (_)) lay31 rfl rfl rfl ?_
    refine v_len_sl lay31 rfl ?_
    refine v_lss lay3 rfl rfl (fun h5 => ?_) (fun h5 => ?_)
    rotate_left
    · refine v_move rfl ?_
      refine v_guard_off rfl rfl rfl ?_
      refine v_pick_f (v := .v (.bool false)) rfl rfl ?_
      refine v_nil ?_
      refine q_n ?_
      refine w_f rfl ?_
      refine w_exit ?_
      refine q_e ?_
      refine q_e ?_
      refine q_hit ?_
      refine q_n ?_
      refine w_seq ?_
      refine w_seq ?_
      refine w_reg rfl ?_
      refine v_assign (c := .v (.int .i64 0)) rfl ?_
      refine v_nil ?_
      refine q_n ?_
      refine w_block ?_
      refine w_loop (fun k sl H => ∃ (i : Nat) (acc : Bool), k = t.2.2.2.1.length - i ∧ i ≤ t.2.2.2.1.length ∧ (acc = true → ((endT t).2.2 = true ∧ ∀ q, q < t.1.length → rOkT t q) ∧ ∀ p ∈ t.2.2.2.1.take i, okP p.1 p.2.1 p.2.2) ∧ (acc = false → ¬ townOk t) ∧ sl = sls [(0, .c (.vw false (twf true t) 0)), (5, cB acc), (7, cI i)] ∧ H = []) ?_ ?_
      · refine ⟨_, _, _, ?_, 0, false, rfl, Nat.zero_le _, (fun h => by cases h), (fun _ => hN rfl), rfl, rfl⟩
        exact turn0 ⟨tr_vw, tr_v, tr_v, trivial⟩
      rintro k sl H ⟨i, acc, rfl, hi, hA, hN, rfl, rfl⟩
      rcases acc with _ | _
      · skip
        refine w_seq ?_
        refine w_seq ?_
        refine w_reg rfl ?_
        refine v_move rfl ?_
        refine v_move rfl ?_
        refine v_nil_vw rfl ?_
        refine v_fa_vw (off' := 3) lay35 rfl rfl rfl ?_
        refine v_load_vw (.c (_)) lay33 rfl rfl rfl ?_
        refine v_len_sl lay33 rfl ?_
        refine v_lss lay3 rfl rfl (fun h13 => ?_) (fun h13 => ?_)
        rotate_left
        · refine v_move rfl ?_
          refine v_guard_off rfl rfl rfl ?_
          refine v_pick_f (v := .v (.bool false)) rfl rfl ?_
          refine v_nil ?_
          refine q_n ?_
          refine w_f rfl ?_
          refine w_exit ?_
          refine q_e ?_
          refine q_e ?_
          refine q_hit ?_
          refine q_n ?_
          refine w_seq ?_
          refine w_reg rfl ?_
          refine v_move rfl ?_
          refine v_move rfl ?_
          refine v_guard_off rfl rfl rfl ?_
          refine v_guard_off rfl rfl rfl ?_
          refine v_guard_off rfl rfl rfl ?_
          refine v_guard_off rfl rfl rfl ?_
          refine v_guard_off rfl rfl rfl ?_
          refine v_pick_f (v := .v (.bool false)) rfl rfl ?_
          refine v_move rfl ?_
          refine v_guard_off rfl rfl rfl ?_
          refine v_guard_off rfl rfl rfl ?_
          refine v_guard_off rfl rfl rfl ?_
          refine v_guard_off rfl rfl rfl ?_
          refine v_guard_off rfl rfl rfl ?_
          refine v_pick_f (v := .v (.bool false)) rfl rfl ?_
          refine v_move rfl ?_
          refine v_guard_off rfl rfl rfl ?_
          refine v_guard_off rfl rfl rfl ?_
          refine v_guard_off rfl rfl rfl ?_
          refine v_guard_off rfl rfl rfl ?_
          refine v_guard_off rfl rfl rfl ?_
          refine v_pick_f (v := .v (.bool false)) rfl rfl ?_
          refine v_assign rfl ?_
          refine v_nil ?_
          refine q_n ?_
          refine w_ret ?_
          refine r_r rfl ?_
          exact a_b (by simp only [Bool.false_eq_true, false_iff]; exact hN rfl)
        have hi1 : i < t.2.2.2.1.length := by omega
        refine v_move rfl ?_
        refine v_guard_on rfl rfl ?_
        refine v_move rfl ?_
        refine v_pick_t rfl rfl ?_
        refine v_nil ?_
        refine q_n ?_
        refine w_f rfl ?_
        refine w_exit ?_
        refine q_e ?_
        refine q_e ?_
        refine q_hit ?_
        refine q_n ?_
        refine w_seq ?_
        refine w_reg rfl ?_
        refine v_move rfl ?_
        refine v_move rfl ?_
        refine v_guard_off rfl rfl rfl ?_
        refine v_guard_off rfl rfl rfl ?_
        refine v_guard_off rfl rfl rfl ?_
        refine v_guard_off rfl rfl rfl ?_
        refine v_guard_off rfl rfl rfl ?_
        refine v_pick_f (v := .v (.bool false)) rfl rfl ?_
        refine v_move rfl ?_
        refine v_guard_off rfl rfl rfl ?_
        refine v_guard_off rfl rfl rfl ?_
        refine v_guard_off rfl rfl rfl ?_
        refine v_guard_off rfl rfl rfl ?_
        refine v_guard_off rfl rfl rfl ?_
        refine v_pick_f (v := .v (.bool false)) rfl rfl ?_
        refine v_move rfl ?_
        refine v_guard_off rfl rfl rfl ?_
        refine v_guard_off rfl rfl rfl ?_
        refine v_guard_off rfl rfl rfl ?_
        refine v_guard_off rfl rfl rfl ?_
        refine v_guard_off rfl rfl rfl ?_
        refine v_pick_f (v := .v (.bool false)) rfl rfl ?_
        refine v_assign rfl ?_
        refine v_nil ?_
        refine q_n ?_
        refine w_ret ?_
        refine r_r rfl ?_
        exact a_b (by simp only [Bool.false_eq_true, false_iff]; exact hN rfl)
      · skip
        refine w_seq ?_
        refine w_seq ?_
        refine w_reg rfl ?_
        refine v_move rfl ?_
        refine v_move rfl ?_
        refine v_nil_vw rfl ?_
        refine v_fa_vw (off' := 3) lay35 rfl rfl rfl ?_
        refine v_load_vw (.c (_)) lay33 rfl rfl rfl ?_
        refine v_len_sl lay33 rfl ?_
        refine v_lss lay3 rfl rfl (fun h14 => ?_) (fun h14 => ?_)
        · have hi1 : i < t.2.2.2.1.length := by omega
          refine v_move rfl ?_
          refine v_guard_on rfl rfl ?_
          refine v_move rfl ?_
          refine v_pick_t rfl rfl ?_
          refine v_nil ?_
          refine q_n ?_
          refine w_t rfl ?_
          refine w_skip ?_
          refine q_n ?_
          refine w_seq ?_
          refine w_block ?_
          refine w_reg rfl ?_
          refine v_move rfl ?_
          refine v_nil_vw rfl ?_
          refine v_fa_vw (off' := 3) lay35 rfl rfl rfl ?_
          refine v_load_vw (.c (_)) lay33 rfl rfl rfl ?_
          refine v_move rfl ?_
          refine v_idx_e (k := 3) (i) plc_len lay33 lay65 rfl rfl rfl (rfl) rfl (rfl) (hi1) ?_
          refine v_callb (cPlS _ _ _ (by have := hB.2.2.2.2.2 _ (List.getElem_mem hi1); omega)) rfl rfl (.cons vw_vw .nil) (fun h16 => ?_) (fun h16 => ?_)
          · have hpk := h16
            refine v_assign rfl ?_
            refine v_nil ?_
            refine q_bn ?_
            refine q_n ?_
            refine w_reg rfl ?_
            refine v_move rfl ?_
            refine v_add lay3 rfl rfl (i64r (by have q1 := hB.2.2.2.2.1; have q2 := hB.1; omega)) ?_
            refine v_assign rfl ?_
            refine v_nil ?_
            refine q_n ?_
            refine ⟨_, _, _, ?_, ⟨i + 1, true, rfl, by omega, fun _ => ⟨(hA rfl).1, all_step hi1 (hA rfl).2 hpk⟩, (fun h => by cases h), rfl, rfl⟩, by omega⟩
            exact turn0 ⟨tr_vw, tr_v, tr_v, trivial⟩
          have hpk := h16
          refine v_assign rfl ?_
          refine v_nil ?_
          refine q_bn ?_
          refine q_n ?_
          refine w_reg rfl ?_
          refine v_move rfl ?_
          refine v_add lay3 rfl rfl (i64r (by have q1 := hB.2.2.2.2.1; have q2 := hB.1; omega)) ?_
          refine v_assign rfl ?_
          refine v_nil ?_
          refine q_n ?_
          refine ⟨_, _, _, ?_, ⟨i + 1, false, rfl, by omega, (fun h => by cases h), fun _ ho => hpk (ho.2.1.2.2 _ (List.getElem_mem hi1)), rfl, rfl⟩, by omega⟩
          exact turn0 ⟨tr_vw, tr_v, tr_v, trivial⟩
        refine v_move rfl ?_
        refine v_guard_off rfl rfl rfl ?_
        refine v_pick_f (v := .v (.bool false)) rfl rfl ?_
        refine v_nil ?_
        refine q_n ?_
        refine w_f rfl ?_
        refine w_exit ?_
        refine q_e ?_
        refine q_e ?_
        refine q_hit ?_
        refine q_n ?_
        refine w_seq ?_
        refine w_reg rfl ?_
        refine v_move rfl ?_
        refine v_move rfl ?_
        refine v_guard_on rfl rfl ?_
        refine v_move rfl ?_
        refine v_guard_on rfl rfl ?_
        refine v_nil_vw rfl ?_
        refine v_guard_on rfl rfl ?_
        refine v_fa_vw (off' := 4) lay35 rfl rfl rfl ?_
        refine v_guard_on rfl rfl ?_
        refine v_load_vw (.c (.v _)) lay2 rfl rfl rfl ?_
        refine v_guard_on rfl rfl ?_
        refine v_callb (cIn _ _ _) rfl rfl (.cons vw_v (.cons vw_v (.cons vw_v .nil))) (fun h17 => ?_) (fun h17 => ?_)
        rotate_left
        · have htk := h17
          refine v_pick_t rfl rfl ?_
          refine v_move rfl ?_
          refine v_guard_off rfl rfl rfl ?_
          refine v_guard_off rfl rfl rfl ?_
          refine v_guard_off rfl rfl rfl ?_
          refine v_guard_off rfl rfl rfl ?_
          refine v_guard_off rfl rfl rfl ?_
          refine v_pick_f (v := .v (.bool false)) rfl rfl ?_
          refine v_move rfl ?_
          refine v_guard_off rfl rfl rfl ?_
          refine v_guard_off rfl rfl rfl ?_
          refine v_guard_off rfl rfl rfl ?_
          refine v_guard_off rfl rfl rfl ?_
          refine v_guard_off rfl rfl rfl ?_
          refine v_pick_f (v := .v (.bool false)) rfl rfl ?_
          refine v_assign rfl ?_
          refine v_nil ?_
          refine q_n ?_
          refine w_ret ?_
          refine r_r rfl ?_
          exact a_b (by simp only [Bool.false_eq_true, false_iff]; exact fun ho => htk ho.2.2.1)
        have htk := h17
        refine v_pick_t rfl rfl ?_
        refine v_move rfl ?_
        refine v_guard_on rfl rfl ?_
        refine v_move rfl ?_
        refine v_guard_on rfl rfl ?_
        refine v_nil_vw rfl ?_
        refine v_guard_on rfl rfl ?_
        refine v_fa_vw (off' := 5) lay35 rfl rfl rfl ?_
        refine v_guard_on rfl rfl ?_
        refine v_load_vw (.c (.f _ _)) lay26 rfl rfl rfl ?_
        refine v_guard_on rfl rfl ?_
        refine v_callb (cAmS _) rfl rfl (.cons vw_f .nil) (fun h18 => ?_) (fun h18 => ?_)
        rotate_left
        · have hca := h18
          refine v_pick_t rfl rfl ?_
          refine v_move rfl ?_
          refine v_guard_off rfl rfl rfl ?_
          refine v_guard_off rfl rfl rfl ?_
          refine v_guard_off rfl rfl rfl ?_
          refine v_guard_off rfl rfl rfl ?_
          refine v_guard_off rfl rfl rfl ?_
          refine v_pick_f (v := .v (.bool false)) rfl rfl ?_
          refine v_assign rfl ?_
          refine v_nil ?_
          refine q_n ?_
          refine w_ret ?_
          refine r_r rfl ?_
          exact a_b (by simp only [Bool.false_eq_true, false_iff]; exact fun ho => hca ho.2.2.2.1)
        have hca := h18
        refine v_pick_t rfl rfl ?_
        refine v_move rfl ?_
        refine v_guard_on rfl rfl ?_
        refine v_move rfl ?_
        refine v_guard_on rfl rfl ?_
        refine v_nil_vw rfl ?_
        refine v_guard_on rfl rfl ?_
        refine v_fa_vw (off' := 6) lay35 rfl rfl rfl ?_
        refine v_guard_on rfl rfl ?_
        refine v_load_vw (.c (.f _ _)) lay26 rfl rfl rfl ?_
        refine v_guard_on rfl rfl ?_
        refine v_callb (cAmS _) rfl rfl (.cons vw_f .nil) (fun h19 => ?_) (fun h19 => ?_)
        rotate_left
        · have hwe := h19
          refine v_pick_t rfl rfl ?_
          refine v_assign rfl ?_
          refine v_nil ?_
          refine q_n ?_
          refine w_ret ?_
          refine r_r rfl ?_
          exact a_b (by simp only [Bool.false_eq_true, false_iff]; exact fun ho => hwe ho.2.2.2.2)
        have hwe := h19
        refine v_pick_t rfl rfl ?_
        refine v_assign rfl ?_
        refine v_nil ?_
        refine q_n ?_
        refine w_ret ?_
        refine r_r rfl ?_
        obtain ⟨⟨q1, q2⟩, q3⟩ := hA rfl
        obtain rfl : i = t.2.2.2.1.length := by omega
        rw [List.take_length] at q3
        exact a_b (by simp only [true_iff]; exact ⟨hbn, ⟨q1, q2, q3⟩, htk, hca, hwe⟩)
    have i1 : i < t.1.length := by omega
    have hi1 := i1
    have i2 : i < t.2.1.length := by have := hbn.2.1; omega
    have i3 : i < (endT t).2.1.length := by rw [endT_len]; exact i1
    refine v_move rfl ?_
    refine v_guard_on rfl rfl ?_
    refine v_move rfl ?_
    refine v_pick_t rfl rfl ?_
    refine v_nil ?_
    refine q_n ?_
    refine w_f rfl ?_
    refine w_exit ?_
    refine q_e ?_
    refine q_e ?_
    refine q_hit ?_
    refine q_n ?_
    refine w_seq ?_
    refine w_seq ?_
    refine w_reg rfl ?_
    refine v_assign (c := .v (.int .i64 0)) rfl ?_
    refine v_nil ?_
    refine q_n ?_
    refine w_block ?_
    refine w_loop (fun k sl H => ∃ (i : Nat) (acc : Bool), k = t.2.2.2.1.length - i ∧ i ≤ t.2.2.2.1.length ∧ (acc = true → ((endT t).2.2 = true ∧ ∀ q, q < t.1.length → rOkT t q) ∧ ∀ p ∈ t.2.2.2.1.take i, okP p.1 p.2.1 p.2.2) ∧ (acc = false → ¬ townOk t) ∧ sl = sls [(0, .c (.vw false (twf true t) 0)), (5, cB acc), (7, cI i)] ∧ H = []) ?_ ?_
    · refine ⟨_, _, _, ?_, 0, false, rfl, Nat.zero_le _, (fun h => by cases h), (fun _ => hN rfl), rfl, rfl⟩
      exact turn0 ⟨tr_vw, tr_v, tr_v, trivial⟩
    rintro k sl H ⟨i, acc, rfl, hi, hA, hN, rfl, rfl⟩
    rcases acc with _ | _
    · skip
      refine w_seq ?_
      refine w_seq ?_
      refine w_reg rfl ?_
      refine v_move rfl ?_
      refine v_move rfl ?_
      refine v_nil_vw rfl ?_
      refine v_fa_vw (off' := 3) lay35 rfl rfl rfl ?_
      refine v_load_vw (.c (_)) lay33 rfl rfl rfl ?_
      refine v_len_sl lay33 rfl ?_
      refine v_lss lay3 rfl rfl (fun h6 => ?_) (fun h6 => ?_)
      rotate_left
      · refine v_move rfl ?_
        refine v_guard_off rfl rfl rfl ?_
        refine v_pick_f (v := .v (.bool false)) rfl rfl ?_
        refine v_nil ?_
        refine q_n ?_
        refine w_f rfl ?_
        refine w_exit ?_
        refine q_e ?_
        refine q_e ?_
        refine q_hit ?_
        refine q_n ?_
        refine w_seq ?_
        refine w_reg rfl ?_
        refine v_move rfl ?_
        refine v_move rfl ?_
        refine v_guard_off rfl rfl rfl ?_
        refine v_guard_off rfl rfl rfl ?_
        refine v_guard_off rfl rfl rfl ?_
        refine v_guard_off rfl rfl rfl ?_
        refine v_guard_off rfl rfl rfl ?_
        refine v_pick_f (v := .v (.bool false)) rfl rfl ?_
        refine v_move rfl ?_
        refine v_guard_off rfl rfl rfl ?_
        refine v_guard_off rfl rfl rfl ?_
        refine v_guard_off rfl rfl rfl ?_
        refine v_guard_off rfl rfl rfl ?_
        refine v_guard_off rfl rfl rfl ?_
        refine v_pick_f (v := .v (.bool false)) rfl rfl ?_
        refine v_move rfl ?_
        refine v_guard_off rfl rfl rfl ?_
        refine v_guard_off rfl rfl rfl ?_
        refine v_guard_off rfl rfl rfl ?_
        refine v_guard_off rfl rfl rfl ?_
        refine v_guard_off rfl rfl rfl ?_
        refine v_pick_f (v := .v (.bool false)) rfl rfl ?_
        refine v_assign rfl ?_
        refine v_nil ?_
        refine q_n ?_
        refine w_ret ?_
        refine r_r rfl ?_
        exact a_b (by simp only [Bool.false_eq_true, false_iff]; exact hN rfl)
      have hi1 : i < t.2.2.2.1.length := by omega
      refine v_move rfl ?_
      refine v_guard_on rfl rfl ?_
      refine v_move rfl ?_
      refine v_pick_t rfl rfl ?_
      refine v_nil ?_
      refine q_n ?_
      refine w_f rfl ?_
      refine w_exit ?_
      refine q_e ?_
      refine q_e ?_
      refine q_hit ?_
      refine q_n ?_
      refine w_seq ?_
      refine w_reg rfl ?_
      refine v_move rfl ?_
      refine v_move rfl ?_
      refine v_guard_off rfl rfl rfl ?_
      refine v_guard_off rfl rfl rfl ?_
      refine v_guard_off rfl rfl rfl ?_
      refine v_guard_off rfl rfl rfl ?_
      refine v_guard_off rfl rfl rfl ?_
      refine v_pick_f (v := .v (.bool false)) rfl rfl ?_
      refine v_move rfl ?_
      refine v_guard_off rfl rfl rfl ?_
      refine v_guard_off rfl rfl rfl ?_
      refine v_guard_off rfl rfl rfl ?_
      refine v_guard_off rfl rfl rfl ?_
      refine v_guard_off rfl rfl rfl ?_
      refine v_pick_f (v := .v (.bool false)) rfl rfl ?_
      refine v_move rfl ?_
      refine v_guard_off rfl rfl rfl ?_
      refine v_guard_off rfl rfl rfl ?_
      refine v_guard_off rfl rfl rfl ?_
      refine v_guard_off rfl rfl rfl ?_
      refine v_guard_off rfl rfl rfl ?_
      refine v_pick_f (v := .v (.bool false)) rfl rfl ?_
      refine v_assign rfl ?_
      refine v_nil ?_
      refine q_n ?_
      refine w_ret ?_
      refine r_r rfl ?_
      exact a_b (by simp only [Bool.false_eq_true, false_iff]; exact hN rfl)
    · skip
      refine w_seq ?_
      refine w_seq ?_
      refine w_reg rfl ?_
      refine v_move rfl ?_
      refine v_move rfl ?_
      refine v_nil_vw rfl ?_
      refine v_fa_vw (off' := 3) lay35 rfl rfl rfl ?_
      refine v_load_vw (.c (_)) lay33 rfl rfl rfl ?_
      refine v_len_sl lay33 rfl ?_
      refine v_lss lay3 rfl rfl (fun h7 => ?_) (fun h7 => ?_)
      · have hi1 : i < t.2.2.2.1.length := by omega
        refine v_move rfl ?_
        refine v_guard_on rfl rfl ?_
        refine v_move rfl ?_
        refine v_pick_t rfl rfl ?_
        refine v_nil ?_
        refine q_n ?_
        refine w_t rfl ?_
        refine w_skip ?_
        refine q_n ?_
        refine w_seq ?_
        refine w_block ?_
        refine w_reg rfl ?_
        refine v_move rfl ?_
        refine v_nil_vw rfl ?_
        refine v_fa_vw (off' := 3) lay35 rfl rfl rfl ?_
        refine v_load_vw (.c (_)) lay33 rfl rfl rfl ?_
        refine v_move rfl ?_
        refine v_idx_e (k := 3) (i) plc_len lay33 lay65 rfl rfl rfl (rfl) rfl (rfl) (hi1) ?_
        refine v_callb (cPlS _ _ _ (by have := hB.2.2.2.2.2 _ (List.getElem_mem hi1); omega)) rfl rfl (.cons vw_vw .nil) (fun h9 => ?_) (fun h9 => ?_)
        · have hpk := h9
          refine v_assign rfl ?_
          refine v_nil ?_
          refine q_bn ?_
          refine q_n ?_
          refine w_reg rfl ?_
          refine v_move rfl ?_
          refine v_add lay3 rfl rfl (i64r (by have q1 := hB.2.2.2.2.1; have q2 := hB.1; omega)) ?_
          refine v_assign rfl ?_
          refine v_nil ?_
          refine q_n ?_
          refine ⟨_, _, _, ?_, ⟨i + 1, true, rfl, by omega, fun _ => ⟨(hA rfl).1, all_step hi1 (hA rfl).2 hpk⟩, (fun h => by cases h), rfl, rfl⟩, by omega⟩
          exact turn0 ⟨tr_vw, tr_v, tr_v, trivial⟩
        have hpk := h9
        refine v_assign rfl ?_
        refine v_nil ?_
        refine q_bn ?_
        refine q_n ?_
        refine w_reg rfl ?_
        refine v_move rfl ?_
        refine v_add lay3 rfl rfl (i64r (by have q1 := hB.2.2.2.2.1; have q2 := hB.1; omega)) ?_
        refine v_assign rfl ?_
        refine v_nil ?_
        refine q_n ?_
        refine ⟨_, _, _, ?_, ⟨i + 1, false, rfl, by omega, (fun h => by cases h), fun _ ho => hpk (ho.2.1.2.2 _ (List.getElem_mem hi1)), rfl, rfl⟩, by omega⟩
        exact turn0 ⟨tr_vw, tr_v, tr_v, trivial⟩
      refine v_move rfl ?_
      refine v_guard_off rfl rfl rfl ?_
      refine v_pick_f (v := .v (.bool false)) rfl rfl ?_
      refine v_nil ?_
      refine q_n ?_
      refine w_f rfl ?_
      refine w_exit ?_
      refine q_e ?_
      refine q_e ?_
      refine q_hit ?_
      refine q_n ?_
      refine w_seq ?_
      refine w_reg rfl ?_
      refine v_move rfl ?_
      refine v_move rfl ?_
      refine v_guard_on rfl rfl ?_
      refine v_move rfl ?_
      refine v_guard_on rfl rfl ?_
      refine v_nil_vw rfl ?_
      refine v_guard_on rfl rfl ?_
      refine v_fa_vw (off' := 4) lay35 rfl rfl rfl ?_
      refine v_guard_on rfl rfl ?_
      refine v_load_vw (.c (.v _)) lay2 rfl rfl rfl ?_
      refine v_guard_on rfl rfl ?_
      refine v_callb (cIn _ _ _) rfl rfl (.cons vw_v (.cons vw_v (.cons vw_v .nil))) (fun h10 => ?_) (fun h10 => ?_)
      rotate_left
      · have htk := h10
        refine v_pick_t rfl rfl ?_
        refine v_move rfl ?_
        refine v_guard_off rfl rfl rfl ?_
        refine v_guard_off rfl rfl rfl ?_
        refine v_guard_off rfl rfl rfl ?_
        refine v_guard_off rfl rfl rfl ?_
        refine v_guard_off rfl rfl rfl ?_
        refine v_pick_f (v := .v (.bool false)) rfl rfl ?_
        refine v_move rfl ?_
        refine v_guard_off rfl rfl rfl ?_
        refine v_guard_off rfl rfl rfl ?_
        refine v_guard_off rfl rfl rfl ?_
        refine v_guard_off rfl rfl rfl ?_
        refine v_guard_off rfl rfl rfl ?_
        refine v_pick_f (v := .v (.bool false)) rfl rfl ?_
        refine v_assign rfl ?_
        refine v_nil ?_
        refine q_n ?_
        refine w_ret ?_
        refine r_r rfl ?_
        exact a_b (by simp only [Bool.false_eq_true, false_iff]; exact fun ho => htk ho.2.2.1)
      have htk := h10
      refine v_pick_t rfl rfl ?_
      refine v_move rfl ?_
      refine v_guard_on rfl rfl ?_
      refine v_move rfl ?_
      refine v_guard_on rfl rfl ?_
      refine v_nil_vw rfl ?_
      refine v_guard_on rfl rfl ?_
      refine v_fa_vw (off' := 5) lay35 rfl rfl rfl ?_
      refine v_guard_on rfl rfl ?_
      refine v_load_vw (.c (.f _ _)) lay26 rfl rfl rfl ?_
      refine v_guard_on rfl rfl ?_
      refine v_callb (cAmS _) rfl rfl (.cons vw_f .nil) (fun h11 => ?_) (fun h11 => ?_)
      rotate_left
      · have hca := h11
        refine v_pick_t rfl rfl ?_
        refine v_move rfl ?_
        refine v_guard_off rfl rfl rfl ?_
        refine v_guard_off rfl rfl rfl ?_
        refine v_guard_off rfl rfl rfl ?_
        refine v_guard_off rfl rfl rfl ?_
        refine v_guard_off rfl rfl rfl ?_
        refine v_pick_f (v := .v (.bool false)) rfl rfl ?_
        refine v_assign rfl ?_
        refine v_nil ?_
        refine q_n ?_
        refine w_ret ?_
        refine r_r rfl ?_
        exact a_b (by simp only [Bool.false_eq_true, false_iff]; exact fun ho => hca ho.2.2.2.1)
      have hca := h11
      refine v_pick_t rfl rfl ?_
      refine v_move rfl ?_
      refine v_guard_on rfl rfl ?_
      refine v_move rfl ?_
      refine v_guard_on rfl rfl ?_
      refine v_nil_vw rfl ?_
      refine v_guard_on rfl rfl ?_
      refine v_fa_vw (off' := 6) lay35 rfl rfl rfl ?_
      refine v_guard_on rfl rfl ?_
      refine v_load_vw (.c (.f _ _)) lay26 rfl rfl rfl ?_
      refine v_guard_on rfl rfl ?_
      refine v_callb (cAmS _) rfl rfl (.cons vw_f .nil) (fun h12 => ?_) (fun h12 => ?_)
      rotate_left
      · have hwe := h12
        refine v_pick_t rfl rfl ?_
        refine v_assign rfl ?_
        refine v_nil ?_
        refine q_n ?_
        refine w_ret ?_
        refine r_r rfl ?_
        exact a_b (by simp only [Bool.false_eq_true, false_iff]; exact fun ho => hwe ho.2.2.2.2)
      have hwe := h12
      refine v_pick_t rfl rfl ?_
      refine v_assign rfl ?_
      refine v_nil ?_
      refine q_n ?_
      refine w_ret ?_
      refine r_r rfl ?_
      obtain ⟨⟨q1, q2⟩, q3⟩ := hA rfl
      obtain rfl : i = t.2.2.2.1.length := by omega
      rw [List.take_length] at q3
      exact a_b (by simp only [true_iff]; exact ⟨hbn, ⟨q1, q2, q3⟩, htk, hca, hwe⟩)
  · skip
    refine w_seq ?_
    refine w_seq ?_
    refine w_reg rfl ?_
    refine v_move rfl ?_
    refine v_move rfl ?_
    refine v_nil_vw rfl ?_
    refine v_fa_vw (off' := 0) lay35 rfl rfl rfl ?_
    refine v_load_vw (.c (_)) lay31 rfl rfl rfl ?_
    refine v_len_sl lay31 rfl ?_
    refine v_lss lay3 rfl rfl (fun h20 => ?_) (fun h20 => ?_)
    · have i1 : i < t.1.length := by omega
      have hi1 := i1
      have i2 : i < t.2.1.length := by have := hbn.2.1; omega
      have i3 : i < (endT t).2.1.length := by rw [endT_len]; exact i1
      refine v_move rfl ?_
      refine v_guard_on rfl rfl ?_
      refine v_move rfl ?_
      refine v_pick_t rfl rfl ?_
      refine v_nil ?_
      refine q_n ?_
      refine w_t rfl ?_
      refine w_skip ?_
      refine q_n ?_
      refine w_seq ?_
      refine w_block ?_
      refine w_reg rfl ?_
      refine v_move rfl ?_
      refine v_nil_vw rfl ?_
      refine v_fa_vw (off' := 0) lay35 rfl rfl rfl ?_
      refine v_load_vw (.c (_)) lay31 rfl rfl rfl ?_
      refine v_move rfl ?_
      refine v_idx_e (k := 19) (i) rdc_len lay31 lay61 rfl rfl rfl (rfl) rfl (rfl) (i1) ?_
      refine v_callb (cRdS _ (hF.1 _ (List.getElem_mem hi1))) rfl rfl (.cons vw_vw .nil) (fun h22 => ?_) (fun h22 => ?_)
      rotate_left
      · have hro := h22
        refine v_move rfl ?_
        refine v_guard_off rfl rfl rfl ?_
        refine v_guard_off rfl rfl rfl ?_
        refine v_guard_off rfl rfl rfl ?_
        refine v_guard_off rfl rfl rfl ?_
        refine v_guard_off rfl rfl rfl ?_
        refine v_guard_off rfl rfl rfl ?_
        refine v_guard_off rfl rfl rfl ?_
        refine v_guard_off rfl rfl rfl ?_
        refine v_pick_f (v := .v (.bool false)) rfl rfl ?_
        refine v_move rfl ?_
        refine v_guard_off rfl rfl rfl ?_
        refine v_guard_off rfl rfl rfl ?_
        refine v_guard_off rfl rfl rfl ?_
        refine v_guard_off rfl rfl rfl ?_
        refine v_guard_off rfl rfl rfl ?_
        refine v_guard_off rfl rfl rfl ?_
        refine v_guard_un rfl rfl ?_
        refine v_guard_un rfl rfl ?_
        refine v_guard_un rfl rfl ?_
        refine v_guard_un rfl rfl ?_
        refine v_guard_un rfl rfl ?_
        refine v_guard_un rfl rfl ?_
        refine v_guard_un rfl rfl ?_
        refine v_guard_un rfl rfl ?_
        refine v_guard_off rfl rfl rfl ?_
        refine v_pick_f (v := .v (.bool false)) rfl rfl ?_
        refine v_assign rfl ?_
        refine v_nil ?_
        refine q_bn ?_
        refine q_n ?_
        refine w_reg rfl ?_
        refine v_move rfl ?_
        refine v_add lay3 rfl rfl (i64r (by have q1 := hB.2.2.2.2.1; have q2 := hB.1; omega)) ?_
        refine v_assign rfl ?_
        refine v_nil ?_
        refine q_n ?_
        refine ⟨_, _, _, ?_, ⟨i + 1, false, rfl, by omega, (fun h => by cases h), fun _ => rok_no i1 i2 i3 (fun h => by first | exact hro h.1 | exact ham h.2.1 | exact hfe (h.2.2 hou)), rfl, rfl⟩, by omega⟩
        exact turn0 ⟨tr_vw, tr_sl, tr_v, tr_v, trivial⟩
      have hro := h22
      refine v_move rfl ?_
      refine v_guard_on rfl rfl ?_
      refine v_move rfl ?_
      refine v_guard_on rfl rfl ?_
      refine v_nil_vw rfl ?_
      refine v_guard_on rfl rfl ?_
      refine v_fa_vw (off' := 1) lay35 rfl rfl rfl ?_
      refine v_guard_on rfl rfl ?_
      refine v_load_vw (.c (_)) lay23 rfl rfl rfl ?_
      refine v_guard_on rfl rfl ?_
      refine v_move rfl ?_
      refine v_guard_on rfl rfl ?_
      refine v_idx_e (k := 1) (i) fe_len lay23 lay26 rfl rfl rfl (rfl) rfl (rfl) (i2) ?_
      refine v_guard_on rfl rfl ?_
      refine v_load_vw (.c (.f _ _)) lay26 rfl rfl rfl ?_
      refine v_guard_on rfl rfl ?_
      refine v_callb (cAmS _) rfl rfl (.cons vw_f .nil) (fun h24 => ?_) (fun h24 => ?_)
      rotate_left
      · have ham := h24
        refine v_pick_t rfl rfl ?_
        refine v_move rfl ?_
        refine v_guard_off rfl rfl rfl ?_
        refine v_guard_off rfl rfl rfl ?_
        refine v_guard_off rfl rfl rfl ?_
        refine v_guard_off rfl rfl rfl ?_
        refine v_guard_off rfl rfl rfl ?_
        refine v_guard_off rfl rfl rfl ?_
        refine v_guard_un rfl rfl ?_
        refine v_guard_un rfl rfl ?_
        refine v_guard_un rfl rfl ?_
        refine v_guard_un rfl rfl ?_
        refine v_guard_un rfl rfl ?_
        refine v_guard_un rfl rfl ?_
        refine v_guard_un rfl rfl ?_
        refine v_guard_un rfl rfl ?_
        refine v_guard_off rfl rfl rfl ?_
        refine v_pick_f (v := .v (.bool false)) rfl rfl ?_
        refine v_assign rfl ?_
        refine v_nil ?_
        refine q_bn ?_
        refine q_n ?_
        refine w_reg rfl ?_
        refine v_move rfl ?_
        refine v_add lay3 rfl rfl (i64r (by have q1 := hB.2.2.2.2.1; have q2 := hB.1; omega)) ?_
        refine v_assign rfl ?_
        refine v_nil ?_
        refine q_n ?_
        refine ⟨_, _, _, ?_, ⟨i + 1, false, rfl, by omega, (fun h => by cases h), fun _ => rok_no i1 i2 i3 (fun h => by first | exact hro h.1 | exact ham h.2.1 | exact hfe (h.2.2 hou)), rfl, rfl⟩, by omega⟩
        exact turn0 ⟨tr_vw, tr_sl, tr_v, tr_v, trivial⟩
      have ham := h24
      refine v_pick_t rfl rfl ?_
      refine v_move rfl ?_
      refine v_guard_on rfl rfl ?_
      refine v_move rfl ?_
      refine v_guard_on rfl rfl ?_
      refine v_move rfl ?_
      refine v_guard_on rfl rfl ?_
      refine v_idx_e (k := 1) (i) bo_len lay107 lay4 rfl rfl rfl (rfl) rfl (rfl) (i3) ?_
      refine v_guard_on rfl rfl ?_
      refine v_load_vwb lay4 rfl rfl rfl (fun h26 => ?_) (fun h26 => ?_)
      rotate_left
      · have hou := h26
        refine v_guard_on rfl rfl ?_
        refine v_not true rfl rfl ?_
        refine v_guard_on rfl rfl ?_
        refine v_move rfl ?_
        refine v_guard_off rfl rfl rfl ?_
        refine v_guard_off rfl rfl rfl ?_
        refine v_guard_off rfl rfl rfl ?_
        refine v_guard_off rfl rfl rfl ?_
        refine v_guard_off rfl rfl rfl ?_
        refine v_guard_off rfl rfl rfl ?_
        refine v_guard_off rfl rfl rfl ?_
        refine v_guard_off rfl rfl rfl ?_
        refine v_guard_on rfl rfl ?_
        refine v_pick_t (v := .v (.bool true)) rfl rfl ?_
        refine v_pick_t rfl rfl ?_
        refine v_assign rfl ?_
        refine v_nil ?_
        refine q_bn ?_
        refine q_n ?_
        refine w_reg rfl ?_
        refine v_move rfl ?_
        refine v_add lay3 rfl rfl (i64r (by have q1 := hB.2.2.2.2.1; have q2 := hB.1; omega)) ?_
        refine v_assign rfl ?_
        refine v_nil ?_
        refine q_n ?_
        refine ⟨_, _, _, ?_, ⟨i + 1, true, rfl, by omega, fun _ => ⟨(hA rfl).1, fun q hq => ?_⟩, (fun h => by cases h), rfl, rfl⟩, by omega⟩
        · exact turn0 ⟨tr_vw, tr_sl, tr_v, tr_v, trivial⟩
        · rcases Nat.lt_or_eq_of_le (Nat.le_of_lt_succ hq) with h | rfl
          · exact (hA rfl).2 q h
          · exact rok_of i1 i2 i3 hro ham (fun h => by first | exact hfe | (rw [hou] at h; cases h))
      have hou := h26
      refine v_guard_on rfl rfl ?_
      refine v_not false rfl rfl ?_
      refine v_guard_on rfl rfl ?_
      refine v_move rfl ?_
      refine v_guard_on rfl rfl ?_
      refine v_move rfl ?_
      refine v_guard_on rfl rfl ?_
      refine v_nil_vw rfl ?_
      refine v_guard_on rfl rfl ?_
      refine v_fa_vw (off' := 1) lay35 rfl rfl rfl ?_
      refine v_guard_on rfl rfl ?_
      refine v_load_vw (.c (_)) lay23 rfl rfl rfl ?_
      refine v_guard_on rfl rfl ?_
      refine v_move rfl ?_
      refine v_guard_on rfl rfl ?_
      refine v_idx_e (k := 1) (i) fe_len lay23 lay26 rfl rfl rfl (rfl) rfl (rfl) (i2) ?_
      refine v_guard_on rfl rfl ?_
      refine v_load_vw (.c (.f _ _)) lay26 rfl rfl rfl ?_
      refine v_guard_on rfl rfl ?_
      refine v_binb lay26 rfl rfl rfl (fun h28 => ?_) (fun h28 => ?_)
      rotate_left
      · have hfe : ¬ feq t.2.1[i] := fun h => absurd (h28.symm.trans h) (by decide)
        refine v_guard_on rfl rfl ?_
        refine v_pick_f rfl rfl ?_
        refine v_pick_t rfl rfl ?_
        refine v_assign rfl ?_
        refine v_nil ?_
        refine q_bn ?_
        refine q_n ?_
        refine w_reg rfl ?_
        refine v_move rfl ?_
        refine v_add lay3 rfl rfl (i64r (by have q1 := hB.2.2.2.2.1; have q2 := hB.1; omega)) ?_
        refine v_assign rfl ?_
        refine v_nil ?_
        refine q_n ?_
        refine ⟨_, _, _, ?_, ⟨i + 1, false, rfl, by omega, (fun h => by cases h), fun _ => rok_no i1 i2 i3 (fun h => by first | exact hro h.1 | exact ham h.2.1 | exact hfe (h.2.2 hou)), rfl, rfl⟩, by omega⟩
        exact turn0 ⟨tr_vw, tr_sl, tr_v, tr_v, trivial⟩
      have hfe : feq t.2.1[i] := h28
      refine v_guard_on rfl rfl ?_
      refine v_pick_f rfl rfl ?_
      refine v_pick_t rfl rfl ?_
      refine v_assign rfl ?_
      refine v_nil ?_
      refine q_bn ?_
      refine q_n ?_
      refine w_reg rfl ?_
      refine v_move rfl ?_
      refine v_add lay3 rfl rfl (i64r (by have q1 := hB.2.2.2.2.1; have q2 := hB.1; omega)) ?_
      refine v_assign rfl ?_
      refine v_nil ?_
      refine q_n ?_
      refine ⟨_, _, _, ?_, ⟨i + 1, true, rfl, by omega, fun _ => ⟨(hA rfl).1, fun q hq => ?_⟩, (fun h => by cases h), rfl, rfl⟩, by omega⟩
      · exact turn0 ⟨tr_vw, tr_sl, tr_v, tr_v, trivial⟩
      · rcases Nat.lt_or_eq_of_le (Nat.le_of_lt_succ hq) with h | rfl
        · exact (hA rfl).2 q h
        · exact rok_of i1 i2 i3 hro ham (fun h => by first | exact hfe | (rw [hou] at h; cases h))
    refine v_move rfl ?_
    refine v_guard_off rfl rfl rfl ?_
    refine v_pick_f (v := .v (.bool false)) rfl rfl ?_
    refine v_nil ?_
    refine q_n ?_
    refine w_f rfl ?_
    refine w_exit ?_
    refine q_e ?_
    refine q_e ?_
    refine q_hit ?_
    refine q_n ?_
    refine w_seq ?_
    refine w_seq ?_
    refine w_reg rfl ?_
    refine v_assign (c := .v (.int .i64 0)) rfl ?_
    refine v_nil ?_
    refine q_n ?_
    refine w_block ?_
    refine w_loop (fun k sl H => ∃ (i : Nat) (acc : Bool), k = t.2.2.2.1.length - i ∧ i ≤ t.2.2.2.1.length ∧ (acc = true → ((endT t).2.2 = true ∧ ∀ q, q < t.1.length → rOkT t q) ∧ ∀ p ∈ t.2.2.2.1.take i, okP p.1 p.2.1 p.2.2) ∧ (acc = false → ¬ townOk t) ∧ sl = sls [(0, .c (.vw false (twf true t) 0)), (5, cB acc), (7, cI i)] ∧ H = []) ?_ ?_
    · refine ⟨_, _, _, ?_, 0, true, rfl, Nat.zero_le _, (fun _ => ⟨⟨(hA rfl).1, fun q hq => (hA rfl).2 q (by omega)⟩, by simp⟩), (fun h => by cases h), rfl, rfl⟩
      exact turn0 ⟨tr_vw, tr_v, tr_v, trivial⟩
    rintro k sl H ⟨i, acc, rfl, hi, hA, hN, rfl, rfl⟩
    rcases acc with _ | _
    · skip
      refine w_seq ?_
      refine w_seq ?_
      refine w_reg rfl ?_
      refine v_move rfl ?_
      refine v_move rfl ?_
      refine v_nil_vw rfl ?_
      refine v_fa_vw (off' := 3) lay35 rfl rfl rfl ?_
      refine v_load_vw (.c (_)) lay33 rfl rfl rfl ?_
      refine v_len_sl lay33 rfl ?_
      refine v_lss lay3 rfl rfl (fun h29 => ?_) (fun h29 => ?_)
      rotate_left
      · refine v_move rfl ?_
        refine v_guard_off rfl rfl rfl ?_
        refine v_pick_f (v := .v (.bool false)) rfl rfl ?_
        refine v_nil ?_
        refine q_n ?_
        refine w_f rfl ?_
        refine w_exit ?_
        refine q_e ?_
        refine q_e ?_
        refine q_hit ?_
        refine q_n ?_
        refine w_seq ?_
        refine w_reg rfl ?_
        refine v_move rfl ?_
        refine v_move rfl ?_
        refine v_guard_off rfl rfl rfl ?_
        refine v_guard_off rfl rfl rfl ?_
        refine v_guard_off rfl rfl rfl ?_
        refine v_guard_off rfl rfl rfl ?_
        refine v_guard_off rfl rfl rfl ?_
        refine v_pick_f (v := .v (.bool false)) rfl rfl ?_
        refine v_move rfl ?_
        refine v_guard_off rfl rfl rfl ?_
        refine v_guard_off rfl rfl rfl ?_
        refine v_guard_off rfl rfl rfl ?_
        refine v_guard_off rfl rfl rfl ?_
        refine v_guard_off rfl rfl rfl ?_
        refine v_pick_f (v := .v (.bool false)) rfl rfl ?_
        refine v_move rfl ?_
        refine v_guard_off rfl rfl rfl ?_
        refine v_guard_off rfl rfl rfl ?_
        refine v_guard_off rfl rfl rfl ?_
        refine v_guard_off rfl rfl rfl ?_
        refine v_guard_off rfl rfl rfl ?_
        refine v_pick_f (v := .v (.bool false)) rfl rfl ?_
        refine v_assign rfl ?_
        refine v_nil ?_
        refine q_n ?_
        refine w_ret ?_
        refine r_r rfl ?_
        exact a_b (by simp only [Bool.false_eq_true, false_iff]; exact hN rfl)
      have hi1 : i < t.2.2.2.1.length := by omega
      refine v_move rfl ?_
      refine v_guard_on rfl rfl ?_
      refine v_move rfl ?_
      refine v_pick_t rfl rfl ?_
      refine v_nil ?_
      refine q_n ?_
      refine w_f rfl ?_
      refine w_exit ?_
      refine q_e ?_
      refine q_e ?_
      refine q_hit ?_
      refine q_n ?_
      refine w_seq ?_
      refine w_reg rfl ?_
      refine v_move rfl ?_
      refine v_move rfl ?_
      refine v_guard_off rfl rfl rfl ?_
      refine v_guard_off rfl rfl rfl ?_
      refine v_guard_off rfl rfl rfl ?_
      refine v_guard_off rfl rfl rfl ?_
      refine v_guard_off rfl rfl rfl ?_
      refine v_pick_f (v := .v (.bool false)) rfl rfl ?_
      refine v_move rfl ?_
      refine v_guard_off rfl rfl rfl ?_
      refine v_guard_off rfl rfl rfl ?_
      refine v_guard_off rfl rfl rfl ?_
      refine v_guard_off rfl rfl rfl ?_
      refine v_guard_off rfl rfl rfl ?_
      refine v_pick_f (v := .v (.bool false)) rfl rfl ?_
      refine v_move rfl ?_
      refine v_guard_off rfl rfl rfl ?_
      refine v_guard_off rfl rfl rfl ?_
      refine v_guard_off rfl rfl rfl ?_
      refine v_guard_off rfl rfl rfl ?_
      refine v_guard_off rfl rfl rfl ?_
      refine v_pick_f (v := .v (.bool false)) rfl rfl ?_
      refine v_assign rfl ?_
      refine v_nil ?_
      refine q_n ?_
      refine w_ret ?_
      refine r_r rfl ?_
      exact a_b (by simp only [Bool.false_eq_true, false_iff]; exact hN rfl)
    · skip
      refine w_seq ?_
      refine w_seq ?_
      refine w_reg rfl ?_
      refine v_move rfl ?_
      refine v_move rfl ?_
      refine v_nil_vw rfl ?_
      refine v_fa_vw (off' := 3) lay35 rfl rfl rfl ?_
      refine v_load_vw (.c (_)) lay33 rfl rfl rfl ?_
      refine v_len_sl lay33 rfl ?_
      refine v_lss lay3 rfl rfl (fun h30 => ?_) (fun h30 => ?_)
      · have hi1 : i < t.2.2.2.1.length := by omega
        refine v_move rfl ?_
        refine v_guard_on rfl rfl ?_
        refine v_move rfl ?_
        refine v_pick_t rfl rfl ?_
        refine v_nil ?_
        refine q_n ?_
        refine w_t rfl ?_
        refine w_skip ?_
        refine q_n ?_
        refine w_seq ?_
        refine w_block ?_
        refine w_reg rfl ?_
        refine v_move rfl ?_
        refine v_nil_vw rfl ?_
        refine v_fa_vw (off' := 3) lay35 rfl rfl rfl ?_
        refine v_load_vw (.c (_)) lay33 rfl rfl rfl ?_
        refine v_move rfl ?_
        refine v_idx_e (k := 3) (i) plc_len lay33 lay65 rfl rfl rfl (rfl) rfl (rfl) (hi1) ?_
        refine v_callb (cPlS _ _ _ (by have := hB.2.2.2.2.2 _ (List.getElem_mem hi1); omega)) rfl rfl (.cons vw_vw .nil) (fun h32 => ?_) (fun h32 => ?_)
        · have hpk := h32
          refine v_assign rfl ?_
          refine v_nil ?_
          refine q_bn ?_
          refine q_n ?_
          refine w_reg rfl ?_
          refine v_move rfl ?_
          refine v_add lay3 rfl rfl (i64r (by have q1 := hB.2.2.2.2.1; have q2 := hB.1; omega)) ?_
          refine v_assign rfl ?_
          refine v_nil ?_
          refine q_n ?_
          refine ⟨_, _, _, ?_, ⟨i + 1, true, rfl, by omega, fun _ => ⟨(hA rfl).1, all_step hi1 (hA rfl).2 hpk⟩, (fun h => by cases h), rfl, rfl⟩, by omega⟩
          exact turn0 ⟨tr_vw, tr_v, tr_v, trivial⟩
        have hpk := h32
        refine v_assign rfl ?_
        refine v_nil ?_
        refine q_bn ?_
        refine q_n ?_
        refine w_reg rfl ?_
        refine v_move rfl ?_
        refine v_add lay3 rfl rfl (i64r (by have q1 := hB.2.2.2.2.1; have q2 := hB.1; omega)) ?_
        refine v_assign rfl ?_
        refine v_nil ?_
        refine q_n ?_
        refine ⟨_, _, _, ?_, ⟨i + 1, false, rfl, by omega, (fun h => by cases h), fun _ ho => hpk (ho.2.1.2.2 _ (List.getElem_mem hi1)), rfl, rfl⟩, by omega⟩
        exact turn0 ⟨tr_vw, tr_v, tr_v, trivial⟩
      refine v_move rfl ?_
      refine v_guard_off rfl rfl rfl ?_
      refine v_pick_f (v := .v (.bool false)) rfl rfl ?_
      refine v_nil ?_
      refine q_n ?_
      refine w_f rfl ?_
      refine w_exit ?_
      refine q_e ?_
      refine q_e ?_
      refine q_hit ?_
      refine q_n ?_
      refine w_seq ?_
      refine w_reg rfl ?_
      refine v_move rfl ?_
      refine v_move rfl ?_
      refine v_guard_on rfl rfl ?_
      refine v_move rfl ?_
      refine v_guard_on rfl rfl ?_
      refine v_nil_vw rfl ?_
      refine v_guard_on rfl rfl ?_
      refine v_fa_vw (off' := 4) lay35 rfl rfl rfl ?_
      refine v_guard_on rfl rfl ?_
      refine v_load_vw (.c (.v _)) lay2 rfl rfl rfl ?_
      refine v_guard_on rfl rfl ?_
      refine v_callb (cIn _ _ _) rfl rfl (.cons vw_v (.cons vw_v (.cons vw_v .nil))) (fun h33 => ?_) (fun h33 => ?_)
      rotate_left
      · have htk := h33
        refine v_pick_t rfl rfl ?_
        refine v_move rfl ?_
        refine v_guard_off rfl rfl rfl ?_
        refine v_guard_off rfl rfl rfl ?_
        refine v_guard_off rfl rfl rfl ?_
        refine v_guard_off rfl rfl rfl ?_
        refine v_guard_off rfl rfl rfl ?_
        refine v_pick_f (v := .v (.bool false)) rfl rfl ?_
        refine v_move rfl ?_
        refine v_guard_off rfl rfl rfl ?_
        refine v_guard_off rfl rfl rfl ?_
        refine v_guard_off rfl rfl rfl ?_
        refine v_guard_off rfl rfl rfl ?_
        refine v_guard_off rfl rfl rfl ?_
        refine v_pick_f (v := .v (.bool false)) rfl rfl ?_
        refine v_assign rfl ?_
        refine v_nil ?_
        refine q_n ?_
        refine w_ret ?_
        refine r_r rfl ?_
        exact a_b (by simp only [Bool.false_eq_true, false_iff]; exact fun ho => htk ho.2.2.1)
      have htk := h33
      refine v_pick_t rfl rfl ?_
      refine v_move rfl ?_
      refine v_guard_on rfl rfl ?_
      refine v_move rfl ?_
      refine v_guard_on rfl rfl ?_
      refine v_nil_vw rfl ?_
      refine v_guard_on rfl rfl ?_
      refine v_fa_vw (off' := 5) lay35 rfl rfl rfl ?_
      refine v_guard_on rfl rfl ?_
      refine v_load_vw (.c (.f _ _)) lay26 rfl rfl rfl ?_
      refine v_guard_on rfl rfl ?_
      refine v_callb (cAmS _) rfl rfl (.cons vw_f .nil) (fun h34 => ?_) (fun h34 => ?_)
      rotate_left
      · have hca := h34
        refine v_pick_t rfl rfl ?_
        refine v_move rfl ?_
        refine v_guard_off rfl rfl rfl ?_
        refine v_guard_off rfl rfl rfl ?_
        refine v_guard_off rfl rfl rfl ?_
        refine v_guard_off rfl rfl rfl ?_
        refine v_guard_off rfl rfl rfl ?_
        refine v_pick_f (v := .v (.bool false)) rfl rfl ?_
        refine v_assign rfl ?_
        refine v_nil ?_
        refine q_n ?_
        refine w_ret ?_
        refine r_r rfl ?_
        exact a_b (by simp only [Bool.false_eq_true, false_iff]; exact fun ho => hca ho.2.2.2.1)
      have hca := h34
      refine v_pick_t rfl rfl ?_
      refine v_move rfl ?_
      refine v_guard_on rfl rfl ?_
      refine v_move rfl ?_
      refine v_guard_on rfl rfl ?_
      refine v_nil_vw rfl ?_
      refine v_guard_on rfl rfl ?_
      refine v_fa_vw (off' := 6) lay35 rfl rfl rfl ?_
      refine v_guard_on rfl rfl ?_
      refine v_load_vw (.c (.f _ _)) lay26 rfl rfl rfl ?_
      refine v_guard_on rfl rfl ?_
      refine v_callb (cAmS _) rfl rfl (.cons vw_f .nil) (fun h35 => ?_) (fun h35 => ?_)
      rotate_left
      · have hwe := h35
        refine v_pick_t rfl rfl ?_
        refine v_assign rfl ?_
        refine v_nil ?_
        refine q_n ?_
        refine w_ret ?_
        refine r_r rfl ?_
        exact a_b (by simp only [Bool.false_eq_true, false_iff]; exact fun ho => hwe ho.2.2.2.2)
      have hwe := h35
      refine v_pick_t rfl rfl ?_
      refine v_assign rfl ?_
      refine v_nil ?_
      refine q_n ?_
      refine w_ret ?_
      refine r_r rfl ?_
      obtain ⟨⟨q1, q2⟩, q3⟩ := hA rfl
      obtain rfl : i = t.2.2.2.1.length := by omega
      rw [List.take_length] at q3
      exact a_b (by simp only [true_iff]; exact ⟨hbn, ⟨q1, q2, q3⟩, htk, hca, hwe⟩)
end Go.VL
namespace Go.VL
open Go.RowKit
set_option maxRecDepth 20000
set_option maxHeartbeats 8000000
theorem cAR1 (r : Rd) (hr : rW r) : PureC X 126 [.agg (rdc r)] (cB (decide (¬ roadOk r))) := by
  refine PureC.of_body (drawD_ok X) (fun _ _ => Go.Proofs.Tryz.call126 _ _) Go.Proofs.Tryz.func126 rfl (n := 6) rfl ?_
  refine w_seq ?_
  refine w_reg rfl ?_
  refine v_box (m := 0) (H' := [_]) lay61 rfl rfl rfl ?_
  refine v_assign (c := .v (.bool false)) rfl ?_
  refine v_nil ?_
  refine q_n ?_
  refine w_seq ?_
  refine w_reg rfl ?_
  refine v_load_pt (.agg [_, _, _, _, _, _, _, _, _, _, _, _, _, _, _, _, _, _, _]) lay61 rfl rfl rfl rfl ?_
  refine v_callb (cRdI _ hr) rfl rfl (.cons (vw_agg (.cons vw_f (.cons vw_f (.cons vw_f (.cons vw_f (.cons vw_f (.cons vw_f (.cons vw_f (.cons vw_f (.cons vw_f (.cons vw_f (.cons vw_f (.cons vw_f (.cons vw_f (.cons vw_f (.cons vw_f (.cons vw_f (.cons vw_f (.cons vw_f (.cons vw_f .nil)))))))))))))))))))) .nil) (fun h1 => ?_) (fun h1 => ?_)
  rotate_left
  · refine v_not true rfl rfl ?_
    refine v_assign rfl ?_
    refine v_nil ?_
    refine q_n ?_
    refine w_ret ?_
    refine r_r rfl ?_
    exact a_b (by simp_all)
  refine v_not false rfl rfl ?_
  refine v_assign rfl ?_
  refine v_nil ?_
  refine q_n ?_
  refine w_ret ?_
  refine r_r rfl ?_
  exact a_b (by simp_all)
theorem cIFr (g : FuncId) (pr : Rd → Prop) [DecidablePred pr] (xs : List Rd) (hx : xs.length ≤ 2 ^ 40) (hF : ∀ x ∈ xs, PureC X g [.agg (rdc x)] (cB (decide (pr x)))) : PureC X 176 [.c (.sl false xs.length 19 (flat rdc xs)), .c (.fn g [])] (cI (fix pr xs)) := by
  refine PureC.of_body (drawD_ok X) (fun _ _ => Go.Proofs.Tryz.call176 _ _) Go.Proofs.Tryz.func176 rfl (n := 19) rfl ?_
  refine w_seq ?_
  refine w_reg rfl ?_
  refine v_assign (c := .v (.int .i64 0)) rfl ?_
  refine v_nil ?_
  refine q_n ?_
  refine w_seq ?_
  refine w_seq ?_
  refine w_reg rfl ?_
  refine v_move rfl ?_
  refine v_len_sl lay31 rfl ?_
  refine v_move (c := .v (.int .i64 0)) rfl ?_
  refine v_nil ?_
  refine q_n ?_
  refine w_block ?_
  refine w_loop (fun k sl H => ∃ i : Nat, k = xs.length - i ∧ i ≤ xs.length ∧ (∀ x ∈ xs.take i, ¬ pr x) ∧ sl = sls [(0, .c (.sl false xs.length 19 (flat rdc xs))), (1, .c (.fn g [])), (7, cI xs.length), (8, cI i)] ∧ H = []) ?_ ?_
  · refine ⟨_, _, _, ?_, 0, rfl, Nat.zero_le _, by simp, rfl, rfl⟩
    exact turn0 ⟨tr_sl, tr_fn0, tr_v, tr_v, trivial⟩
  rintro k sl H ⟨i, rfl, hi, hp, rfl, rfl⟩
  refine w_seq ?_
  refine w_reg rfl ?_
  refine v_lss lay3 rfl rfl (fun h1 => ?_) (fun h1 => ?_)
  rotate_left
  · refine v_nil ?_
    refine q_n ?_
    refine w_seq ?_
    refine w_f rfl ?_
    refine w_exit ?_
    refine q_e ?_
    refine q_e ?_
    refine q_hit ?_
    refine q_n ?_
    refine w_seq ?_
    refine w_reg rfl ?_
    refine v_assign (c := .v (.int .i64 (-1))) rfl ?_
    refine v_nil ?_
    refine q_n ?_
    refine w_ret ?_
    refine r_r rfl ?_
    obtain rfl : i = xs.length := by omega
    rw [List.take_length] at hp
    exact a_i (fix_none hp).symm
  have hj : i < xs.length := by omega
  refine v_nil ?_
  refine q_n ?_
  refine w_seq ?_
  refine w_t rfl ?_
  refine w_skip ?_
  refine q_n ?_
  refine w_seq ?_
  refine w_block ?_
  refine w_seq ?_
  refine w_reg rfl ?_
  refine v_move rfl ?_
  refine v_assign rfl ?_
  refine v_nil ?_
  refine q_n ?_
  refine w_seq ?_
  refine w_reg rfl ?_
  refine v_move rfl ?_
  refine v_move rfl ?_
  refine v_move rfl ?_
  refine v_idx_e (k := 19) (i) rdc_len lay31 lay61 rfl rfl rfl (rfl) rfl (rfl) ((by omega : i < xs.length)) ?_
  refine v_load_vw (.agg [.f _ _, .f _ _, .f _ _, .f _ _, .f _ _, .f _ _, .f _ _, .f _ _, .f _ _, .f _ _, .f _ _, .f _ _, .f _ _, .f _ _, .f _ _, .f _ _, .f _ _, .f _ _, .f _ _]) lay61 rfl rfl rfl ?_
  refine v_callb (hF _ (List.getElem_mem hj)) rfl rfl (.cons (vw_agg (.cons vw_f (.cons vw_f (.cons vw_f (.cons vw_f (.cons vw_f (.cons vw_f (.cons vw_f (.cons vw_f (.cons vw_f (.cons vw_f (.cons vw_f (.cons vw_f (.cons vw_f (.cons vw_f (.cons vw_f (.cons vw_f (.cons vw_f (.cons vw_f (.cons vw_f .nil)))))))))))))))))))) .nil) (fun h3 => ?_) (fun h3 => ?_)
  · refine v_nil ?_
    refine q_n ?_
    refine w_t rfl ?_
    refine w_seq ?_
    refine w_reg rfl ?_
    refine v_move rfl ?_
    refine v_assign rfl ?_
    refine v_nil ?_
    refine q_n ?_
    refine w_ret (q_br (q_r (q_r (q_br (q_r ?_)))))
    refine r_r rfl ?_
    exact a_i (fix_hit hj hp h3).symm
  refine v_nil ?_
  refine q_n ?_
  refine w_f rfl ?_
  refine w_skip ?_
  refine q_bn ?_
  refine q_n ?_
  refine w_reg rfl ?_
  refine v_add lay3 rfl rfl (i64r (by omega)) ?_
  refine v_move rfl ?_
  refine v_nil ?_
  refine q_n ?_
  refine ⟨_, _, _, ?_, ⟨i + 1, rfl, by omega, all_step hj hp h3, rfl, rfl⟩, by omega⟩
  exact turn0 ⟨tr_sl, tr_fn0, tr_v, tr_v, trivial⟩
theorem cCFr (g : FuncId) (pr : Rd → Prop) [DecidablePred pr] (xs : List Rd) (hx : xs.length ≤ 2 ^ 40) (hF : ∀ x ∈ xs, PureC X g [.agg (rdc x)] (cB (decide (pr x)))) : PureC X 125 [.c (.sl false xs.length 19 (flat rdc xs)), .c (.fn g [])] (cB (decide (∃ x ∈ xs, pr x))) := by
  refine PureC.of_body (drawD_ok X) (fun _ _ => Go.Proofs.Tryz.call125 _ _) Go.Proofs.Tryz.func125 rfl (n := 9) rfl ?_
  refine w_seq ?_
  refine w_reg rfl ?_
  refine v_assign (c := .v (.bool false)) rfl ?_
  refine v_nil ?_
  refine q_n ?_
  refine w_seq ?_
  refine w_reg rfl ?_
  refine v_move rfl ?_
  refine v_move rfl ?_
  refine v_call (cIFr _ _ _ hx hF) rfl rfl rfl (.cons vw_sl (.cons (vw_fn .nil) .nil)) ?_
  refine v_geq lay3 rfl rfl (fun h1 => ?_) (fun h1 => ?_)
  · refine v_assign rfl ?_
    refine v_nil ?_
    refine q_n ?_
    refine w_ret ?_
    refine r_r rfl ?_
    exact a_b (by simp only [true_iff]; exact (fix_ge _ _).1 h1)
  refine v_assign rfl ?_
  refine v_nil ?_
  refine q_n ?_
  refine w_ret ?_
  refine r_r rfl ?_
  exact a_b (by simp only [Bool.false_eq_true, false_iff]; exact fun h => h1 ((fix_ge _ _).2 h))
theorem cAR (rs : List Rd) (hx : rs.length ≤ 2 ^ 40) (hW : ∀ r ∈ rs, rW r) : PureC X 69 [.c (rds false rs)] (cB (decide (∀ r ∈ rs, roadOk r))) := by
  refine PureC.of_body (drawD_ok X) (fun _ _ => Go.Proofs.Tryz.call69 _ _) Go.Proofs.Tryz.func69 rfl (n := 6) rfl ?_
  refine w_seq ?_
  refine w_reg rfl ?_
  refine v_assign (c := .v (.bool false)) rfl ?_
  refine v_nil ?_
  refine q_n ?_
  refine w_seq ?_
  refine w_reg rfl ?_
  refine v_move rfl ?_
  refine v_callb (cCFr 126 (fun r => ¬ roadOk r) _ hx (fun r hr => cAR1 r (hW r hr))) rfl rfl (.cons vw_sl (.cons (vw_fn .nil) .nil)) (fun h1 => ?_) (fun h1 => ?_)
  rotate_left
  · refine v_not true rfl rfl ?_
    refine v_assign rfl ?_
    refine v_nil ?_
    refine q_n ?_
    refine w_ret ?_
    refine r_r rfl ?_
    exact a_b (by simp only [true_iff]; exact fun r hr => Decidable.byContradiction fun hn => h1 ⟨r, hr, hn⟩)
  refine v_not false rfl rfl ?_
  refine v_assign rfl ?_
  refine v_nil ?_
  refine q_n ?_
  refine w_ret ?_
  refine r_r rfl ?_
  exact a_b (by simp only [Bool.false_eq_true, false_iff]; exact fun h => by obtain ⟨r, hr, hn⟩ := h1; exact hn (h r hr))
theorem cVt1 (p : Pln) (hx : p.1.length ≤ 2 ^ 40) : PureC X 74 [.agg (plf p)] (cB (decide (¬ okP p.1 p.2.1 p.2.2))) := by
  refine PureC.of_body (drawD_ok X) (fun _ _ => Go.Proofs.Tryz.call74 _ _) Go.Proofs.Tryz.func74 rfl (n := 6) rfl ?_
  refine w_seq ?_
  refine w_reg rfl ?_
  refine v_box (m := 0) (H' := [_]) lay65 rfl rfl rfl ?_
  refine v_assign (c := .v (.bool false)) rfl ?_
  refine v_nil ?_
  refine q_n ?_
  refine w_seq ?_
  refine w_reg rfl ?_
  refine v_load_pt (.agg [_, _, _]) lay65 rfl rfl rfl rfl ?_
  refine v_callb (cPlI _ _ _ hx) rfl rfl (.cons (vw_agg (.cons vw_sl (.cons vw_v (.cons vw_v .nil)))) .nil) (fun h1 => ?_) (fun h1 => ?_)
  rotate_left
  · refine v_not true rfl rfl ?_
    refine v_assign rfl ?_
    refine v_nil ?_
    refine q_n ?_
    refine w_ret ?_
    refine r_r rfl ?_
    exact a_b (by simp_all)
  refine v_not false rfl rfl ?_
  refine v_assign rfl ?_
  refine v_nil ?_
  refine q_n ?_
  refine w_ret ?_
  refine r_r rfl ?_
  exact a_b (by simp_all)
theorem cIFp (g : FuncId) (pr : Pln → Prop) [DecidablePred pr] (xs : List Pln) (hx : xs.length ≤ 2 ^ 40) (hF : ∀ x ∈ xs, PureC X g [.agg (plf x)] (cB (decide (pr x)))) : PureC X 135 [.c (.sl false xs.length 3 (flat plc xs)), .c (.fn g [])] (cI (fix pr xs)) := by
  refine PureC.of_body (drawD_ok X) (fun _ _ => Go.Proofs.Tryz.call135 _ _) Go.Proofs.Tryz.func135 rfl (n := 19) rfl ?_
  refine w_seq ?_
  refine w_reg rfl ?_
  refine v_assign (c := .v (.int .i64 0)) rfl ?_
  refine v_nil ?_
  refine q_n ?_
  refine w_seq ?_
  refine w_seq ?_
  refine w_reg rfl ?_
  refine v_move rfl ?_
  refine v_len_sl lay33 rfl ?_
  refine v_move (c := .v (.int .i64 0)) rfl ?_
  refine v_nil ?_
  refine q_n ?_
  refine w_block ?_
  refine w_loop (fun k sl H => ∃ i : Nat, k = xs.length - i ∧ i ≤ xs.length ∧ (∀ x ∈ xs.take i, ¬ pr x) ∧ sl = sls [(0, .c (.sl false xs.length 3 (flat plc xs))), (1, .c (.fn g [])), (7, cI xs.length), (8, cI i)] ∧ H = []) ?_ ?_
  · refine ⟨_, _, _, ?_, 0, rfl, Nat.zero_le _, by simp, rfl, rfl⟩
    exact turn0 ⟨tr_sl, tr_fn0, tr_v, tr_v, trivial⟩
  rintro k sl H ⟨i, rfl, hi, hp, rfl, rfl⟩
  refine w_seq ?_
  refine w_reg rfl ?_
  refine v_lss lay3 rfl rfl (fun h1 => ?_) (fun h1 => ?_)
  rotate_left
  · refine v_nil ?_
    refine q_n ?_
    refine w_seq ?_
    refine w_f rfl ?_
    refine w_exit ?_
    refine q_e ?_
    refine q_e ?_
    refine q_hit ?_
    refine q_n ?_
    refine w_seq ?_
    refine w_reg rfl ?_
    refine v_assign (c := .v (.int .i64 (-1))) rfl ?_
    refine v_nil ?_
    refine q_n ?_
    refine w_ret ?_
    refine r_r rfl ?_
    obtain rfl : i = xs.length := by omega
    rw [List.take_length] at hp
    exact a_i (fix_none hp).symm
  have hj : i < xs.length := by omega
  refine v_nil ?_
  refine q_n ?_
  refine w_seq ?_
  refine w_t rfl ?_
  refine w_skip ?_
  refine q_n ?_
  refine w_seq ?_
  refine w_block ?_
  refine w_seq ?_
  refine w_reg rfl ?_
  refine v_move rfl ?_
  refine v_assign rfl ?_
  refine v_nil ?_
  refine q_n ?_
  refine w_seq ?_
  refine w_reg rfl ?_
  refine v_move rfl ?_
  refine v_move rfl ?_
  refine v_move rfl ?_
  refine v_idx_e (k := 3) (i) plc_len lay33 lay65 rfl rfl rfl (rfl) rfl (rfl) ((by omega : i < xs.length)) ?_
  refine v_load_vw (.agg [_, .v _, .v _]) lay65 rfl rfl rfl ?_
  refine v_callb (hF _ (List.getElem_mem hj)) rfl rfl (.cons (vw_agg (.cons vw_sl (.cons vw_v (.cons vw_v .nil)))) .nil) (fun h3 => ?_) (fun h3 => ?_)
  · refine v_nil ?_
    refine q_n ?_
    refine w_t rfl ?_
    refine w_seq ?_
    refine w_reg rfl ?_
    refine v_move rfl ?_
    refine v_assign rfl ?_
    refine v_nil ?_
    refine q_n ?_
    refine w_ret (q_br (q_r (q_r (q_br (q_r ?_)))))
    refine r_r rfl ?_
    exact a_i (fix_hit hj hp h3).symm
  refine v_nil ?_
  refine q_n ?_
  refine w_f rfl ?_
  refine w_skip ?_
  refine q_bn ?_
  refine q_n ?_
  refine w_reg rfl ?_
  refine v_add lay3 rfl rfl (i64r (by omega)) ?_
  refine v_move rfl ?_
  refine v_nil ?_
  refine q_n ?_
  refine ⟨_, _, _, ?_, ⟨i + 1, rfl, by omega, all_step hj hp h3, rfl, rfl⟩, by omega⟩
  exact turn0 ⟨tr_sl, tr_fn0, tr_v, tr_v, trivial⟩
theorem cCFp (g : FuncId) (pr : Pln → Prop) [DecidablePred pr] (xs : List Pln) (hx : xs.length ≤ 2 ^ 40) (hF : ∀ x ∈ xs, PureC X g [.agg (plf x)] (cB (decide (pr x)))) : PureC X 73 [.c (.sl false xs.length 3 (flat plc xs)), .c (.fn g [])] (cB (decide (∃ x ∈ xs, pr x))) := by
  refine PureC.of_body (drawD_ok X) (fun _ _ => Go.Proofs.Tryz.call73 _ _) Go.Proofs.Tryz.func73 rfl (n := 9) rfl ?_
  refine w_seq ?_
  refine w_reg rfl ?_
  refine v_assign (c := .v (.bool false)) rfl ?_
  refine v_nil ?_
  refine q_n ?_
  refine w_seq ?_
  refine w_reg rfl ?_
  refine v_move rfl ?_
  refine v_move rfl ?_
  refine v_call (cIFp _ _ _ hx hF) rfl rfl rfl (.cons vw_sl (.cons (vw_fn .nil) .nil)) ?_
  refine v_geq lay3 rfl rfl (fun h1 => ?_) (fun h1 => ?_)
  · refine v_assign rfl ?_
    refine v_nil ?_
    refine q_n ?_
    refine w_ret ?_
    refine r_r rfl ?_
    exact a_b (by simp only [true_iff]; exact (fix_ge _ _).1 h1)
  refine v_assign rfl ?_
  refine v_nil ?_
  refine q_n ?_
  refine w_ret ?_
  refine r_r rfl ?_
  exact a_b (by simp only [Bool.false_eq_true, false_iff]; exact fun h => h1 ((fix_ge _ _).2 h))
theorem cAA1 (x : Option Nat) (hx : Sg x) : PureC X 140 [.c (.f .f32 x)] (cB (decide (¬ amtB x = true))) := by
  refine PureC.of_body (drawD_ok X) (fun _ _ => Go.Proofs.Tryz.call140 _ _) Go.Proofs.Tryz.func140 rfl (n := 6) rfl ?_
  refine w_seq ?_
  refine w_reg rfl ?_
  refine v_assign (c := .v (.bool false)) rfl ?_
  refine v_nil ?_
  refine q_n ?_
  refine w_seq ?_
  refine w_reg rfl ?_
  refine v_move rfl ?_
  refine v_callb (cAmI _ hx) rfl rfl (.cons vw_f .nil) (fun h1 => ?_) (fun h1 => ?_)
  rotate_left
  · refine v_not true rfl rfl ?_
    refine v_assign rfl ?_
    refine v_nil ?_
    refine q_n ?_
    refine w_ret ?_
    refine r_r rfl ?_
    exact a_b (by simp_all)
  refine v_not false rfl rfl ?_
  refine v_assign rfl ?_
  refine v_nil ?_
  refine q_n ?_
  refine w_ret ?_
  refine r_r rfl ?_
  exact a_b (by simp_all)
theorem cIFf (g : FuncId) (pr : (Option Nat) → Prop) [DecidablePred pr] (xs : List (Option Nat)) (hx : xs.length ≤ 2 ^ 40) (hF : ∀ x ∈ xs, PureC X g [.c (.f .f32 x)] (cB (decide (pr x)))) : PureC X 186 [.c (.sl false xs.length 1 (flat fe xs)), .c (.fn g [])] (cI (fix pr xs)) := by
  refine PureC.of_body (drawD_ok X) (fun _ _ => Go.Proofs.Tryz.call186 _ _) Go.Proofs.Tryz.func186 rfl (n := 19) rfl ?_
  refine w_seq ?_
  refine w_reg rfl ?_
  refine v_assign (c := .v (.int .i64 0)) rfl ?_
  refine v_nil ?_
  refine q_n ?_
  refine w_seq ?_
  refine w_seq ?_
  refine w_reg rfl ?_
  refine v_move rfl ?_
  refine v_len_sl lay23 rfl ?_
  refine v_move (c := .v (.int .i64 0)) rfl ?_
  refine v_nil ?_
  refine q_n ?_
  refine w_block ?_
  refine w_loop (fun k sl H => ∃ i : Nat, k = xs.length - i ∧ i ≤ xs.length ∧ (∀ x ∈ xs.take i, ¬ pr x) ∧ sl = sls [(0, .c (.sl false xs.length 1 (flat fe xs))), (1, .c (.fn g [])), (7, cI xs.length), (8, cI i)] ∧ H = []) ?_ ?_
  · refine ⟨_, _, _, ?_, 0, rfl, Nat.zero_le _, by simp, rfl, rfl⟩
    exact turn0 ⟨tr_sl, tr_fn0, tr_v, tr_v, trivial⟩
  rintro k sl H ⟨i, rfl, hi, hp, rfl, rfl⟩
  refine w_seq ?_
  refine w_reg rfl ?_
  refine v_lss lay3 rfl rfl (fun h1 => ?_) (fun h1 => ?_)
  rotate_left
  · refine v_nil ?_
    refine q_n ?_
    refine w_seq ?_
    refine w_f rfl ?_
    refine w_exit ?_
    refine q_e ?_
    refine q_e ?_
    refine q_hit ?_
    refine q_n ?_
    refine w_seq ?_
    refine w_reg rfl ?_
    refine v_assign (c := .v (.int .i64 (-1))) rfl ?_
    refine v_nil ?_
    refine q_n ?_
    refine w_ret ?_
    refine r_r rfl ?_
    obtain rfl : i = xs.length := by omega
    rw [List.take_length] at hp
    exact a_i (fix_none hp).symm
  have hj : i < xs.length := by omega
  refine v_nil ?_
  refine q_n ?_
  refine w_seq ?_
  refine w_t rfl ?_
  refine w_skip ?_
  refine q_n ?_
  refine w_seq ?_
  refine w_block ?_
  refine w_seq ?_
  refine w_reg rfl ?_
  refine v_move rfl ?_
  refine v_assign rfl ?_
  refine v_nil ?_
  refine q_n ?_
  refine w_seq ?_
  refine w_reg rfl ?_
  refine v_move rfl ?_
  refine v_move rfl ?_
  refine v_move rfl ?_
  refine v_idx_e (k := 1) (i) fe_len lay23 lay26 rfl rfl rfl (rfl) rfl (rfl) ((by omega : i < xs.length)) ?_
  refine v_load_vw (.c (.f _ _)) lay26 rfl rfl rfl ?_
  refine v_callb (hF _ (List.getElem_mem hj)) rfl rfl (.cons vw_f .nil) (fun h3 => ?_) (fun h3 => ?_)
  · refine v_nil ?_
    refine q_n ?_
    refine w_t rfl ?_
    refine w_seq ?_
    refine w_reg rfl ?_
    refine v_move rfl ?_
    refine v_assign rfl ?_
    refine v_nil ?_
    refine q_n ?_
    refine w_ret (q_br (q_r (q_r (q_br (q_r ?_)))))
    refine r_r rfl ?_
    exact a_i (fix_hit hj hp h3).symm
  refine v_nil ?_
  refine q_n ?_
  refine w_f rfl ?_
  refine w_skip ?_
  refine q_bn ?_
  refine q_n ?_
  refine w_reg rfl ?_
  refine v_add lay3 rfl rfl (i64r (by omega)) ?_
  refine v_move rfl ?_
  refine v_nil ?_
  refine q_n ?_
  refine ⟨_, _, _, ?_, ⟨i + 1, rfl, by omega, all_step hj hp h3, rfl, rfl⟩, by omega⟩
  exact turn0 ⟨tr_sl, tr_fn0, tr_v, tr_v, trivial⟩
theorem cCFf (g : FuncId) (pr : (Option Nat) → Prop) [DecidablePred pr] (xs : List (Option Nat)) (hx : xs.length ≤ 2 ^ 40) (hF : ∀ x ∈ xs, PureC X g [.c (.f .f32 x)] (cB (decide (pr x)))) : PureC X 139 [.c (.sl false xs.length 1 (flat fe xs)), .c (.fn g [])] (cB (decide (∃ x ∈ xs, pr x))) := by
  refine PureC.of_body (drawD_ok X) (fun _ _ => Go.Proofs.Tryz.call139 _ _) Go.Proofs.Tryz.func139 rfl (n := 9) rfl ?_
  refine w_seq ?_
  refine w_reg rfl ?_
  refine v_assign (c := .v (.bool false)) rfl ?_
  refine v_nil ?_
  refine q_n ?_
  refine w_seq ?_
  refine w_reg rfl ?_
  refine v_move rfl ?_
  refine v_move rfl ?_
  refine v_call (cIFf _ _ _ hx hF) rfl rfl rfl (.cons vw_sl (.cons (vw_fn .nil) .nil)) ?_
  refine v_geq lay3 rfl rfl (fun h1 => ?_) (fun h1 => ?_)
  · refine v_assign rfl ?_
    refine v_nil ?_
    refine q_n ?_
    refine w_ret ?_
    refine r_r rfl ?_
    exact a_b (by simp only [true_iff]; exact (fix_ge _ _).1 h1)
  refine v_assign rfl ?_
  refine v_nil ?_
  refine q_n ?_
  refine w_ret ?_
  refine r_r rfl ?_
  exact a_b (by simp only [Bool.false_eq_true, false_iff]; exact fun h => h1 ((fix_ge _ _).2 h))
theorem cAA (xs : List (Option Nat)) (hx : xs.length ≤ 2 ^ 40) (hW : ∀ x ∈ xs, Sg x) : PureC X 77 [.c (flo false xs)] (cB (decide (∀ x ∈ xs, amtB x = true))) := by
  refine PureC.of_body (drawD_ok X) (fun _ _ => Go.Proofs.Tryz.call77 _ _) Go.Proofs.Tryz.func77 rfl (n := 6) rfl ?_
  refine w_seq ?_
  refine w_reg rfl ?_
  refine v_assign (c := .v (.bool false)) rfl ?_
  refine v_nil ?_
  refine q_n ?_
  refine w_seq ?_
  refine w_reg rfl ?_
  refine v_move rfl ?_
  refine v_callb (cCFf 140 (fun x => ¬ amtB x = true) _ hx (fun x hr => cAA1 x (hW x hr))) rfl rfl (.cons vw_sl (.cons (vw_fn .nil) .nil)) (fun h1 => ?_) (fun h1 => ?_)
  rotate_left
  · refine v_not true rfl rfl ?_
    refine v_assign rfl ?_
    refine v_nil ?_
    refine q_n ?_
    refine w_ret ?_
    refine r_r rfl ?_
    exact a_b (by simp only [true_iff]; exact fun r hr => Decidable.byContradiction fun hn => h1 ⟨r, hr, hn⟩)
  refine v_not false rfl rfl ?_
  refine v_assign rfl ?_
  refine v_nil ?_
  refine q_n ?_
  refine w_ret ?_
  refine r_r rfl ?_
  exact a_b (by simp only [Bool.false_eq_true, false_iff]; exact fun h => by obtain ⟨r, hr, hn⟩ := h1; exact hn (h r hr))
theorem cIsRd (t : Tw) (n : Int) (hB : tB (2 ^ 20) t) : PureC X 181 [.agg (twf false t), cI n] (cB (decide (0 ≤ n ∧ n ≤ (t.1.length : Int) - 1))) := by
  refine PureC.of_body (drawD_ok X) (fun _ _ => Go.Proofs.Tryz.call181 _ _) Go.Proofs.Tryz.func181 rfl (n := 10) rfl ?_
  have hq := hB.1
  refine w_seq ?_
  refine w_reg rfl ?_
  refine v_box (m := 0) (H' := [_]) lay35 rfl rfl rfl ?_
  refine v_assign (c := .v (.bool false)) rfl ?_
  refine v_nil ?_
  refine q_n ?_
  refine w_seq ?_
  refine w_reg rfl ?_
  refine v_move rfl ?_
  refine v_fa_pt (off' := 0) lay35 rfl rfl rfl ?_
  refine v_load_pt (.c _) lay31 rfl rfl rfl rfl ?_
  refine v_len_sl lay31 rfl ?_
  refine v_callb (cPlace _ _ (by omega)) rfl rfl (.cons vw_v (.cons vw_v .nil)) (fun h1 => ?_) (fun h1 => ?_)
  · refine v_assign rfl ?_
    refine v_nil ?_
    refine q_n ?_
    refine w_ret ?_
    refine r_r rfl ?_
    exact a_b (by simp_all)
  refine v_assign rfl ?_
  refine v_nil ?_
  refine q_n ?_
  refine w_ret ?_
  refine r_r rfl ?_
  exact a_b (by simp_all)
theorem cTick (n : Int) : PureC X 76 [cI n] (cB (decide (0 ≤ n ∧ n ≤ 1000000000))) := by
  refine PureC.of_body (drawD_ok X) (fun _ _ => Go.Proofs.Tryz.call76 _ _) Go.Proofs.Tryz.func76 rfl (n := 5) rfl ?_
  refine w_seq ?_
  refine w_reg rfl ?_
  refine v_assign (c := .v (.bool false)) rfl ?_
  refine v_nil ?_
  refine q_n ?_
  refine w_seq ?_
  refine w_reg rfl ?_
  refine v_move rfl ?_
  refine v_callb (cInR _ _ _) rfl rfl (.cons vw_v (.cons vw_v (.cons vw_v .nil))) (fun h1 => ?_) (fun h1 => ?_)
  · refine v_assign rfl ?_
    refine v_nil ?_
    refine q_n ?_
    refine w_ret ?_
    refine r_r rfl ?_
    exact a_b (by simp_all)
  refine v_assign rfl ?_
  refine v_nil ?_
  refine q_n ?_
  refine w_ret ?_
  refine r_r rfl ?_
  exact a_b (by simp_all)
end Go.VL
namespace Go.VL
open Go.RowKit
set_option maxRecDepth 20000
set_option maxHeartbeats 8000000
/-- All are roads, and no two the same. -/
def unl (n : Nat) (xs : List Int) : Prop := ∀ i, (h : i < xs.length) → (0 ≤ xs[i] ∧ xs[i] ≤ (n : Int) - 1) ∧ ¬ xs[i] ∈ xs.take i
instance (n : Nat) (xs : List Int) : Decidable (unl n xs) := by unfold unl; infer_instance
theorem cIdx (xs : List Int) (v : Int) (hx : xs.length ≤ 2 ^ 40) : PureC X 184 [.c (ints false xs), cI v] (cI (fix (fun x => x = v) xs)) := by
  refine PureC.of_body (drawD_ok X) (fun _ _ => Go.Proofs.Tryz.call184 _ _) Go.Proofs.Tryz.func184 rfl (n := 19) rfl ?_
  refine w_seq ?_
  refine w_reg rfl ?_
  refine v_assign (c := .v (.int .i64 0)) rfl ?_
  refine v_nil ?_
  refine q_n ?_
  refine w_seq ?_
  refine w_seq ?_
  refine w_reg rfl ?_
  refine v_move rfl ?_
  refine v_len_sl lay73 rfl ?_
  refine v_move (c := .v (.int .i64 0)) rfl ?_
  refine v_nil ?_
  refine q_n ?_
  refine w_block ?_
  refine w_loop (fun k sl H => ∃ i : Nat, k = xs.length - i ∧ i ≤ xs.length ∧ (∀ x ∈ xs.take i, ¬ x = v) ∧ sl = sls [(0, .c (ints false xs)), (1, cI v), (7, cI xs.length), (8, cI i)] ∧ H = []) ?_ ?_
  · refine ⟨_, _, _, ?_, 0, rfl, Nat.zero_le _, by simp, rfl, rfl⟩
    exact turn0 ⟨tr_sl, tr_v, tr_v, tr_v, trivial⟩
  rintro k sl H ⟨i, rfl, hi, hp, rfl, rfl⟩
  refine w_seq ?_
  refine w_reg rfl ?_
  refine v_lss lay3 rfl rfl (fun h1 => ?_) (fun h1 => ?_)
  rotate_left
  · refine v_nil ?_
    refine q_n ?_
    refine w_seq ?_
    refine w_f rfl ?_
    refine w_exit ?_
    refine q_e ?_
    refine q_e ?_
    refine q_hit ?_
    refine q_n ?_
    refine w_seq ?_
    refine w_reg rfl ?_
    refine v_assign (c := .v (.int .i64 (-1))) rfl ?_
    refine v_nil ?_
    refine q_n ?_
    refine w_ret ?_
    refine r_r rfl ?_
    obtain rfl : i = xs.length := by omega
    rw [List.take_length] at hp
    exact a_i (fix_none hp).symm
  have hj : i < xs.length := by omega
  refine v_nil ?_
  refine q_n ?_
  refine w_seq ?_
  refine w_t rfl ?_
  refine w_skip ?_
  refine q_n ?_
  refine w_seq ?_
  refine w_block ?_
  refine w_seq ?_
  refine w_reg rfl ?_
  refine v_move rfl ?_
  refine v_assign rfl ?_
  refine v_nil ?_
  refine q_n ?_
  refine w_seq ?_
  refine w_reg rfl ?_
  refine v_move rfl ?_
  refine v_move rfl ?_
  refine v_move rfl ?_
  refine v_idx_e (k := 1) (i) int_len lay73 lay2 rfl rfl rfl (rfl) rfl (rfl) (hj) ?_
  refine v_load_vw (.c (.v _)) lay2 rfl rfl rfl ?_
  refine v_eql lay2 rfl rfl (fun h3 => ?_) (fun h3 => ?_)
  · have heq := h3
    refine v_nil ?_
    refine q_n ?_
    refine w_t rfl ?_
    refine w_seq ?_
    refine w_reg rfl ?_
    refine v_move rfl ?_
    refine v_assign rfl ?_
    refine v_nil ?_
    refine q_n ?_
    refine w_ret (q_br (q_r (q_r (q_br (q_r ?_)))))
    refine r_r rfl ?_
    exact a_i (fix_hit hj hp heq.symm).symm
  have heq := h3
  refine v_nil ?_
  refine q_n ?_
  refine w_f rfl ?_
  refine w_skip ?_
  refine q_bn ?_
  refine q_n ?_
  refine w_reg rfl ?_
  refine v_add lay3 rfl rfl (i64r (by omega)) ?_
  refine v_move rfl ?_
  refine v_nil ?_
  refine q_n ?_
  refine ⟨_, _, _, ?_, ⟨i + 1, rfl, by omega, all_step hj hp (fun e => heq e.symm), rfl, rfl⟩, by omega⟩
  exact turn0 ⟨tr_sl, tr_v, tr_v, tr_v, trivial⟩
theorem cCont (xs : List Int) (v : Int) (hx : xs.length ≤ 2 ^ 40) : PureC X 134 [.c (ints false xs), cI v] (cB (decide (v ∈ xs))) := by
  refine PureC.of_body (drawD_ok X) (fun _ _ => Go.Proofs.Tryz.call134 _ _) Go.Proofs.Tryz.func134 rfl (n := 9) rfl ?_
  refine w_seq ?_
  refine w_reg rfl ?_
  refine v_assign (c := .v (.bool false)) rfl ?_
  refine v_nil ?_
  refine q_n ?_
  refine w_seq ?_
  refine w_reg rfl ?_
  refine v_move rfl ?_
  refine v_move rfl ?_
  refine v_call (cIdx _ _ hx) rfl rfl rfl (.cons vw_sl (.cons vw_v .nil)) ?_
  refine v_geq lay3 rfl rfl (fun h1 => ?_) (fun h1 => ?_)
  · refine v_assign rfl ?_
    refine v_nil ?_
    refine q_n ?_
    refine w_ret ?_
    refine r_r rfl ?_
    exact a_b (by simp only [true_iff]; obtain ⟨x, q1, q2⟩ := (fix_ge _ _).1 h1; exact q2 ▸ q1)
  refine v_assign rfl ?_
  refine v_nil ?_
  refine q_n ?_
  refine w_ret ?_
  refine r_r rfl ?_
  exact a_b (by simp only [Bool.false_eq_true, false_iff]; exact fun h => h1 ((fix_ge _ _).2 ⟨v, h, rfl⟩))
theorem cContN {xs : List Int} {v : Int} {n : Nat} (hn : n = xs.length) (hx : xs.length ≤ 2 ^ 40) : PureC X 134 [.c (.sl false n 1 (flat int xs)), cI v] (cB (decide (v ∈ xs))) := by
  subst hn
  exact cCont xs v hx
theorem cUnl (t : Tw) (xs : List Int) (hB : tB (2 ^ 20) t) (hx : xs.length ≤ 2 ^ 40) : PureC X 129 [.agg (twf false t), .c (ints false xs)] (cB (decide (unl t.1.length xs))) := by
  refine PureC.of_body (drawD_ok X) (fun _ _ => Go.Proofs.Tryz.call129 _ _) Go.Proofs.Tryz.func129 rfl (n := 26) rfl ?_
  refine w_seq ?_
  refine w_reg rfl ?_
  refine v_box (m := 0) (H' := [_]) lay35 rfl rfl rfl ?_
  refine v_assign (c := .v (.bool false)) rfl ?_
  refine v_nil ?_
  refine q_n ?_
  refine w_seq ?_
  refine w_seq ?_
  refine w_reg rfl ?_
  refine v_move rfl ?_
  refine v_len_sl lay73 rfl ?_
  refine v_move (c := .v (.int .i64 0)) rfl ?_
  refine v_nil ?_
  refine q_n ?_
  refine w_block ?_
  refine w_loop (fun k sl H => ∃ i : Nat, k = xs.length - i ∧ i ≤ xs.length ∧ (∀ q, q < i → (h : q < xs.length) → (0 ≤ xs[q] ∧ xs[q] ≤ (t.1.length : Int) - 1) ∧ ¬ xs[q] ∈ xs.take q) ∧ sl = sls [(1, .c (ints false xs)), (2, .c (.pt 0 0)), (7, .c (ints false xs)), (8, cI xs.length), (9, cI i)] ∧ H = [⟨twf false t, 35, true⟩]) ?_ ?_
  · refine ⟨_, _, _, ?_, 0, rfl, Nat.zero_le _, fun q hq => by omega, rfl, rfl⟩
    exact turn [some 0] rfl rfl rfl ⟨⟨_, rfl, .cons tr_sl (.cons tr_sl (.cons tr_sl (.cons tr_sl (.cons tr_v (.cons tr_f (.cons tr_f .nil))))))⟩, trivial⟩ ⟨tr_sl, tr_pt rfl, tr_sl, tr_v, tr_v, trivial⟩
  rintro k sl H ⟨i, rfl, hi, hp, rfl, rfl⟩
  refine w_seq ?_
  refine w_reg rfl ?_
  refine v_lss lay3 rfl rfl (fun h1 => ?_) (fun h1 => ?_)
  rotate_left
  · refine v_nil ?_
    refine q_n ?_
    refine w_seq ?_
    refine w_f rfl ?_
    refine w_exit ?_
    refine q_e ?_
    refine q_e ?_
    refine q_hit ?_
    refine q_n ?_
    refine w_seq ?_
    refine w_reg rfl ?_
    refine v_assign (c := .v (.bool true)) rfl ?_
    refine v_nil ?_
    refine q_n ?_
    refine w_ret ?_
    refine r_r rfl ?_
    exact a_b (by simp only [true_iff]; exact fun q h => hp q (by omega) h)
  have hj : i < xs.length := by omega
  refine v_nil ?_
  refine q_n ?_
  refine w_seq ?_
  refine w_t rfl ?_
  refine w_skip ?_
  refine q_n ?_
  refine w_seq ?_
  refine w_block ?_
  refine w_seq ?_
  refine w_reg rfl ?_
  refine v_move rfl ?_
  refine v_idx_e (k := 1) (i) int_len lay73 lay2 rfl rfl rfl (rfl) rfl (rfl) (hj) ?_
  refine v_load_vw (.c (.v _)) lay2 rfl rfl rfl ?_
  refine v_assign rfl ?_
  refine v_assign rfl ?_
  refine v_nil ?_
  refine q_n ?_
  refine w_seq ?_
  refine w_reg rfl ?_
  refine v_load_pt (.agg [_, _, _, _, _, _, _]) lay35 rfl rfl rfl rfl ?_
  refine v_move rfl ?_
  refine v_callb (cIsRd _ _ (by assumption)) rfl rfl (.cons (vw_agg (.cons vw_sl (.cons vw_sl (.cons vw_sl (.cons vw_sl (.cons vw_v (.cons vw_f (.cons vw_f .nil)))))))) (.cons vw_v .nil)) (fun h3 => ?_) (fun h3 => ?_)
  rotate_left
  · have hrd := h3
    refine v_not true rfl rfl ?_
    refine v_move rfl ?_
    refine v_guard_off rfl rfl rfl ?_
    refine v_guard_off rfl rfl rfl ?_
    refine v_guard_off rfl rfl rfl ?_
    refine v_guard_off rfl rfl rfl ?_
    refine v_guard_off rfl rfl rfl ?_
    refine v_pick_t (v := .v (.bool true)) rfl rfl ?_
    refine v_nil ?_
    refine q_n ?_
    refine w_t rfl ?_
    refine w_seq ?_
    refine w_reg rfl ?_
    refine v_assign (c := .v (.bool false)) rfl ?_
    refine v_nil ?_
    refine q_n ?_
    refine w_ret (q_br (q_r (q_r (q_br (q_r ?_)))))
    refine r_r rfl ?_
    exact a_b (by simp only [Bool.false_eq_true, false_iff]; exact fun hu => hrd (hu i hj).1)
  have hrd := h3
  refine v_not false rfl rfl ?_
  refine v_move rfl ?_
  refine v_guard_on rfl rfl ?_
  refine v_move rfl ?_
  refine v_guard_on rfl rfl ?_
  refine v_move rfl ?_
  refine v_guard_on rfl rfl ?_
  refine v_slice_sl (0) (i) int_len lay73 lay2 rfl rfl rfl rfl rfl (rfl) (rfl) (⟨Nat.zero_le _, hi⟩) ?_
  refine v_guard_on rfl rfl ?_
  refine v_move rfl ?_
  refine v_guard_on rfl rfl ?_
  refine v_callb (cContN (by simp; try omega) (by simp; try omega)) rfl rfl (.cons vw_sl (.cons vw_v .nil)) (fun h4 => ?_) (fun h4 => ?_)
  · have hmm := h4
    rw [List.drop_zero, Nat.sub_zero] at hmm
    refine v_pick_f rfl rfl ?_
    refine v_nil ?_
    refine q_n ?_
    refine w_t rfl ?_
    refine w_seq ?_
    refine w_reg rfl ?_
    refine v_assign (c := .v (.bool false)) rfl ?_
    refine v_nil ?_
    refine q_n ?_
    refine w_ret (q_br (q_r (q_r (q_br (q_r ?_)))))
    refine r_r rfl ?_
    exact a_b (by simp only [Bool.false_eq_true, false_iff]; exact fun hu => (hu i hj).2 hmm)
  have hmm := h4
  rw [List.drop_zero, Nat.sub_zero] at hmm
  refine v_pick_f rfl rfl ?_
  refine v_nil ?_
  refine q_n ?_
  refine w_f rfl ?_
  refine w_skip ?_
  refine q_bn ?_
  refine q_n ?_
  refine w_reg rfl ?_
  refine v_add lay3 rfl rfl (i64r (by omega)) ?_
  refine v_move rfl ?_
  refine v_nil ?_
  refine q_n ?_
  refine ⟨_, _, _, ?_, ⟨i + 1, rfl, by omega, fun q hq h => ?_, rfl, rfl⟩, by omega⟩
  · exact turn [some 0] rfl rfl rfl ⟨⟨_, rfl, .cons tr_sl (.cons tr_sl (.cons tr_sl (.cons tr_sl (.cons tr_v (.cons tr_f (.cons tr_f .nil))))))⟩, trivial⟩ ⟨tr_sl, tr_pt rfl, tr_sl, tr_v, tr_v, trivial⟩
  · rcases Nat.lt_or_eq_of_le (Nat.le_of_lt_succ hq) with h2 | rfl
    · exact hp q h2 h
    · exact ⟨hrd, hmm⟩
end Go.VL
namespace Go.VL
open Go.RowKit
set_option maxRecDepth 20000
set_option maxHeartbeats 8000000
theorem cisOut1 (j : Jo) (n : Int) (hx : j.2.2.1.length ≤ 2 ^ 40) : PureC X 133 [.agg (jof false j), .c (.vw false [.v (.int .i64 n)] 0)] (cB (decide (n ∈ j.2.2.1))) := by
  refine PureC.of_body (drawD_ok X) (fun _ _ => Go.Proofs.Tryz.call133 _ _) Go.Proofs.Tryz.func133 rfl (n := 8) rfl ?_
  refine w_seq ?_
  refine w_reg rfl ?_
  refine v_box (m := 0) (H' := [_]) lay75 rfl rfl rfl ?_
  refine v_assign (c := .v (.bool false)) rfl ?_
  refine v_nil ?_
  refine q_n ?_
  refine w_seq ?_
  refine w_reg rfl ?_
  refine v_fa_pt (off' := 23) lay75 rfl rfl rfl ?_
  refine v_load_pt (.c _) lay73 rfl rfl rfl rfl ?_
  refine v_load_vw (.c (.v _)) lay2 rfl rfl rfl ?_
  refine v_callb (cContN rfl (by assumption)) rfl rfl (.cons vw_sl (.cons vw_v .nil)) (fun h1 => ?_) (fun h1 => ?_)
  · refine v_assign rfl ?_
    refine v_nil ?_
    refine q_n ?_
    refine w_ret ?_
    refine r_r rfl ?_
    exact a_b (by simp_all)
  refine v_assign rfl ?_
  refine v_nil ?_
  refine q_n ?_
  refine w_ret ?_
  refine r_r rfl ?_
  exact a_b (by simp_all)
theorem cIFj (g : FuncId) (cs : List C) (pr : Jo → Prop) [DecidablePred pr] (xs : List Jo) (hx : xs.length ≤ 2 ^ 40) (hF : ∀ x ∈ xs, PureC X g [.agg (jof false x), .c (.vw false cs 0)] (cB (decide (pr x)))) : PureC X 183 [.c (.sl false xs.length 25 (flat joc xs)), .c (.fn g [.vw false cs 0])] (cI (fix pr xs)) := by
  refine PureC.of_body (drawD_ok X) (fun _ _ => Go.Proofs.Tryz.call183 _ _) Go.Proofs.Tryz.func183 rfl (n := 19) rfl ?_
  refine w_seq ?_
  refine w_reg rfl ?_
  refine v_assign (c := .v (.int .i64 0)) rfl ?_
  refine v_nil ?_
  refine q_n ?_
  refine w_seq ?_
  refine w_seq ?_
  refine w_reg rfl ?_
  refine v_move rfl ?_
  refine v_len_sl lay32 rfl ?_
  refine v_move (c := .v (.int .i64 0)) rfl ?_
  refine v_nil ?_
  refine q_n ?_
  refine w_block ?_
  refine w_loop (fun k sl H => ∃ i : Nat, k = xs.length - i ∧ i ≤ xs.length ∧ (∀ x ∈ xs.take i, ¬ pr x) ∧ sl = sls [(0, .c (.sl false xs.length 25 (flat joc xs))), (1, .c (.fn g [.vw false cs 0])), (7, cI xs.length), (8, cI i)] ∧ H = []) ?_ ?_
  · refine ⟨_, _, _, ?_, 0, rfl, Nat.zero_le _, by simp, rfl, rfl⟩
    exact turn0 ⟨tr_sl, tr_fn1, tr_v, tr_v, trivial⟩
  rintro k sl H ⟨i, rfl, hi, hp, rfl, rfl⟩
  refine w_seq ?_
  refine w_reg rfl ?_
  refine v_lss lay3 rfl rfl (fun h1 => ?_) (fun h1 => ?_)
  rotate_left
  · refine v_nil ?_
    refine q_n ?_
    refine w_seq ?_
    refine w_f rfl ?_
    refine w_exit ?_
    refine q_e ?_
    refine q_e ?_
    refine q_hit ?_
    refine q_n ?_
    refine w_seq ?_
    refine w_reg rfl ?_
    refine v_assign (c := .v (.int .i64 (-1))) rfl ?_
    refine v_nil ?_
    refine q_n ?_
    refine w_ret ?_
    refine r_r rfl ?_
    obtain rfl : i = xs.length := by omega
    rw [List.take_length] at hp
    exact a_i (fix_none hp).symm
  have hj : i < xs.length := by omega
  refine v_nil ?_
  refine q_n ?_
  refine w_seq ?_
  refine w_t rfl ?_
  refine w_skip ?_
  refine q_n ?_
  refine w_seq ?_
  refine w_block ?_
  refine w_seq ?_
  refine w_reg rfl ?_
  refine v_move rfl ?_
  refine v_assign rfl ?_
  refine v_nil ?_
  refine q_n ?_
  refine w_seq ?_
  refine w_reg rfl ?_
  refine v_move rfl ?_
  refine v_move rfl ?_
  refine v_move rfl ?_
  refine v_idx_e (k := 25) (i) joc_len lay32 lay75 rfl rfl rfl (rfl) rfl (rfl) ((by omega : i < xs.length)) ?_
  refine v_load_vw (.agg [.v _, .v _, .f _ _, .f _ _, .f _ _, .f _ _, .f _ _, .f _ _, .f _ _, .f _ _, .f _ _, .f _ _, .f _ _, .f _ _, .f _ _, .f _ _, .f _ _, .f _ _, .f _ _, .f _ _, .f _ _, .f _ _, _, _, .v _]) lay75 rfl rfl rfl ?_
  refine v_callb (hF _ (List.getElem_mem hj)) rfl rfl (.cons (vw_agg (.cons vw_v (.cons vw_v (.cons vw_f (.cons vw_f (.cons vw_f (.cons vw_f (.cons vw_f (.cons vw_f (.cons vw_f (.cons vw_f (.cons vw_f (.cons vw_f (.cons vw_f (.cons vw_f (.cons vw_f (.cons vw_f (.cons vw_f (.cons vw_f (.cons vw_f (.cons vw_f (.cons vw_f (.cons vw_f (.cons vw_sl (.cons vw_sl (.cons vw_v .nil)))))))))))))))))))))))))) (.cons vw_vw .nil)) (fun h3 => ?_) (fun h3 => ?_)
  · refine v_nil ?_
    refine q_n ?_
    refine w_t rfl ?_
    refine w_seq ?_
    refine w_reg rfl ?_
    refine v_move rfl ?_
    refine v_assign rfl ?_
    refine v_nil ?_
    refine q_n ?_
    refine w_ret (q_br (q_r (q_r (q_br (q_r ?_)))))
    refine r_r rfl ?_
    exact a_i (fix_hit hj hp h3).symm
  refine v_nil ?_
  refine q_n ?_
  refine w_f rfl ?_
  refine w_skip ?_
  refine q_bn ?_
  refine q_n ?_
  refine w_reg rfl ?_
  refine v_add lay3 rfl rfl (i64r (by omega)) ?_
  refine v_move rfl ?_
  refine v_nil ?_
  refine q_n ?_
  refine ⟨_, _, _, ?_, ⟨i + 1, rfl, by omega, all_step hj hp h3, rfl, rfl⟩, by omega⟩
  exact turn0 ⟨tr_sl, tr_fn1, tr_v, tr_v, trivial⟩
theorem cCFj (g : FuncId) (cs : List C) (pr : Jo → Prop) [DecidablePred pr] (xs : List Jo) (hx : xs.length ≤ 2 ^ 40) (hF : ∀ x ∈ xs, PureC X g [.agg (jof false x), .c (.vw false cs 0)] (cB (decide (pr x)))) : PureC X 132 [.c (.sl false xs.length 25 (flat joc xs)), .c (.fn g [.vw false cs 0])] (cB (decide (∃ x ∈ xs, pr x))) := by
  refine PureC.of_body (drawD_ok X) (fun _ _ => Go.Proofs.Tryz.call132 _ _) Go.Proofs.Tryz.func132 rfl (n := 9) rfl ?_
  refine w_seq ?_
  refine w_reg rfl ?_
  refine v_assign (c := .v (.bool false)) rfl ?_
  refine v_nil ?_
  refine q_n ?_
  refine w_seq ?_
  refine w_reg rfl ?_
  refine v_move rfl ?_
  refine v_move rfl ?_
  refine v_call (cIFj _ cs _ _ hx hF) rfl rfl rfl (.cons vw_sl (.cons (vw_fn (.cons vw_vw .nil)) .nil)) ?_
  refine v_geq lay3 rfl rfl (fun h1 => ?_) (fun h1 => ?_)
  · refine v_assign rfl ?_
    refine v_nil ?_
    refine q_n ?_
    refine w_ret ?_
    refine r_r rfl ?_
    exact a_b (by simp only [true_iff]; exact (fix_ge _ _).1 h1)
  refine v_assign rfl ?_
  refine v_nil ?_
  refine q_n ?_
  refine w_ret ?_
  refine r_r rfl ?_
  exact a_b (by simp only [Bool.false_eq_true, false_iff]; exact fun h => h1 ((fix_ge _ _).2 h))
theorem cIsOut (t : Tw) (n : Int) (hB : tB (2 ^ 20) t) : PureC X 72 [.agg (twf false t), cI n] (cB (decide (∃ j ∈ t.2.2.1, n ∈ j.2.2.1))) := by
  refine PureC.of_body (drawD_ok X) (fun _ _ => Go.Proofs.Tryz.call72 _ _) Go.Proofs.Tryz.func72 rfl (n := 9) rfl ?_
  refine w_seq ?_
  refine w_reg rfl ?_
  refine v_box (m := 0) (H' := [_]) lay35 rfl rfl rfl ?_
  refine v_box (m := 1) (H' := [_, _]) lay2 rfl rfl rfl ?_
  refine v_assign (c := .v (.bool false)) rfl ?_
  refine v_nil ?_
  refine q_n ?_
  refine w_seq ?_
  refine w_reg rfl ?_
  refine v_fa_pt (off' := 2) lay35 rfl rfl rfl ?_
  refine v_load_pt (.c _) lay32 rfl rfl rfl rfl ?_
  refine v_fn rfl ?_
  refine v_callb (cCFj 133 [.v (.int .i64 n)] (fun j => n ∈ j.2.2.1) _ (by have := hB.2.2.1; omega) (fun j hj => cisOut1 j n (by have := hB.2.2.2.1 j hj; omega))) rfl rfl (.cons vw_sl (.cons (vw_fn (.cons (vw_pt rfl (.cons .v .nil)) .nil)) .nil)) (fun h1 => ?_) (fun h1 => ?_)
  · refine v_assign rfl ?_
    refine v_nil ?_
    refine q_n ?_
    refine w_ret ?_
    refine r_r rfl ?_
    exact a_b (by simp only [true_iff]; exact h1)
  refine v_assign rfl ?_
  refine v_nil ?_
  refine q_n ?_
  refine w_ret ?_
  refine r_r rfl ?_
  exact a_b (by simp only [Bool.false_eq_true, false_iff]; exact h1)
end Go.VL
