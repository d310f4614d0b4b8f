/- Texts of one proof, put together: T5, T6, TO, B0. -/
import Derived.Test.YtejgddephbaenaaM4
import Derived.Test.YtejgddephbaenaaM3
import Derived.Test.YtejgddephbaenaaRows
import Derived.ProofKit
import Derived.Below
import Derived.ChangeSame
import Derived.Handed
import Derived.KernelRfl
namespace Go.VL
open Go.RowKit
set_option maxRecDepth 20000
set_option maxHeartbeats 8000000
theorem l16_all {α : Type} {p : α → Prop} {g : Fin 16 → α} (h : ∀ i (hi : i < 16), p (g ⟨i, hi⟩)) : ∀ x ∈ l16 g, p x := fun x hx => by
  obtain ⟨i, hi, rfl⟩ := List.getElem_of_mem hx
  rw [l16_get g (by rwa [l16_len] at hi)]
  exact h i _
theorem l4_all {α : Type} {p : α → Prop} {g : Fin 4 → α} (h : ∀ i (hi : i < 4), p (g ⟨i, hi⟩)) : ∀ x ∈ l4 g, p x := fun x hx => by
  obtain ⟨i, hi, rfl⟩ := List.getElem_of_mem hx
  rw [l4_get g (by rwa [l4_len] at hi)]
  exact h i _
theorem cEFf (g : FuncId) (xs ys : List (Option Nat)) (hx : xs.length ≤ 2 ^ 40) (hF : ∀ x ∈ xs, ∀ y ∈ ys, PureC X g [.c (.f .f32 x), .c (.f .f32 y)] (cB (decide (x = y)))) : PureC X 59 [.c (.sl false xs.length 1 (flat fe xs)), .c (.sl false ys.length 1 (flat fe ys)), .c (.fn g [])] (cB (decide (xs = ys))) := by
  refine PureC.of_body (drawD_ok X) (fun _ _ => Go.Proofs.Try.call59 _ _) Go.Proofs.Try.func59 rfl (n := 32) rfl ?_
  refine w_seq ?_
  refine w_reg rfl ?_
  refine v_assign (c := .v (.bool false)) rfl ?_
  refine v_nil ?_
  refine q_n ?_
  refine w_seq ?_
  refine w_seq ?_
  refine w_reg rfl ?_
  refine v_move rfl ?_
  refine v_len_sl lay23 rfl ?_
  refine v_move rfl ?_
  refine v_len_sl lay23 rfl ?_
  refine v_neq lay3 rfl rfl (fun h1 => ?_) (fun h1 => ?_)
  · refine v_nil ?_
    refine q_n ?_
    refine w_t rfl ?_
    refine w_seq ?_
    refine w_reg rfl ?_
    refine v_assign (c := .v (.bool false)) rfl ?_
    refine v_nil ?_
    refine q_n ?_
    refine w_ret (q_r ?_)
    refine r_r rfl ?_
    exact a_b (by simp only [Bool.false_eq_true, false_iff]; rintro rfl; exact h1 rfl)
  refine v_nil ?_
  refine q_n ?_
  refine w_f rfl ?_
  refine w_skip ?_
  refine q_n ?_
  refine w_seq ?_
  refine w_seq ?_
  refine w_reg rfl ?_
  refine v_move rfl ?_
  refine v_len_sl lay23 rfl ?_
  refine v_move (c := .v (.int .i64 0)) rfl ?_
  refine v_nil ?_
  refine q_n ?_
  refine w_block ?_
  refine w_loop (fun k sl H => ∃ i : Nat, k = xs.length - i ∧ i ≤ xs.length ∧ xs.take i = ys.take i ∧ sl = sls [(1, .c (.sl false ys.length 1 (flat fe ys))), (2, .c (.fn g [])), (15, .c (.sl false xs.length 1 (flat fe xs))), (16, cI xs.length), (17, cI i)] ∧ H = []) ?_ ?_
  · refine ⟨_, _, _, ?_, 0, rfl, Nat.zero_le _, rfl, rfl, rfl⟩
    exact turn0 ⟨tr_sl, tr_fn0, tr_sl, tr_v, tr_v, trivial⟩
  rintro k sl H ⟨i, rfl, hi, hp, rfl, rfl⟩
  refine w_seq ?_
  refine w_reg rfl ?_
  refine v_lss lay3 rfl rfl (fun h2 => ?_) (fun h2 => ?_)
  rotate_left
  · refine v_nil ?_
    refine q_n ?_
    refine w_seq ?_
    refine w_f rfl ?_
    refine w_exit ?_
    refine q_e ?_
    refine q_e ?_
    refine q_hit ?_
    refine q_n ?_
    refine w_seq ?_
    refine w_reg rfl ?_
    refine v_assign (c := .v (.bool true)) rfl ?_
    refine v_nil ?_
    refine q_n ?_
    refine w_ret ?_
    refine r_r rfl ?_
    exact a_b (by simp only [true_iff]; exact take_all_eq hp (by omega) (by omega))
  have i1 : i < xs.length := by omega
  have i2 : i < ys.length := by omega
  refine v_nil ?_
  refine q_n ?_
  refine w_seq ?_
  refine w_t rfl ?_
  refine w_skip ?_
  refine q_n ?_
  refine w_seq ?_
  refine w_block ?_
  refine w_seq ?_
  refine w_reg rfl ?_
  refine v_move rfl ?_
  refine v_idx_e (k := 1) (i) fe_len lay23 lay26 rfl rfl rfl (rfl) rfl (rfl) (i1) ?_
  refine v_load_vw (.c (.f _ _)) lay26 rfl rfl rfl ?_
  refine v_assign rfl ?_
  refine v_assign rfl ?_
  refine v_nil ?_
  refine q_n ?_
  refine w_seq ?_
  refine w_reg rfl ?_
  refine v_move rfl ?_
  refine v_move rfl ?_
  refine v_idx_e (k := 1) (i) fe_len lay23 lay26 rfl rfl rfl (rfl) rfl (rfl) (i2) ?_
  refine v_load_vw (.c (.f _ _)) lay26 rfl rfl rfl ?_
  refine v_assign rfl ?_
  refine v_nil ?_
  refine q_n ?_
  refine w_seq ?_
  refine w_reg rfl ?_
  refine v_move rfl ?_
  refine v_move rfl ?_
  refine v_move rfl ?_
  refine v_callb (hF _ (List.getElem_mem i1) _ (List.getElem_mem i2)) rfl rfl (.cons vw_f (.cons vw_f .nil)) (fun h5 => ?_) (fun h5 => ?_)
  rotate_left
  · have heq := h5
    refine v_not true rfl rfl ?_
    refine v_nil ?_
    refine q_n ?_
    refine w_t rfl ?_
    refine w_seq ?_
    refine w_reg rfl ?_
    refine v_assign (c := .v (.bool false)) rfl ?_
    refine v_nil ?_
    refine q_n ?_
    refine w_ret (q_br (q_r (q_r (q_br (q_r ?_)))))
    refine r_r rfl ?_
    exact a_b (by simp only [Bool.false_eq_true, false_iff]; exact ne_at i1 i2 heq)
  have heq := h5
  refine v_not false rfl rfl ?_
  refine v_nil ?_
  refine q_n ?_
  refine w_f rfl ?_
  refine w_skip ?_
  refine q_bn ?_
  refine q_n ?_
  refine w_reg rfl ?_
  refine v_add lay3 rfl rfl (i64r (by omega)) ?_
  refine v_move rfl ?_
  refine v_nil ?_
  refine q_n ?_
  refine ⟨_, _, _, ?_, ⟨i + 1, rfl, by omega, take_step_eq hp i1 i2 heq, rfl, rfl⟩, by omega⟩
  exact turn0 ⟨tr_sl, tr_fn0, tr_sl, tr_v, tr_v, trivial⟩
theorem cSameNs (xs ys : List (Option Nat)) (hx : xs.length ≤ 2 ^ 40) (hX : ∀ x ∈ xs, okF .f32 x) (hY : ∀ y ∈ ys, okF .f32 y) : PureC X 25 [.c (flo false xs), .c (flo false ys)] (cB (decide (xs = ys))) := by
  refine PureC.of_body (drawD_ok X) (fun _ _ => Go.Proofs.Try.call25 _ _) Go.Proofs.Try.func25 rfl (n := 8) rfl ?_
  refine w_seq ?_
  refine w_reg rfl ?_
  refine v_assign (c := .v (.bool false)) rfl ?_
  refine v_nil ?_
  refine q_n ?_
  refine w_seq ?_
  refine w_reg rfl ?_
  refine v_move rfl ?_
  refine v_move rfl ?_
  refine v_callb (cEFf 30 _ _ hx (fun x h1 y h2 => cSN x y (hX x h1) (hY y h2))) rfl rfl (.cons vw_sl (.cons vw_sl (.cons (vw_fn .nil) .nil))) (fun h1 => ?_) (fun h1 => ?_)
  · refine v_assign rfl ?_
    refine v_nil ?_
    refine q_n ?_
    refine w_ret ?_
    refine r_r rfl ?_
    exact a_b (by simp_all)
  refine v_assign rfl ?_
  refine v_nil ?_
  refine q_n ?_
  refine w_ret ?_
  refine r_r rfl ?_
  exact a_b (by simp_all)
theorem cSameRoad (r q : Rd) (hr : rW r) (hq : rW q) : PureC X 24 [.agg (rdc r), .agg (rdc q)] (cB (decide (r = q))) := by
  refine PureC.of_body (drawD_ok X) (fun _ _ => Go.Proofs.Try.call24 _ _) Go.Proofs.Try.func24 rfl (n := 31) rfl ?_
  refine w_seq ?_
  refine w_reg rfl ?_
  refine v_box (m := 0) (H' := [_]) lay56 rfl rfl rfl ?_
  refine v_box (m := 1) (H' := [_, _]) lay56 rfl rfl rfl ?_
  refine v_assign (c := .v (.bool false)) rfl ?_
  refine v_nil ?_
  refine q_n ?_
  refine w_seq ?_
  refine w_draw [0, 1, 0, 4, 15, 31, 63, 127, 63, 319, 1023, 2047, 4095, 8191, 16383, 8191, 40959, 131071, 262143, 524287, 1048575, 2097151, 1048575, 5242879, 16777215, 33554431, 67108863] [⟨0, 0, []⟩, ⟨1, 0, []⟩, ⟨2, 0, []⟩, ⟨3, 0, []⟩, ⟨4, 0, []⟩, ⟨5, 0, []⟩, ⟨6, 0, []⟩, ⟨7, 0, []⟩, ⟨8, 0, []⟩, ⟨9, 0, []⟩, ⟨10, 0, []⟩, ⟨11, 0, []⟩, ⟨12, 0, []⟩, ⟨13, 0, []⟩, ⟨14, 0, []⟩, ⟨15, 0, []⟩, ⟨16, 0, []⟩, ⟨17, 0, []⟩, ⟨18, 0, []⟩, ⟨19, 0, []⟩, ⟨20, 0, []⟩, ⟨21, 0, []⟩, ⟨22, 0, []⟩, ⟨23, 0, []⟩, ⟨24, 0, []⟩, ⟨25, 0, []⟩, ⟨26, 0, []⟩] rfl rfl ?_
  refine d_q rfl rfl rfl rfl rfl ?_
  refine v_fa_pt (off' := 0) lay56 rfl rfl rfl ?_
  refine v_nil ?_
  refine d_q rfl rfl rfl rfl rfl ?_
  refine v_slice_arr (k := 1) lay54 lay26 rfl rfl rfl rfl (by decide) (Nat.le_of_ble_eq_true rfl) ?_
  refine v_nil ?_
  refine d_q rfl rfl rfl rfl rfl ?_
  refine v_fa_pt (off' := 0) lay56 rfl rfl rfl ?_
  refine v_nil ?_
  refine d_q rfl rfl rfl rfl rfl ?_
  refine v_slice_arr (k := 1) lay54 lay26 rfl rfl rfl rfl (by decide) (Nat.le_of_ble_eq_true rfl) ?_
  refine v_nil ?_
  refine d_callb (cSameNs (l16 r.1) (l16 q.1) (Nat.le_of_ble_eq_true rfl) (l16_all fun i hi => (hr.1 i hi).1) (l16_all fun i hi => (hq.1 i hi).1)) rfl rfl rfl rfl (.cons (vw_part (xs := l16 r.1) fe_sc rfl rfl rfl (Nat.le_of_ble_eq_true rfl)) (.cons (vw_part (xs := l16 q.1) fe_sc rfl rfl rfl (Nat.le_of_ble_eq_true rfl)) .nil)) (fun h1 => ?_) (fun h1 => ?_)
  rotate_left
  · refine d_q rfl rfl rfl rfl rfl ?_
    refine v_move rfl ?_
    refine v_nil ?_
    refine d_off rfl rfl ?_
    refine d_off rfl rfl ?_
    refine d_off rfl rfl ?_
    refine d_off rfl rfl ?_
    refine d_off rfl rfl ?_
    refine d_q rfl rfl rfl rfl rfl ?_
    refine v_pick_f (v := .v (.bool false)) rfl rfl ?_
    refine v_nil ?_
    refine d_q rfl rfl rfl rfl rfl ?_
    refine v_move rfl ?_
    refine v_nil ?_
    refine d_off rfl rfl ?_
    refine d_off rfl rfl ?_
    refine d_off rfl rfl ?_
    refine d_off rfl rfl ?_
    refine d_off rfl rfl ?_
    refine d_q rfl rfl rfl rfl rfl ?_
    refine v_pick_f (v := .v (.bool false)) rfl rfl ?_
    refine v_nil ?_
    refine d_q rfl rfl rfl rfl rfl ?_
    refine v_move rfl ?_
    refine v_nil ?_
    refine d_off rfl rfl ?_
    refine d_off rfl rfl ?_
    refine d_off rfl rfl ?_
    refine d_off rfl rfl ?_
    refine d_off rfl rfl ?_
    refine d_q rfl rfl rfl rfl rfl ?_
    refine v_pick_f (v := .v (.bool false)) rfl rfl ?_
    refine v_nil ?_
    refine d_q rfl rfl rfl rfl rfl ?_
    refine v_assign rfl ?_
    refine v_nil ?_
    refine d_nil ?_
    refine q_n ?_
    refine w_ret ?_
    refine r_r rfl ?_
    exact a_b (by rw [rd_ext, ← l16_inj]; simp_all)
  refine d_q rfl rfl rfl rfl rfl ?_
  refine v_move rfl ?_
  refine v_nil ?_
  refine d_q rfl rfl rfl rfl rfl ?_
  refine v_fa_pt (off' := 16) lay56 rfl rfl rfl ?_
  refine v_nil ?_
  refine d_q rfl rfl rfl rfl rfl ?_
  refine v_load_pt (.c _) lay26 rfl rfl rfl rfl ?_
  refine v_nil ?_
  refine d_q rfl rfl rfl rfl rfl ?_
  refine v_fa_pt (off' := 16) lay56 rfl rfl rfl ?_
  refine v_nil ?_
  refine d_q rfl rfl rfl rfl rfl ?_
  refine v_load_pt (.c _) lay26 rfl rfl rfl rfl ?_
  refine v_nil ?_
  refine d_callb (cSN _ _ hr.2.1.1 hq.2.1.1) rfl rfl rfl rfl (.cons vw_f (.cons vw_f .nil)) (fun h2 => ?_) (fun h2 => ?_)
  rotate_left
  · refine d_q rfl rfl rfl rfl rfl ?_
    refine v_pick_t rfl rfl ?_
    refine v_nil ?_
    refine d_q rfl rfl rfl rfl rfl ?_
    refine v_move rfl ?_
    refine v_nil ?_
    refine d_off rfl rfl ?_
    refine d_off rfl rfl ?_
    refine d_off rfl rfl ?_
    refine d_off rfl rfl ?_
    refine d_off rfl rfl ?_
    refine d_q rfl rfl rfl rfl rfl ?_
    refine v_pick_f (v := .v (.bool false)) rfl rfl ?_
    refine v_nil ?_
    refine d_q rfl rfl rfl rfl rfl ?_
    refine v_move rfl ?_
    refine v_nil ?_
    refine d_off rfl rfl ?_
    refine d_off rfl rfl ?_
    refine d_off rfl rfl ?_
    refine d_off rfl rfl ?_
    refine d_off rfl rfl ?_
    refine d_q rfl rfl rfl rfl rfl ?_
    refine v_pick_f (v := .v (.bool false)) rfl rfl ?_
    refine v_nil ?_
    refine d_q rfl rfl rfl rfl rfl ?_
    refine v_assign rfl ?_
    refine v_nil ?_
    refine d_nil ?_
    refine q_n ?_
    refine w_ret ?_
    refine r_r rfl ?_
    exact a_b (by rw [rd_ext, ← l16_inj]; simp_all)
  refine d_q rfl rfl rfl rfl rfl ?_
  refine v_pick_t rfl rfl ?_
  refine v_nil ?_
  refine d_q rfl rfl rfl rfl rfl ?_
  refine v_move rfl ?_
  refine v_nil ?_
  refine d_q rfl rfl rfl rfl rfl ?_
  refine v_fa_pt (off' := 17) lay56 rfl rfl rfl ?_
  refine v_nil ?_
  refine d_q rfl rfl rfl rfl rfl ?_
  refine v_load_pt (.c _) lay26 rfl rfl rfl rfl ?_
  refine v_nil ?_
  refine d_q rfl rfl rfl rfl rfl ?_
  refine v_fa_pt (off' := 17) lay56 rfl rfl rfl ?_
  refine v_nil ?_
  refine d_q rfl rfl rfl rfl rfl ?_
  refine v_load_pt (.c _) lay26 rfl rfl rfl rfl ?_
  refine v_nil ?_
  refine d_callb (cSN _ _ hr.2.2.1.1 hq.2.2.1.1) rfl rfl rfl rfl (.cons vw_f (.cons vw_f .nil)) (fun h3 => ?_) (fun h3 => ?_)
  rotate_left
  · refine d_q rfl rfl rfl rfl rfl ?_
    refine v_pick_t rfl rfl ?_
    refine v_nil ?_
    refine d_q rfl rfl rfl rfl rfl ?_
    refine v_move rfl ?_
    refine v_nil ?_
    refine d_off rfl rfl ?_
    refine d_off rfl rfl ?_
    refine d_off rfl rfl ?_
    refine d_off rfl rfl ?_
    refine d_off rfl rfl ?_
    refine d_q rfl rfl rfl rfl rfl ?_
    refine v_pick_f (v := .v (.bool false)) rfl rfl ?_
    refine v_nil ?_
    refine d_q rfl rfl rfl rfl rfl ?_
    refine v_assign rfl ?_
    refine v_nil ?_
    refine d_nil ?_
    refine q_n ?_
    refine w_ret ?_
    refine r_r rfl ?_
    exact a_b (by rw [rd_ext, ← l16_inj]; simp_all)
  refine d_q rfl rfl rfl rfl rfl ?_
  refine v_pick_t rfl rfl ?_
  refine v_nil ?_
  refine d_q rfl rfl rfl rfl rfl ?_
  refine v_move rfl ?_
  refine v_nil ?_
  refine d_q rfl rfl rfl rfl rfl ?_
  refine v_fa_pt (off' := 18) lay56 rfl rfl rfl ?_
  refine v_nil ?_
  refine d_q rfl rfl rfl rfl rfl ?_
  refine v_load_pt (.c _) lay26 rfl rfl rfl rfl ?_
  refine v_nil ?_
  refine d_q rfl rfl rfl rfl rfl ?_
  refine v_fa_pt (off' := 18) lay56 rfl rfl rfl ?_
  refine v_nil ?_
  refine d_q rfl rfl rfl rfl rfl ?_
  refine v_load_pt (.c _) lay26 rfl rfl rfl rfl ?_
  refine v_nil ?_
  refine d_callb (cSN _ _ hr.2.2.2.1 hq.2.2.2.1) rfl rfl rfl rfl (.cons vw_f (.cons vw_f .nil)) (fun h4 => ?_) (fun h4 => ?_)
  · refine d_q rfl rfl rfl rfl rfl ?_
    refine v_pick_t rfl rfl ?_
    refine v_nil ?_
    refine d_q rfl rfl rfl rfl rfl ?_
    refine v_assign rfl ?_
    refine v_nil ?_
    refine d_nil ?_
    refine q_n ?_
    refine w_ret ?_
    refine r_r rfl ?_
    exact a_b (by rw [rd_ext, ← l16_inj]; simp_all)
  refine d_q rfl rfl rfl rfl rfl ?_
  refine v_pick_t rfl rfl ?_
  refine v_nil ?_
  refine d_q rfl rfl rfl rfl rfl ?_
  refine v_assign rfl ?_
  refine v_nil ?_
  refine d_nil ?_
  refine q_n ?_
  refine w_ret ?_
  refine r_r rfl ?_
  exact a_b (by rw [rd_ext, ← l16_inj]; simp_all)
theorem cSameFour (g h : Fo) (hg : ∀ i (hi : i < 4), okF .f32 (g ⟨i, hi⟩)) (hh : ∀ i (hi : i < 4), okF .f32 (h ⟨i, hi⟩)) : PureC X 87 [.agg (foc g), .agg (foc h)] (cB (decide (g = h))) := by
  refine PureC.of_body (drawD_ok X) (fun _ _ => Go.Proofs.Try.call87 _ _) Go.Proofs.Try.func87 rfl (n := 8) rfl ?_
  refine w_seq ?_
  refine w_reg rfl ?_
  refine v_box (m := 0) (H' := [_]) lay60 rfl rfl rfl ?_
  refine v_box (m := 1) (H' := [_, _]) lay60 rfl rfl rfl ?_
  refine v_assign (c := .v (.bool false)) rfl ?_
  refine v_nil ?_
  refine q_n ?_
  refine w_seq ?_
  refine w_draw [0, 0, 3, 7] [⟨0, 0, []⟩, ⟨1, 0, []⟩, ⟨2, 0, []⟩, ⟨3, 0, []⟩] rfl rfl ?_
  refine d_q rfl rfl rfl rfl rfl ?_
  refine v_slice_arr (k := 1) lay60 lay26 rfl rfl rfl rfl (by decide) (Nat.le_of_ble_eq_true rfl) ?_
  refine v_nil ?_
  refine d_q rfl rfl rfl rfl rfl ?_
  refine v_slice_arr (k := 1) lay60 lay26 rfl rfl rfl rfl (by decide) (Nat.le_of_ble_eq_true rfl) ?_
  refine v_nil ?_
  refine d_callb (cSameNs (l4 g) (l4 h) (Nat.le_of_ble_eq_true rfl) (l4_all hg) (l4_all hh)) rfl rfl rfl rfl (.cons (vw_part (xs := l4 g) fe_sc rfl rfl rfl (Nat.le_of_ble_eq_true rfl)) (.cons (vw_part (xs := l4 h) fe_sc rfl rfl rfl (Nat.le_of_ble_eq_true rfl)) .nil)) (fun h1 => ?_) (fun h1 => ?_)
  · refine d_q rfl rfl rfl rfl rfl ?_
    refine v_assign rfl ?_
    refine v_nil ?_
    refine d_nil ?_
    refine q_n ?_
    refine w_ret ?_
    refine r_r rfl ?_
    exact a_b (by rw [← l4_inj]; simp_all)
  refine d_q rfl rfl rfl rfl rfl ?_
  refine v_assign rfl ?_
  refine v_nil ?_
  refine d_nil ?_
  refine q_n ?_
  refine w_ret ?_
  refine r_r rfl ?_
  exact a_b (by rw [← l4_inj]; simp_all)
theorem cEFr (g : FuncId) (xs ys : List Fo) (hx : xs.length ≤ 2 ^ 40) (hF : ∀ x ∈ xs, ∀ y ∈ ys, PureC X g [.agg (foc x), .agg (foc y)] (cB (decide (x = y)))) : PureC X 86 [.c (.sl false xs.length 4 (flat foc xs)), .c (.sl false ys.length 4 (flat foc ys)), .c (.fn g [])] (cB (decide (xs = ys))) := by
  refine PureC.of_body (drawD_ok X) (fun _ _ => Go.Proofs.Try.call86 _ _) Go.Proofs.Try.func86 rfl (n := 32) rfl ?_
  refine w_seq ?_
  refine w_reg rfl ?_
  refine v_assign (c := .v (.bool false)) rfl ?_
  refine v_nil ?_
  refine q_n ?_
  refine w_seq ?_
  refine w_seq ?_
  refine w_reg rfl ?_
  refine v_move rfl ?_
  refine v_len_sl lay137 rfl ?_
  refine v_move rfl ?_
  refine v_len_sl lay137 rfl ?_
  refine v_neq lay3 rfl rfl (fun h1 => ?_) (fun h1 => ?_)
  · refine v_nil ?_
    refine q_n ?_
    refine w_t rfl ?_
    refine w_seq ?_
    refine w_reg rfl ?_
    refine v_assign (c := .v (.bool false)) rfl ?_
    refine v_nil ?_
    refine q_n ?_
    refine w_ret (q_r ?_)
    refine r_r rfl ?_
    exact a_b (by simp only [Bool.false_eq_true, false_iff]; rintro rfl; exact h1 rfl)
  refine v_nil ?_
  refine q_n ?_
  refine w_f rfl ?_
  refine w_skip ?_
  refine q_n ?_
  refine w_seq ?_
  refine w_seq ?_
  refine w_reg rfl ?_
  refine v_move rfl ?_
  refine v_len_sl lay137 rfl ?_
  refine v_move (c := .v (.int .i64 0)) rfl ?_
  refine v_nil ?_
  refine q_n ?_
  refine w_block ?_
  refine w_loop (fun k sl H => ∃ i : Nat, k = xs.length - i ∧ i ≤ xs.length ∧ xs.take i = ys.take i ∧ sl = sls [(1, .c (.sl false ys.length 4 (flat foc ys))), (2, .c (.fn g [])), (15, .c (.sl false xs.length 4 (flat foc xs))), (16, cI xs.length), (17, cI i)] ∧ H = []) ?_ ?_
  · refine ⟨_, _, _, ?_, 0, rfl, Nat.zero_le _, rfl, rfl, rfl⟩
    exact turn0 ⟨tr_sl, tr_fn0, tr_sl, tr_v, tr_v, trivial⟩
  rintro k sl H ⟨i, rfl, hi, hp, rfl, rfl⟩
  refine w_seq ?_
  refine w_reg rfl ?_
  refine v_lss lay3 rfl rfl (fun h2 => ?_) (fun h2 => ?_)
  rotate_left
  · refine v_nil ?_
    refine q_n ?_
    refine w_seq ?_
    refine w_f rfl ?_
    refine w_exit ?_
    refine q_e ?_
    refine q_e ?_
    refine q_hit ?_
    refine q_n ?_
    refine w_seq ?_
    refine w_reg rfl ?_
    refine v_assign (c := .v (.bool true)) rfl ?_
    refine v_nil ?_
    refine q_n ?_
    refine w_ret ?_
    refine r_r rfl ?_
    exact a_b (by simp only [true_iff]; exact take_all_eq hp (by omega) (by omega))
  have i1 : i < xs.length := by omega
  have i2 : i < ys.length := by omega
  refine v_nil ?_
  refine q_n ?_
  refine w_seq ?_
  refine w_t rfl ?_
  refine w_skip ?_
  refine q_n ?_
  refine w_seq ?_
  refine w_block ?_
  refine w_seq ?_
  refine w_reg rfl ?_
  refine v_move rfl ?_
  refine v_idx_e (k := 4) (i) foc_len lay137 lay60 rfl rfl rfl (rfl) rfl (rfl) (i1) ?_
  refine v_load_vw (.agg [.f _ _, .f _ _, .f _ _, .f _ _]) lay60 rfl rfl rfl ?_
  refine v_alloc (m := 0) (H' := [⟨[.f _ _, .f _ _, .f _ _, .f _ _], 60, true⟩]) lay60 rfl rfl ?_
  refine v_assign rfl ?_
  refine v_store (H' := [⟨[_, _, _, _], 60, true⟩]) lay60 rfl rfl rfl rfl rfl rfl ?_
  refine v_nil ?_
  refine q_n ?_
  refine w_seq ?_
  refine w_reg rfl ?_
  refine v_move rfl ?_
  refine v_move rfl ?_
  refine v_idx_e (k := 4) (i) foc_len lay137 lay60 rfl rfl rfl (rfl) rfl (rfl) (i2) ?_
  refine v_load_vw (.agg [.f _ _, .f _ _, .f _ _, .f _ _]) lay60 rfl rfl rfl ?_
  refine v_alloc (m := 1) (H' := [_, ⟨[.f _ _, .f _ _, .f _ _, .f _ _], 60, true⟩]) lay60 rfl rfl ?_
  refine v_store (H' := [_, ⟨[_, _, _, _], 60, true⟩]) lay60 rfl rfl rfl rfl rfl rfl ?_
  refine v_nil ?_
  refine q_n ?_
  refine w_seq ?_
  refine w_reg rfl ?_
  refine v_move rfl ?_
  refine v_load_pt (.agg [_, _, _, _]) lay60 rfl rfl rfl rfl ?_
  refine v_load_pt (.agg [_, _, _, _]) lay60 rfl rfl rfl rfl ?_
  refine v_callb (hF _ (List.getElem_mem i1) _ (List.getElem_mem i2)) rfl rfl (.cons (vw_agg (.cons vw_f (.cons vw_f (.cons vw_f (.cons vw_f .nil))))) (.cons (vw_agg (.cons vw_f (.cons vw_f (.cons vw_f (.cons vw_f .nil))))) .nil)) (fun h5 => ?_) (fun h5 => ?_)
  rotate_left
  · have heq := h5
    refine v_not true rfl rfl ?_
    refine v_nil ?_
    refine q_n ?_
    refine w_t rfl ?_
    refine w_seq ?_
    refine w_reg rfl ?_
    refine v_assign (c := .v (.bool false)) rfl ?_
    refine v_nil ?_
    refine q_n ?_
    refine w_ret (q_br (q_r (q_r (q_br (q_r ?_)))))
    refine r_r rfl ?_
    exact a_b (by simp only [Bool.false_eq_true, false_iff]; exact ne_at i1 i2 heq)
  have heq := h5
  refine v_not false rfl rfl ?_
  refine v_nil ?_
  refine q_n ?_
  refine w_f rfl ?_
  refine w_skip ?_
  refine q_bn ?_
  refine q_n ?_
  refine w_reg rfl ?_
  refine v_add lay3 rfl rfl (i64r (by omega)) ?_
  refine v_move rfl ?_
  refine v_nil ?_
  refine q_n ?_
  refine ⟨_, _, _, ?_, ⟨i + 1, rfl, by omega, take_step_eq hp i1 i2 heq, rfl, rfl⟩, by omega⟩
  exact turn0 ⟨tr_sl, tr_fn0, tr_sl, tr_v, tr_v, trivial⟩
theorem cSameJ (j q : Jn) (hj : jW j) (hq : jW q) : PureC X 60 [.agg (jnc j), .agg (jnc q)] (cB (decide (j = q))) := by
  refine PureC.of_body (drawD_ok X) (fun _ _ => Go.Proofs.Try.call60 _ _) Go.Proofs.Try.func60 rfl (n := 31) rfl ?_
  refine w_seq ?_
  refine w_reg rfl ?_
  refine v_box (m := 0) (H' := [_]) lay65 rfl rfl rfl ?_
  refine v_box (m := 1) (H' := [_, _]) lay65 rfl rfl rfl ?_
  refine v_assign (c := .v (.bool false)) rfl ?_
  refine v_nil ?_
  refine q_n ?_
  refine w_seq ?_
  refine w_draw [0, 1, 0, 4, 15, 31, 63, 127, 63, 319, 1023, 2047, 4095, 8191, 16383, 8191, 40959, 131071, 262143, 524287, 1048575, 2097151, 1048575, 5242879, 16777215, 33554431, 67108863] [⟨0, 0, []⟩, ⟨1, 0, []⟩, ⟨2, 0, []⟩, ⟨3, 0, []⟩, ⟨4, 0, []⟩, ⟨5, 0, []⟩, ⟨6, 0, []⟩, ⟨7, 0, []⟩, ⟨8, 0, []⟩, ⟨9, 0, []⟩, ⟨10, 0, []⟩, ⟨11, 0, []⟩, ⟨12, 0, []⟩, ⟨13, 0, []⟩, ⟨14, 0, []⟩, ⟨15, 0, []⟩, ⟨16, 0, []⟩, ⟨17, 0, []⟩, ⟨18, 0, []⟩, ⟨19, 0, []⟩, ⟨20, 0, []⟩, ⟨21, 0, []⟩, ⟨22, 0, []⟩, ⟨23, 0, []⟩, ⟨24, 0, []⟩, ⟨25, 0, []⟩, ⟨26, 0, []⟩] rfl rfl ?_
  refine d_q rfl rfl rfl rfl rfl ?_
  refine v_fa_pt (off' := 0) lay65 rfl rfl rfl ?_
  refine v_nil ?_
  refine d_q rfl rfl rfl rfl rfl ?_
  refine v_load_pt (.c _) lay2 rfl rfl rfl rfl ?_
  refine v_nil ?_
  refine d_q rfl rfl rfl rfl rfl ?_
  refine v_fa_pt (off' := 0) lay65 rfl rfl rfl ?_
  refine v_nil ?_
  refine d_q rfl rfl rfl rfl rfl ?_
  refine v_load_pt (.c _) lay2 rfl rfl rfl rfl ?_
  refine v_nil ?_
  refine d_q rfl rfl rfl rfl rfl ?_
  refine v_eql lay2 rfl rfl (fun h1 => ?_) (fun h1 => ?_)
  rotate_left
  · refine v_nil ?_
    refine d_q rfl rfl rfl rfl rfl ?_
    refine v_move rfl ?_
    refine v_nil ?_
    refine d_off rfl rfl ?_
    refine d_off rfl rfl ?_
    refine d_off rfl rfl ?_
    refine d_off rfl rfl ?_
    refine d_off rfl rfl ?_
    refine d_q rfl rfl rfl rfl rfl ?_
    refine v_pick_f (v := .v (.bool false)) rfl rfl ?_
    refine v_nil ?_
    refine d_q rfl rfl rfl rfl rfl ?_
    refine v_move rfl ?_
    refine v_nil ?_
    refine d_off rfl rfl ?_
    refine d_off rfl rfl ?_
    refine d_off rfl rfl ?_
    refine d_off rfl rfl ?_
    refine d_off rfl rfl ?_
    refine d_q rfl rfl rfl rfl rfl ?_
    refine v_pick_f (v := .v (.bool false)) rfl rfl ?_
    refine v_nil ?_
    refine d_q rfl rfl rfl rfl rfl ?_
    refine v_move rfl ?_
    refine v_nil ?_
    refine d_off rfl rfl ?_
    refine d_off rfl rfl ?_
    refine d_off rfl rfl ?_
    refine d_off rfl rfl ?_
    refine d_off rfl rfl ?_
    refine d_q rfl rfl rfl rfl rfl ?_
    refine v_pick_f (v := .v (.bool false)) rfl rfl ?_
    refine v_nil ?_
    refine d_q rfl rfl rfl rfl rfl ?_
    refine v_assign rfl ?_
    refine v_nil ?_
    refine d_nil ?_
    refine q_n ?_
    refine w_ret ?_
    refine r_r rfl ?_
    exact a_b (by rw [jn_ext, ← l4_inj (g := j.2.2.1)]; simp_all)
  refine v_nil ?_
  refine d_q rfl rfl rfl rfl rfl ?_
  refine v_move rfl ?_
  refine v_nil ?_
  refine d_q rfl rfl rfl rfl rfl ?_
  refine v_fa_pt (off' := 1) lay65 rfl rfl rfl ?_
  refine v_nil ?_
  refine d_q rfl rfl rfl rfl rfl ?_
  refine v_load_pt (.c _) lay2 rfl rfl rfl rfl ?_
  refine v_nil ?_
  refine d_q rfl rfl rfl rfl rfl ?_
  refine v_fa_pt (off' := 1) lay65 rfl rfl rfl ?_
  refine v_nil ?_
  refine d_q rfl rfl rfl rfl rfl ?_
  refine v_load_pt (.c _) lay2 rfl rfl rfl rfl ?_
  refine v_nil ?_
  refine d_q rfl rfl rfl rfl rfl ?_
  refine v_eql lay2 rfl rfl (fun h2 => ?_) (fun h2 => ?_)
  rotate_left
  · refine v_nil ?_
    refine d_q rfl rfl rfl rfl rfl ?_
    refine v_pick_t rfl rfl ?_
    refine v_nil ?_
    refine d_q rfl rfl rfl rfl rfl ?_
    refine v_move rfl ?_
    refine v_nil ?_
    refine d_off rfl rfl ?_
    refine d_off rfl rfl ?_
    refine d_off rfl rfl ?_
    refine d_off rfl rfl ?_
    refine d_off rfl rfl ?_
    refine d_q rfl rfl rfl rfl rfl ?_
    refine v_pick_f (v := .v (.bool false)) rfl rfl ?_
    refine v_nil ?_
    refine d_q rfl rfl rfl rfl rfl ?_
    refine v_move rfl ?_
    refine v_nil ?_
    refine d_off rfl rfl ?_
    refine d_off rfl rfl ?_
    refine d_off rfl rfl ?_
    refine d_off rfl rfl ?_
    refine d_off rfl rfl ?_
    refine d_q rfl rfl rfl rfl rfl ?_
    refine v_pick_f (v := .v (.bool false)) rfl rfl ?_
    refine v_nil ?_
    refine d_q rfl rfl rfl rfl rfl ?_
    refine v_assign rfl ?_
    refine v_nil ?_
    refine d_nil ?_
    refine q_n ?_
    refine w_ret ?_
    refine r_r rfl ?_
    exact a_b (by rw [jn_ext, ← l4_inj (g := j.2.2.1)]; simp_all)
  refine v_nil ?_
  refine d_q rfl rfl rfl rfl rfl ?_
  refine v_pick_t rfl rfl ?_
  refine v_nil ?_
  refine d_q rfl rfl rfl rfl rfl ?_
  refine v_move rfl ?_
  refine v_nil ?_
  refine d_q rfl rfl rfl rfl rfl ?_
  refine v_fa_pt (off' := 2) lay65 rfl rfl rfl ?_
  refine v_nil ?_
  refine d_q rfl rfl rfl rfl rfl ?_
  refine v_slice_arr (k := 4) lay62 lay60 rfl rfl rfl rfl (by decide) (Nat.le_of_ble_eq_true rfl) ?_
  refine v_nil ?_
  refine d_q rfl rfl rfl rfl rfl ?_
  refine v_fa_pt (off' := 2) lay65 rfl rfl rfl ?_
  refine v_nil ?_
  refine d_q rfl rfl rfl rfl rfl ?_
  refine v_slice_arr (k := 4) lay62 lay60 rfl rfl rfl rfl (by decide) (Nat.le_of_ble_eq_true rfl) ?_
  refine v_nil ?_
  refine d_callb (cEFr 87 (l4 j.2.2.1) (l4 q.2.2.1) (Nat.le_of_ble_eq_true rfl) (fun x h1 y h2 => cSameFour x y (l4_all (p := fun x => ∀ i (hi : i < 4), okF .f32 (x ⟨i, hi⟩)) (fun i hi k hk => (hj.1 i hi k hk).1) x h1) (l4_all (p := fun x => ∀ i (hi : i < 4), okF .f32 (x ⟨i, hi⟩)) (fun i hi k hk => (hq.1 i hi k hk).1) y h2))) rfl rfl rfl rfl (.cons (vw_part (xs := l4 j.2.2.1) foc_sc rfl rfl rfl (Nat.le_of_ble_eq_true rfl)) (.cons (vw_part (xs := l4 q.2.2.1) foc_sc rfl rfl rfl (Nat.le_of_ble_eq_true rfl)) (.cons (vw_fn .nil) .nil))) (fun h3 => ?_) (fun h3 => ?_)
  rotate_left
  · refine d_q rfl rfl rfl rfl rfl ?_
    refine v_pick_t rfl rfl ?_
    refine v_nil ?_
    refine d_q rfl rfl rfl rfl rfl ?_
    refine v_move rfl ?_
    refine v_nil ?_
    refine d_off rfl rfl ?_
    refine d_off rfl rfl ?_
    refine d_off rfl rfl ?_
    refine d_off rfl rfl ?_
    refine d_off rfl rfl ?_
    refine d_q rfl rfl rfl rfl rfl ?_
    refine v_pick_f (v := .v (.bool false)) rfl rfl ?_
    refine v_nil ?_
    refine d_q rfl rfl rfl rfl rfl ?_
    refine v_assign rfl ?_
    refine v_nil ?_
    refine d_nil ?_
    refine q_n ?_
    refine w_ret ?_
    refine r_r rfl ?_
    exact a_b (by rw [jn_ext, ← l4_inj (g := j.2.2.1)]; simp_all)
  refine d_q rfl rfl rfl rfl rfl ?_
  refine v_pick_t rfl rfl ?_
  refine v_nil ?_
  refine d_q rfl rfl rfl rfl rfl ?_
  refine v_move rfl ?_
  refine v_nil ?_
  refine d_q rfl rfl rfl rfl rfl ?_
  refine v_fa_pt (off' := 18) lay65 rfl rfl rfl ?_
  refine v_nil ?_
  refine d_q rfl rfl rfl rfl rfl ?_
  refine v_load_pt (.agg [_, _, _, _]) lay63 rfl rfl rfl rfl ?_
  refine v_nil ?_
  refine d_q rfl rfl rfl rfl rfl ?_
  refine v_fa_pt (off' := 18) lay65 rfl rfl rfl ?_
  refine v_nil ?_
  refine d_q rfl rfl rfl rfl rfl ?_
  refine v_load_pt (.agg [_, _, _, _]) lay63 rfl rfl rfl rfl ?_
  refine v_nil ?_
  refine d_callb (cSameFour _ _ (fun i hi => (hj.2 i hi).1) (fun i hi => (hq.2 i hi).1)) rfl rfl rfl rfl (.cons (vw_agg (.cons vw_f (.cons vw_f (.cons vw_f (.cons vw_f .nil))))) (.cons (vw_agg (.cons vw_f (.cons vw_f (.cons vw_f (.cons vw_f .nil))))) .nil)) (fun h4 => ?_) (fun h4 => ?_)
  · refine d_q rfl rfl rfl rfl rfl ?_
    refine v_pick_t rfl rfl ?_
    refine v_nil ?_
    refine d_q rfl rfl rfl rfl rfl ?_
    refine v_assign rfl ?_
    refine v_nil ?_
    refine d_nil ?_
    refine q_n ?_
    refine w_ret ?_
    refine r_r rfl ?_
    exact a_b (by rw [jn_ext, ← l4_inj (g := j.2.2.1)]; simp_all)
  refine d_q rfl rfl rfl rfl rfl ?_
  refine v_pick_t rfl rfl ?_
  refine v_nil ?_
  refine d_q rfl rfl rfl rfl rfl ?_
  refine v_assign rfl ?_
  refine v_nil ?_
  refine d_nil ?_
  refine q_n ?_
  refine w_ret ?_
  refine r_r rfl ?_
  exact a_b (by rw [jn_ext, ← l4_inj (g := j.2.2.1)]; simp_all)
theorem cEqI (xs ys : List Int) (hx : xs.length ≤ 2 ^ 40) : PureC X 61 [.c (.sl false xs.length 1 (flat int xs)), .c (.sl false ys.length 1 (flat int ys))] (cB (decide (xs = ys))) := by
  refine PureC.of_body (drawD_ok X) (fun _ _ => Go.Proofs.Try.call61 _ _) Go.Proofs.Try.func61 rfl (n := 26) rfl ?_
  refine w_seq ?_
  refine w_reg rfl ?_
  refine v_assign (c := .v (.bool false)) rfl ?_
  refine v_nil ?_
  refine q_n ?_
  refine w_seq ?_
  refine w_seq ?_
  refine w_reg rfl ?_
  refine v_move rfl ?_
  refine v_len_sl lay66 rfl ?_
  refine v_move rfl ?_
  refine v_len_sl lay66 rfl ?_
  refine v_neq lay3 rfl rfl (fun h1 => ?_) (fun h1 => ?_)
  · refine v_nil ?_
    refine q_n ?_
    refine w_t rfl ?_
    refine w_seq ?_
    refine w_reg rfl ?_
    refine v_assign (c := .v (.bool false)) rfl ?_
    refine v_nil ?_
    refine q_n ?_
    refine w_ret (q_r ?_)
    refine r_r rfl ?_
    exact a_b (by simp only [Bool.false_eq_true, false_iff]; rintro rfl; exact h1 rfl)
  refine v_nil ?_
  refine q_n ?_
  refine w_f rfl ?_
  refine w_skip ?_
  refine q_n ?_
  refine w_seq ?_
  refine w_seq ?_
  refine w_reg rfl ?_
  refine v_move rfl ?_
  refine v_len_sl lay66 rfl ?_
  refine v_move (c := .v (.int .i64 0)) rfl ?_
  refine v_nil ?_
  refine q_n ?_
  refine w_block ?_
  refine w_loop (fun k sl H => ∃ i : Nat, k = xs.length - i ∧ i ≤ xs.length ∧ xs.take i = ys.take i ∧ sl = sls [(0, .c (.sl false xs.length 1 (flat int xs))), (1, .c (.sl false ys.length 1 (flat int ys))), (12, cI xs.length), (13, cI i)] ∧ H = []) ?_ ?_
  · refine ⟨_, _, _, ?_, 0, rfl, Nat.zero_le _, rfl, rfl, rfl⟩
    exact turn0 ⟨tr_sl, tr_sl, tr_v, tr_v, trivial⟩
  rintro k sl H ⟨i, rfl, hi, hp, rfl, rfl⟩
  refine w_seq ?_
  refine w_reg rfl ?_
  refine v_lss lay3 rfl rfl (fun h2 => ?_) (fun h2 => ?_)
  rotate_left
  · refine v_nil ?_
    refine q_n ?_
    refine w_seq ?_
    refine w_f rfl ?_
    refine w_exit ?_
    refine q_e ?_
    refine q_e ?_
    refine q_hit ?_
    refine q_n ?_
    refine w_seq ?_
    refine w_reg rfl ?_
    refine v_assign (c := .v (.bool true)) rfl ?_
    refine v_nil ?_
    refine q_n ?_
    refine w_ret ?_
    refine r_r rfl ?_
    exact a_b (by simp only [true_iff]; exact take_all_eq hp (by omega) (by omega))
  have i1 : i < xs.length := by omega
  have i2 : i < ys.length := by omega
  refine v_nil ?_
  refine q_n ?_
  refine w_seq ?_
  refine w_t rfl ?_
  refine w_skip ?_
  refine q_n ?_
  refine w_seq ?_
  refine w_block ?_
  refine w_seq ?_
  refine w_reg rfl ?_
  refine v_move rfl ?_
  refine v_assign rfl ?_
  refine v_nil ?_
  refine q_n ?_
  refine w_seq ?_
  refine w_draw [0, 0, 3, 7, 0, 0, 48, 112, 255] [⟨0, 0, []⟩, ⟨1, 0, []⟩, ⟨2, 0, []⟩, ⟨3, 0, []⟩, ⟨4, 0, []⟩, ⟨5, 0, []⟩, ⟨6, 0, []⟩, ⟨7, 0, []⟩, ⟨8, 0, []⟩] rfl rfl ?_
  refine d_q rfl rfl rfl rfl rfl ?_
  refine v_move rfl ?_
  refine v_nil ?_
  refine d_q rfl rfl rfl rfl rfl ?_
  refine v_move rfl ?_
  refine v_nil ?_
  refine d_q rfl rfl rfl rfl rfl ?_
  refine v_idx_e (k := 1) (i) int_len lay66 lay2 rfl rfl rfl (rfl) rfl (rfl) (i1) ?_
  refine v_nil ?_
  refine d_q rfl rfl rfl rfl rfl ?_
  refine v_load_vw (.c (.v _)) lay2 rfl rfl rfl ?_
  refine v_nil ?_
  refine d_q rfl rfl rfl rfl rfl ?_
  refine v_move rfl ?_
  refine v_nil ?_
  refine d_q rfl rfl rfl rfl rfl ?_
  refine v_move rfl ?_
  refine v_nil ?_
  refine d_q rfl rfl rfl rfl rfl ?_
  refine v_idx_e (k := 1) (i) int_len lay66 lay2 rfl rfl rfl (rfl) rfl (rfl) (i2) ?_
  refine v_nil ?_
  refine d_q rfl rfl rfl rfl rfl ?_
  refine v_load_vw (.c (.v _)) lay2 rfl rfl rfl ?_
  refine v_nil ?_
  refine d_q rfl rfl rfl rfl rfl ?_
  refine v_neq lay2 rfl rfl (fun h5 => ?_) (fun h5 => ?_)
  · have hne := h5
    refine v_nil ?_
    refine d_nil ?_
    refine q_n ?_
    refine w_t rfl ?_
    refine w_seq ?_
    refine w_reg rfl ?_
    refine v_assign (c := .v (.bool false)) rfl ?_
    refine v_nil ?_
    refine q_n ?_
    refine w_ret (q_br (q_r (q_r (q_br (q_r ?_)))))
    refine r_r rfl ?_
    exact a_b (by simp only [Bool.false_eq_true, false_iff]; exact ne_at i1 i2 hne)
  have hne := h5
  refine v_nil ?_
  refine d_nil ?_
  refine q_n ?_
  refine w_f rfl ?_
  refine w_skip ?_
  refine q_bn ?_
  refine q_n ?_
  refine w_reg rfl ?_
  refine v_add lay3 rfl rfl (i64r (by omega)) ?_
  refine v_move rfl ?_
  refine v_nil ?_
  refine q_n ?_
  refine ⟨_, _, _, ?_, ⟨i + 1, rfl, by omega, take_step_eq hp i1 i2 (by simpa using hne), rfl, rfl⟩, by omega⟩
  exact turn0 ⟨tr_sl, tr_sl, tr_v, tr_v, trivial⟩
theorem cEqSl (xs ys : List Slo) (hx : xs.length ≤ 2 ^ 40) (hX : ∀ s ∈ xs, -9223372036854775808 ≤ s.2 ∧ s.2 ≤ 9223372036854775807) (hY : ∀ s ∈ ys, -9223372036854775808 ≤ s.2 ∧ s.2 ≤ 9223372036854775807) : PureC X 62 [.c (.sl false xs.length 9 (flat stc xs)), .c (.sl false ys.length 9 (flat stc ys))] (cB (decide (xs = ys))) := by
  refine PureC.of_body (drawD_ok X) (fun _ _ => Go.Proofs.Try.call62 _ _) Go.Proofs.Try.func62 rfl (n := 26) rfl ?_
  refine w_seq ?_
  refine w_reg rfl ?_
  refine v_assign (c := .v (.bool false)) rfl ?_
  refine v_nil ?_
  refine q_n ?_
  refine w_seq ?_
  refine w_seq ?_
  refine w_reg rfl ?_
  refine v_move rfl ?_
  refine v_len_sl lay71 rfl ?_
  refine v_move rfl ?_
  refine v_len_sl lay71 rfl ?_
  refine v_neq lay3 rfl rfl (fun h1 => ?_) (fun h1 => ?_)
  · refine v_nil ?_
    refine q_n ?_
    refine w_t rfl ?_
    refine w_seq ?_
    refine w_reg rfl ?_
    refine v_assign (c := .v (.bool false)) rfl ?_
    refine v_nil ?_
    refine q_n ?_
    refine w_ret (q_r ?_)
    refine r_r rfl ?_
    exact a_b (by simp only [Bool.false_eq_true, false_iff]; rintro rfl; exact h1 rfl)
  refine v_nil ?_
  refine q_n ?_
  refine w_f rfl ?_
  refine w_skip ?_
  refine q_n ?_
  refine w_seq ?_
  refine w_seq ?_
  refine w_reg rfl ?_
  refine v_move rfl ?_
  refine v_len_sl lay71 rfl ?_
  refine v_move (c := .v (.int .i64 0)) rfl ?_
  refine v_nil ?_
  refine q_n ?_
  refine w_block ?_
  refine w_loop (fun k sl H => ∃ i : Nat, k = xs.length - i ∧ i ≤ xs.length ∧ xs.take i = ys.take i ∧ sl = sls [(0, .c (.sl false xs.length 9 (flat stc xs))), (1, .c (.sl false ys.length 9 (flat stc ys))), (12, cI xs.length), (13, cI i)] ∧ H = []) ?_ ?_
  · refine ⟨_, _, _, ?_, 0, rfl, Nat.zero_le _, rfl, rfl, rfl⟩
    exact turn0 ⟨tr_sl, tr_sl, tr_v, tr_v, trivial⟩
  rintro k sl H ⟨i, rfl, hi, hp, rfl, rfl⟩
  refine w_seq ?_
  refine w_reg rfl ?_
  refine v_lss lay3 rfl rfl (fun h2 => ?_) (fun h2 => ?_)
  rotate_left
  · refine v_nil ?_
    refine q_n ?_
    refine w_seq ?_
    refine w_f rfl ?_
    refine w_exit ?_
    refine q_e ?_
    refine q_e ?_
    refine q_hit ?_
    refine q_n ?_
    refine w_seq ?_
    refine w_reg rfl ?_
    refine v_assign (c := .v (.bool true)) rfl ?_
    refine v_nil ?_
    refine q_n ?_
    refine w_ret ?_
    refine r_r rfl ?_
    exact a_b (by simp only [true_iff]; exact take_all_eq hp (by omega) (by omega))
  have i1 : i < xs.length := by omega
  have i2 : i < ys.length := by omega
  refine v_nil ?_
  refine q_n ?_
  refine w_seq ?_
  refine w_t rfl ?_
  refine w_skip ?_
  refine q_n ?_
  refine w_seq ?_
  refine w_block ?_
  refine w_seq ?_
  refine w_reg rfl ?_
  refine v_move rfl ?_
  refine v_assign rfl ?_
  refine v_nil ?_
  refine q_n ?_
  refine w_seq ?_
  refine w_draw [0, 0, 3, 7, 0, 0, 48, 112, 255] [⟨0, 0, []⟩, ⟨1, 0, []⟩, ⟨2, 0, []⟩, ⟨3, 0, []⟩, ⟨4, 0, []⟩, ⟨5, 0, []⟩, ⟨6, 0, []⟩, ⟨7, 0, []⟩, ⟨8, 0, []⟩] rfl rfl ?_
  refine d_q rfl rfl rfl rfl rfl ?_
  refine v_move rfl ?_
  refine v_nil ?_
  refine d_q rfl rfl rfl rfl rfl ?_
  refine v_move rfl ?_
  refine v_nil ?_
  refine d_q rfl rfl rfl rfl rfl ?_
  refine v_idx_e (k := 9) (i) stc_len lay71 lay117 rfl rfl rfl (rfl) rfl (rfl) (i1) ?_
  refine v_nil ?_
  refine d_q rfl rfl rfl rfl rfl ?_
  refine v_load_vw (.agg [.v _, .v _, .v _, .v _, .v _, .v _, .v _, .v _, .v _]) lay117 rfl rfl rfl ?_
  refine v_nil ?_
  refine d_q rfl rfl rfl rfl rfl ?_
  refine v_move rfl ?_
  refine v_nil ?_
  refine d_q rfl rfl rfl rfl rfl ?_
  refine v_move rfl ?_
  refine v_nil ?_
  refine d_q rfl rfl rfl rfl rfl ?_
  refine v_idx_e (k := 9) (i) stc_len lay71 lay117 rfl rfl rfl (rfl) rfl (rfl) (i2) ?_
  refine v_nil ?_
  refine d_q rfl rfl rfl rfl rfl ?_
  refine v_load_vw (.agg [.v _, .v _, .v _, .v _, .v _, .v _, .v _, .v _, .v _]) lay117 rfl rfl rfl ?_
  refine v_nil ?_
  refine d_rawb (rqS (a := xs[i]) (b := ys[i]) (hX _ (List.getElem_mem i1)) (hY _ (List.getElem_mem i2)) rfl rfl) rfl rfl rfl rfl rfl (fun h5 => ?_) (fun h5 => ?_)
  · have hne := h5
    refine d_nil ?_
    refine q_n ?_
    refine w_t rfl ?_
    refine w_seq ?_
    refine w_reg rfl ?_
    refine v_assign (c := .v (.bool false)) rfl ?_
    refine v_nil ?_
    refine q_n ?_
    refine w_ret (q_br (q_r (q_r (q_br (q_r ?_)))))
    refine r_r rfl ?_
    exact a_b (by simp only [Bool.false_eq_true, false_iff]; exact ne_at i1 i2 hne)
  have hne := h5
  refine d_nil ?_
  refine q_n ?_
  refine w_f rfl ?_
  refine w_skip ?_
  refine q_bn ?_
  refine q_n ?_
  refine w_reg rfl ?_
  refine v_add lay3 rfl rfl (i64r (by omega)) ?_
  refine v_move rfl ?_
  refine v_nil ?_
  refine q_n ?_
  refine ⟨_, _, _, ?_, ⟨i + 1, rfl, by omega, take_step_eq hp i1 i2 (by simpa using hne), rfl, rfl⟩, by omega⟩
  exact turn0 ⟨tr_sl, tr_sl, tr_v, tr_v, trivial⟩
theorem cSamePlan (p q : Pln) (hp : pW p) (hq : pW q) (hx : p.1.length ≤ 2 ^ 40) : PureC X 29 [.agg (plf p), .agg (plf q)] (cB (decide (p = q))) := by
  refine PureC.of_body (drawD_ok X) (fun _ _ => Go.Proofs.Try.call29 _ _) Go.Proofs.Try.func29 rfl (n := 24) rfl ?_
  refine w_seq ?_
  refine w_reg rfl ?_
  refine v_box (m := 0) (H' := [_]) lay73 rfl rfl rfl ?_
  refine v_box (m := 1) (H' := [_, _]) lay73 rfl rfl rfl ?_
  refine v_assign (c := .v (.bool false)) rfl ?_
  refine v_nil ?_
  refine q_n ?_
  refine w_seq ?_
  refine w_reg rfl ?_
  refine v_fa_pt (off' := 0) lay73 rfl rfl rfl ?_
  refine v_load_pt (.c _) lay71 rfl rfl rfl rfl ?_
  refine v_fa_pt (off' := 0) lay73 rfl rfl rfl ?_
  refine v_load_pt (.c _) lay71 rfl rfl rfl rfl ?_
  refine v_callb (cEqSl _ _ hx hp hq) rfl rfl (.cons vw_sl (.cons vw_sl .nil)) (fun h1 => ?_) (fun h1 => ?_)
  rotate_left
  · refine v_move rfl ?_
    refine v_guard_off rfl rfl rfl ?_
    refine v_guard_off rfl rfl rfl ?_
    refine v_guard_off rfl rfl rfl ?_
    refine v_guard_off rfl rfl rfl ?_
    refine v_guard_off rfl rfl rfl ?_
    refine v_pick_f (v := .v (.bool false)) rfl rfl ?_
    refine v_move rfl ?_
    refine v_guard_off rfl rfl rfl ?_
    refine v_guard_off rfl rfl rfl ?_
    refine v_guard_off rfl rfl rfl ?_
    refine v_guard_off rfl rfl rfl ?_
    refine v_guard_off rfl rfl rfl ?_
    refine v_pick_f (v := .v (.bool false)) rfl rfl ?_
    refine v_assign rfl ?_
    refine v_nil ?_
    refine q_n ?_
    refine w_ret ?_
    refine r_r rfl ?_
    exact a_b (by rw [pln_ext]; simp_all)
  refine v_move rfl ?_
  refine v_guard_on rfl rfl ?_
  refine v_fa_pt (off' := 1) lay73 rfl rfl rfl ?_
  refine v_guard_on rfl rfl ?_
  refine v_load_pt (.c _) lay2 rfl rfl rfl rfl ?_
  refine v_guard_on rfl rfl ?_
  refine v_fa_pt (off' := 1) lay73 rfl rfl rfl ?_
  refine v_guard_on rfl rfl ?_
  refine v_load_pt (.c _) lay2 rfl rfl rfl rfl ?_
  refine v_guard_on rfl rfl ?_
  refine v_eql lay2 rfl rfl (fun h2 => ?_) (fun h2 => ?_)
  rotate_left
  · refine v_pick_t rfl rfl ?_
    refine v_move rfl ?_
    refine v_guard_off rfl rfl rfl ?_
    refine v_guard_off rfl rfl rfl ?_
    refine v_guard_off rfl rfl rfl ?_
    refine v_guard_off rfl rfl rfl ?_
    refine v_guard_off rfl rfl rfl ?_
    refine v_pick_f (v := .v (.bool false)) rfl rfl ?_
    refine v_assign rfl ?_
    refine v_nil ?_
    refine q_n ?_
    refine w_ret ?_
    refine r_r rfl ?_
    exact a_b (by rw [pln_ext]; simp_all)
  refine v_pick_t rfl rfl ?_
  refine v_move rfl ?_
  refine v_guard_on rfl rfl ?_
  refine v_fa_pt (off' := 2) lay73 rfl rfl rfl ?_
  refine v_guard_on rfl rfl ?_
  refine v_load_pt (.c _) lay2 rfl rfl rfl rfl ?_
  refine v_guard_on rfl rfl ?_
  refine v_fa_pt (off' := 2) lay73 rfl rfl rfl ?_
  refine v_guard_on rfl rfl ?_
  refine v_load_pt (.c _) lay2 rfl rfl rfl rfl ?_
  refine v_guard_on rfl rfl ?_
  refine v_eql lay2 rfl rfl (fun h3 => ?_) (fun h3 => ?_)
  · refine v_pick_t rfl rfl ?_
    refine v_assign rfl ?_
    refine v_nil ?_
    refine q_n ?_
    refine w_ret ?_
    refine r_r rfl ?_
    exact a_b (by rw [pln_ext]; simp_all)
  refine v_pick_t rfl rfl ?_
  refine v_assign rfl ?_
  refine v_nil ?_
  refine q_n ?_
  refine w_ret ?_
  refine r_r rfl ?_
  exact a_b (by rw [pln_ext]; simp_all)
theorem cSameJo (j q : Jo) (hj : jW j.1) (hq : jW q.1) (h1 : j.2.1.length ≤ 2 ^ 40) (h2 : j.2.2.1.length ≤ 2 ^ 40) : PureC X 27 [.agg (jof false j), .agg (jof false q)] (cB (decide (j = q))) := by
  refine PureC.of_body (drawD_ok X) (fun _ _ => Go.Proofs.Try.call27 _ _) Go.Proofs.Try.func27 rfl (n := 31) rfl ?_
  refine w_seq ?_
  refine w_reg rfl ?_
  refine v_box (m := 0) (H' := [_]) lay68 rfl rfl rfl ?_
  refine v_box (m := 1) (H' := [_, _]) lay68 rfl rfl rfl ?_
  refine v_assign (c := .v (.bool false)) rfl ?_
  refine v_nil ?_
  refine q_n ?_
  refine w_seq ?_
  refine w_reg rfl ?_
  refine v_fa_pt (off' := 0) lay68 rfl rfl rfl ?_
  refine v_load_pt (.agg [_, _, _, _, _, _, _, _, _, _, _, _, _, _, _, _, _, _, _, _, _, _]) lay65 rfl rfl rfl rfl ?_
  refine v_fa_pt (off' := 0) lay68 rfl rfl rfl ?_
  refine v_load_pt (.agg [_, _, _, _, _, _, _, _, _, _, _, _, _, _, _, _, _, _, _, _, _, _]) lay65 rfl rfl rfl rfl ?_
  refine v_callb (cSameJ _ _ hj hq) rfl rfl (.cons (vw_agg (.cons vw_v (.cons vw_v (.cons vw_f (.cons vw_f (.cons vw_f (.cons vw_f (.cons vw_f (.cons vw_f (.cons vw_f (.cons vw_f (.cons vw_f (.cons vw_f (.cons vw_f (.cons vw_f (.cons vw_f (.cons vw_f (.cons vw_f (.cons vw_f (.cons vw_f (.cons vw_f (.cons vw_f (.cons vw_f .nil))))))))))))))))))))))) (.cons (vw_agg (.cons vw_v (.cons vw_v (.cons vw_f (.cons vw_f (.cons vw_f (.cons vw_f (.cons vw_f (.cons vw_f (.cons vw_f (.cons vw_f (.cons vw_f (.cons vw_f (.cons vw_f (.cons vw_f (.cons vw_f (.cons vw_f (.cons vw_f (.cons vw_f (.cons vw_f (.cons vw_f (.cons vw_f (.cons vw_f .nil))))))))))))))))))))))) .nil)) (fun h1 => ?_) (fun h1 => ?_)
  rotate_left
  · refine v_move rfl ?_
    refine v_guard_off rfl rfl rfl ?_
    refine v_guard_off rfl rfl rfl ?_
    refine v_guard_off rfl rfl rfl ?_
    refine v_guard_off rfl rfl rfl ?_
    refine v_guard_off rfl rfl rfl ?_
    refine v_pick_f (v := .v (.bool false)) rfl rfl ?_
    refine v_move rfl ?_
    refine v_guard_off rfl rfl rfl ?_
    refine v_guard_off rfl rfl rfl ?_
    refine v_guard_off rfl rfl rfl ?_
    refine v_guard_off rfl rfl rfl ?_
    refine v_guard_off rfl rfl rfl ?_
    refine v_pick_f (v := .v (.bool false)) rfl rfl ?_
    refine v_move rfl ?_
    refine v_guard_off rfl rfl rfl ?_
    refine v_guard_off rfl rfl rfl ?_
    refine v_guard_off rfl rfl rfl ?_
    refine v_guard_off rfl rfl rfl ?_
    refine v_guard_off rfl rfl rfl ?_
    refine v_pick_f (v := .v (.bool false)) rfl rfl ?_
    refine v_assign rfl ?_
    refine v_nil ?_
    refine q_n ?_
    refine w_ret ?_
    refine r_r rfl ?_
    exact a_b (by rw [jo_ext]; simp_all)
  refine v_move rfl ?_
  refine v_guard_on rfl rfl ?_
  refine v_fa_pt (off' := 22) lay68 rfl rfl rfl ?_
  refine v_guard_on rfl rfl ?_
  refine v_load_pt (.c _) lay66 rfl rfl rfl rfl ?_
  refine v_guard_on rfl rfl ?_
  refine v_fa_pt (off' := 22) lay68 rfl rfl rfl ?_
  refine v_guard_on rfl rfl ?_
  refine v_load_pt (.c _) lay66 rfl rfl rfl rfl ?_
  refine v_guard_on rfl rfl ?_
  refine v_callb (cEqI _ _ (by omega)) rfl rfl (.cons vw_sl (.cons vw_sl .nil)) (fun h2 => ?_) (fun h2 => ?_)
  rotate_left
  · refine v_pick_t rfl rfl ?_
    refine v_move rfl ?_
    refine v_guard_off rfl rfl rfl ?_
    refine v_guard_off rfl rfl rfl ?_
    refine v_guard_off rfl rfl rfl ?_
    refine v_guard_off rfl rfl rfl ?_
    refine v_guard_off rfl rfl rfl ?_
    refine v_pick_f (v := .v (.bool false)) rfl rfl ?_
    refine v_move rfl ?_
    refine v_guard_off rfl rfl rfl ?_
    refine v_guard_off rfl rfl rfl ?_
    refine v_guard_off rfl rfl rfl ?_
    refine v_guard_off rfl rfl rfl ?_
    refine v_guard_off rfl rfl rfl ?_
    refine v_pick_f (v := .v (.bool false)) rfl rfl ?_
    refine v_assign rfl ?_
    refine v_nil ?_
    refine q_n ?_
    refine w_ret ?_
    refine r_r rfl ?_
    exact a_b (by rw [jo_ext]; simp_all)
  refine v_pick_t rfl rfl ?_
  refine v_move rfl ?_
  refine v_guard_on rfl rfl ?_
  refine v_fa_pt (off' := 23) lay68 rfl rfl rfl ?_
  refine v_guard_on rfl rfl ?_
  refine v_load_pt (.c _) lay66 rfl rfl rfl rfl ?_
  refine v_guard_on rfl rfl ?_
  refine v_fa_pt (off' := 23) lay68 rfl rfl rfl ?_
  refine v_guard_on rfl rfl ?_
  refine v_load_pt (.c _) lay66 rfl rfl rfl rfl ?_
  refine v_guard_on rfl rfl ?_
  refine v_callb (cEqI _ _ (by omega)) rfl rfl (.cons vw_sl (.cons vw_sl .nil)) (fun h3 => ?_) (fun h3 => ?_)
  rotate_left
  · refine v_pick_t rfl rfl ?_
    refine v_move rfl ?_
    refine v_guard_off rfl rfl rfl ?_
    refine v_guard_off rfl rfl rfl ?_
    refine v_guard_off rfl rfl rfl ?_
    refine v_guard_off rfl rfl rfl ?_
    refine v_guard_off rfl rfl rfl ?_
    refine v_pick_f (v := .v (.bool false)) rfl rfl ?_
    refine v_assign rfl ?_
    refine v_nil ?_
    refine q_n ?_
    refine w_ret ?_
    refine r_r rfl ?_
    exact a_b (by rw [jo_ext]; simp_all)
  refine v_pick_t rfl rfl ?_
  refine v_move rfl ?_
  refine v_guard_on rfl rfl ?_
  refine v_fa_pt (off' := 24) lay68 rfl rfl rfl ?_
  refine v_guard_on rfl rfl ?_
  refine v_load_pt (.c _) lay2 rfl rfl rfl rfl ?_
  refine v_guard_on rfl rfl ?_
  refine v_fa_pt (off' := 24) lay68 rfl rfl rfl ?_
  refine v_guard_on rfl rfl ?_
  refine v_load_pt (.c _) lay2 rfl rfl rfl rfl ?_
  refine v_guard_on rfl rfl ?_
  refine v_eql lay2 rfl rfl (fun h4 => ?_) (fun h4 => ?_)
  · refine v_pick_t rfl rfl ?_
    refine v_assign rfl ?_
    refine v_nil ?_
    refine q_n ?_
    refine w_ret ?_
    refine r_r rfl ?_
    exact a_b (by rw [jo_ext]; simp_all)
  refine v_pick_t rfl rfl ?_
  refine v_assign rfl ?_
  refine v_nil ?_
  refine q_n ?_
  refine w_ret ?_
  refine r_r rfl ?_
  exact a_b (by rw [jo_ext]; simp_all)
theorem cEFroad (g : FuncId) (xs ys : List Rd) (hx : xs.length ≤ 2 ^ 40) (hF : ∀ x ∈ xs, ∀ y ∈ ys, PureC X g [.agg (rdc x), .agg (rdc y)] (cB (decide (x = y)))) : PureC X 23 [.c (.sl false xs.length 19 (flat rdc xs)), .c (.sl false ys.length 19 (flat rdc ys)), .c (.fn g [])] (cB (decide (xs = ys))) := by
  refine PureC.of_body (drawD_ok X) (fun _ _ => Go.Proofs.Try.call23 _ _) Go.Proofs.Try.func23 rfl (n := 32) rfl ?_
  refine w_seq ?_
  refine w_reg rfl ?_
  refine v_assign (c := .v (.bool false)) rfl ?_
  refine v_nil ?_
  refine q_n ?_
  refine w_seq ?_
  refine w_seq ?_
  refine w_reg rfl ?_
  refine v_move rfl ?_
  refine v_len_sl lay31 rfl ?_
  refine v_move rfl ?_
  refine v_len_sl lay31 rfl ?_
  refine v_neq lay3 rfl rfl (fun h1 => ?_) (fun h1 => ?_)
  · refine v_nil ?_
    refine q_n ?_
    refine w_t rfl ?_
    refine w_seq ?_
    refine w_reg rfl ?_
    refine v_assign (c := .v (.bool false)) rfl ?_
    refine v_nil ?_
    refine q_n ?_
    refine w_ret (q_r ?_)
    refine r_r rfl ?_
    exact a_b (by simp only [Bool.false_eq_true, false_iff]; rintro rfl; exact h1 rfl)
  refine v_nil ?_
  refine q_n ?_
  refine w_f rfl ?_
  refine w_skip ?_
  refine q_n ?_
  refine w_seq ?_
  refine w_seq ?_
  refine w_reg rfl ?_
  refine v_move rfl ?_
  refine v_len_sl lay31 rfl ?_
  refine v_move (c := .v (.int .i64 0)) rfl ?_
  refine v_nil ?_
  refine q_n ?_
  refine w_block ?_
  refine w_loop (fun k sl H => ∃ i : Nat, k = xs.length - i ∧ i ≤ xs.length ∧ xs.take i = ys.take i ∧ sl = sls [(1, .c (.sl false ys.length 19 (flat rdc ys))), (2, .c (.fn g [])), (15, .c (.sl false xs.length 19 (flat rdc xs))), (16, cI xs.length), (17, cI i)] ∧ H = []) ?_ ?_
  · refine ⟨_, _, _, ?_, 0, rfl, Nat.zero_le _, rfl, rfl, rfl⟩
    exact turn0 ⟨tr_sl, tr_fn0, tr_sl, tr_v, tr_v, trivial⟩
  rintro k sl H ⟨i, rfl, hi, hp, rfl, rfl⟩
  refine w_seq ?_
  refine w_reg rfl ?_
  refine v_lss lay3 rfl rfl (fun h2 => ?_) (fun h2 => ?_)
  rotate_left
  · refine v_nil ?_
    refine q_n ?_
    refine w_seq ?_
    refine w_f rfl ?_
    refine w_exit ?_
    refine q_e ?_
    refine q_e ?_
    refine q_hit ?_
    refine q_n ?_
    refine w_seq ?_
    refine w_reg rfl ?_
    refine v_assign (c := .v (.bool true)) rfl ?_
    refine v_nil ?_
    refine q_n ?_
    refine w_ret ?_
    refine r_r rfl ?_
    exact a_b (by simp only [true_iff]; exact take_all_eq hp (by omega) (by omega))
  have i1 : i < xs.length := by omega
  have i2 : i < ys.length := by omega
  refine v_nil ?_
  refine q_n ?_
  refine w_seq ?_
  refine w_t rfl ?_
  refine w_skip ?_
  refine q_n ?_
  refine w_seq ?_
  refine w_block ?_
  refine w_seq ?_
  refine w_reg rfl ?_
  refine v_move rfl ?_
  refine v_idx_e (k := 19) (i) rdc_len lay31 lay56 rfl rfl rfl (rfl) rfl (rfl) (i1) ?_
  refine v_load_vw (.agg [.f _ _, .f _ _, .f _ _, .f _ _, .f _ _, .f _ _, .f _ _, .f _ _, .f _ _, .f _ _, .f _ _, .f _ _, .f _ _, .f _ _, .f _ _, .f _ _, .f _ _, .f _ _, .f _ _]) lay56 rfl rfl rfl ?_
  refine v_alloc (m := 0) (H' := [⟨[.f _ _, .f _ _, .f _ _, .f _ _, .f _ _, .f _ _, .f _ _, .f _ _, .f _ _, .f _ _, .f _ _, .f _ _, .f _ _, .f _ _, .f _ _, .f _ _, .f _ _, .f _ _, .f _ _], 56, true⟩]) lay56 rfl rfl ?_
  refine v_assign rfl ?_
  refine v_store (H' := [⟨[_, _, _, _, _, _, _, _, _, _, _, _, _, _, _, _, _, _, _], 56, true⟩]) lay56 rfl rfl rfl rfl rfl rfl ?_
  refine v_nil ?_
  refine q_n ?_
  refine w_seq ?_
  refine w_reg rfl ?_
  refine v_move rfl ?_
  refine v_move rfl ?_
  refine v_idx_e (k := 19) (i) rdc_len lay31 lay56 rfl rfl rfl (rfl) rfl (rfl) (i2) ?_
  refine v_load_vw (.agg [.f _ _, .f _ _, .f _ _, .f _ _, .f _ _, .f _ _, .f _ _, .f _ _, .f _ _, .f _ _, .f _ _, .f _ _, .f _ _, .f _ _, .f _ _, .f _ _, .f _ _, .f _ _, .f _ _]) lay56 rfl rfl rfl ?_
  refine v_alloc (m := 1) (H' := [_, ⟨[.f _ _, .f _ _, .f _ _, .f _ _, .f _ _, .f _ _, .f _ _, .f _ _, .f _ _, .f _ _, .f _ _, .f _ _, .f _ _, .f _ _, .f _ _, .f _ _, .f _ _, .f _ _, .f _ _], 56, true⟩]) lay56 rfl rfl ?_
  refine v_store (H' := [_, ⟨[_, _, _, _, _, _, _, _, _, _, _, _, _, _, _, _, _, _, _], 56, true⟩]) lay56 rfl rfl rfl rfl rfl rfl ?_
  refine v_nil ?_
  refine q_n ?_
  refine w_seq ?_
  refine w_reg rfl ?_
  refine v_move rfl ?_
  refine v_load_pt (.agg [_, _, _, _, _, _, _, _, _, _, _, _, _, _, _, _, _, _, _]) lay56 rfl rfl rfl rfl ?_
  refine v_load_pt (.agg [_, _, _, _, _, _, _, _, _, _, _, _, _, _, _, _, _, _, _]) lay56 rfl rfl rfl rfl ?_
  refine v_callb (hF _ (List.getElem_mem i1) _ (List.getElem_mem i2)) rfl rfl (.cons (vw_agg (.cons vw_f (.cons vw_f (.cons vw_f (.cons vw_f (.cons vw_f (.cons vw_f (.cons vw_f (.cons vw_f (.cons vw_f (.cons vw_f (.cons vw_f (.cons vw_f (.cons vw_f (.cons vw_f (.cons vw_f (.cons vw_f (.cons vw_f (.cons vw_f (.cons vw_f .nil)))))))))))))))))))) (.cons (vw_agg (.cons vw_f (.cons vw_f (.cons vw_f (.cons vw_f (.cons vw_f (.cons vw_f (.cons vw_f (.cons vw_f (.cons vw_f (.cons vw_f (.cons vw_f (.cons vw_f (.cons vw_f (.cons vw_f (.cons vw_f (.cons vw_f (.cons vw_f (.cons vw_f (.cons vw_f .nil)))))))))))))))))))) .nil)) (fun h5 => ?_) (fun h5 => ?_)
  rotate_left
  · have heq := h5
    refine v_not true rfl rfl ?_
    refine v_nil ?_
    refine q_n ?_
    refine w_t rfl ?_
    refine w_seq ?_
    refine w_reg rfl ?_
    refine v_assign (c := .v (.bool false)) rfl ?_
    refine v_nil ?_
    refine q_n ?_
    refine w_ret (q_br (q_r (q_r (q_br (q_r ?_)))))
    refine r_r rfl ?_
    exact a_b (by simp only [Bool.false_eq_true, false_iff]; exact ne_at i1 i2 heq)
  have heq := h5
  refine v_not false rfl rfl ?_
  refine v_nil ?_
  refine q_n ?_
  refine w_f rfl ?_
  refine w_skip ?_
  refine q_bn ?_
  refine q_n ?_
  refine w_reg rfl ?_
  refine v_add lay3 rfl rfl (i64r (by omega)) ?_
  refine v_move rfl ?_
  refine v_nil ?_
  refine q_n ?_
  refine ⟨_, _, _, ?_, ⟨i + 1, rfl, by omega, take_step_eq hp i1 i2 heq, rfl, rfl⟩, by omega⟩
  exact turn0 ⟨tr_sl, tr_fn0, tr_sl, tr_v, tr_v, trivial⟩
theorem cEFjo (g : FuncId) (xs ys : List Jo) (hx : xs.length ≤ 2 ^ 40) (hF : ∀ x ∈ xs, ∀ y ∈ ys, PureC X g [.agg (jof false x), .agg (jof false y)] (cB (decide (x = y)))) : PureC X 26 [.c (.sl false xs.length 25 (flat joc xs)), .c (.sl false ys.length 25 (flat joc ys)), .c (.fn g [])] (cB (decide (xs = ys))) := by
  refine PureC.of_body (drawD_ok X) (fun _ _ => Go.Proofs.Try.call26 _ _) Go.Proofs.Try.func26 rfl (n := 32) rfl ?_
  refine w_seq ?_
  refine w_reg rfl ?_
  refine v_assign (c := .v (.bool false)) rfl ?_
  refine v_nil ?_
  refine q_n ?_
  refine w_seq ?_
  refine w_seq ?_
  refine w_reg rfl ?_
  refine v_move rfl ?_
  refine v_len_sl lay32 rfl ?_
  refine v_move rfl ?_
  refine v_len_sl lay32 rfl ?_
  refine v_neq lay3 rfl rfl (fun h1 => ?_) (fun h1 => ?_)
  · refine v_nil ?_
    refine q_n ?_
    refine w_t rfl ?_
    refine w_seq ?_
    refine w_reg rfl ?_
    refine v_assign (c := .v (.bool false)) rfl ?_
    refine v_nil ?_
    refine q_n ?_
    refine w_ret (q_r ?_)
    refine r_r rfl ?_
    exact a_b (by simp only [Bool.false_eq_true, false_iff]; rintro rfl; exact h1 rfl)
  refine v_nil ?_
  refine q_n ?_
  refine w_f rfl ?_
  refine w_skip ?_
  refine q_n ?_
  refine w_seq ?_
  refine w_seq ?_
  refine w_reg rfl ?_
  refine v_move rfl ?_
  refine v_len_sl lay32 rfl ?_
  refine v_move (c := .v (.int .i64 0)) rfl ?_
  refine v_nil ?_
  refine q_n ?_
  refine w_block ?_
  refine w_loop (fun k sl H => ∃ i : Nat, k = xs.length - i ∧ i ≤ xs.length ∧ xs.take i = ys.take i ∧ sl = sls [(1, .c (.sl false ys.length 25 (flat joc ys))), (2, .c (.fn g [])), (15, .c (.sl false xs.length 25 (flat joc xs))), (16, cI xs.length), (17, cI i)] ∧ H = []) ?_ ?_
  · refine ⟨_, _, _, ?_, 0, rfl, Nat.zero_le _, rfl, rfl, rfl⟩
    exact turn0 ⟨tr_sl, tr_fn0, tr_sl, tr_v, tr_v, trivial⟩
  rintro k sl H ⟨i, rfl, hi, hp, rfl, rfl⟩
  refine w_seq ?_
  refine w_reg rfl ?_
  refine v_lss lay3 rfl rfl (fun h2 => ?_) (fun h2 => ?_)
  rotate_left
  · refine v_nil ?_
    refine q_n ?_
    refine w_seq ?_
    refine w_f rfl ?_
    refine w_exit ?_
    refine q_e ?_
    refine q_e ?_
    refine q_hit ?_
    refine q_n ?_
    refine w_seq ?_
    refine w_reg rfl ?_
    refine v_assign (c := .v (.bool true)) rfl ?_
    refine v_nil ?_
    refine q_n ?_
    refine w_ret ?_
    refine r_r rfl ?_
    exact a_b (by simp only [true_iff]; exact take_all_eq hp (by omega) (by omega))
  have i1 : i < xs.length := by omega
  have i2 : i < ys.length := by omega
  refine v_nil ?_
  refine q_n ?_
  refine w_seq ?_
  refine w_t rfl ?_
  refine w_skip ?_
  refine q_n ?_
  refine w_seq ?_
  refine w_block ?_
  refine w_seq ?_
  refine w_reg rfl ?_
  refine v_move rfl ?_
  refine v_idx_e (k := 25) (i) joc_len lay32 lay68 rfl rfl rfl (rfl) rfl (rfl) (i1) ?_
  refine v_load_vw (.agg [.v _, .v _, .f _ _, .f _ _, .f _ _, .f _ _, .f _ _, .f _ _, .f _ _, .f _ _, .f _ _, .f _ _, .f _ _, .f _ _, .f _ _, .f _ _, .f _ _, .f _ _, .f _ _, .f _ _, .f _ _, .f _ _, _, _, .v _]) lay68 rfl rfl rfl ?_
  refine v_alloc (m := 0) (H' := [⟨[.v _, .v _, .f _ _, .f _ _, .f _ _, .f _ _, .f _ _, .f _ _, .f _ _, .f _ _, .f _ _, .f _ _, .f _ _, .f _ _, .f _ _, .f _ _, .f _ _, .f _ _, .f _ _, .f _ _, .f _ _, .f _ _, .v _, .v _, .v _], 68, true⟩]) lay68 rfl rfl ?_
  refine v_assign rfl ?_
  refine v_store (H' := [⟨[_, _, _, _, _, _, _, _, _, _, _, _, _, _, _, _, _, _, _, _, _, _, _, _, _], 68, true⟩]) lay68 rfl rfl rfl rfl rfl rfl ?_
  refine v_nil ?_
  refine q_n ?_
  refine w_seq ?_
  refine w_reg rfl ?_
  refine v_move rfl ?_
  refine v_move rfl ?_
  refine v_idx_e (k := 25) (i) joc_len lay32 lay68 rfl rfl rfl (rfl) rfl (rfl) (i2) ?_
  refine v_load_vw (.agg [.v _, .v _, .f _ _, .f _ _, .f _ _, .f _ _, .f _ _, .f _ _, .f _ _, .f _ _, .f _ _, .f _ _, .f _ _, .f _ _, .f _ _, .f _ _, .f _ _, .f _ _, .f _ _, .f _ _, .f _ _, .f _ _, _, _, .v _]) lay68 rfl rfl rfl ?_
  refine v_alloc (m := 1) (H' := [_, ⟨[.v _, .v _, .f _ _, .f _ _, .f _ _, .f _ _, .f _ _, .f _ _, .f _ _, .f _ _, .f _ _, .f _ _, .f _ _, .f _ _, .f _ _, .f _ _, .f _ _, .f _ _, .f _ _, .f _ _, .f _ _, .f _ _, .v _, .v _, .v _], 68, true⟩]) lay68 rfl rfl ?_
  refine v_store (H' := [_, ⟨[_, _, _, _, _, _, _, _, _, _, _, _, _, _, _, _, _, _, _, _, _, _, _, _, _], 68, true⟩]) lay68 rfl rfl rfl rfl rfl rfl ?_
  refine v_nil ?_
  refine q_n ?_
  refine w_seq ?_
  refine w_reg rfl ?_
  refine v_move rfl ?_
  refine v_load_pt (.agg [_, _, _, _, _, _, _, _, _, _, _, _, _, _, _, _, _, _, _, _, _, _, _, _, _]) lay68 rfl rfl rfl rfl ?_
  refine v_load_pt (.agg [_, _, _, _, _, _, _, _, _, _, _, _, _, _, _, _, _, _, _, _, _, _, _, _, _]) lay68 rfl rfl rfl rfl ?_
  refine v_callb (hF _ (List.getElem_mem i1) _ (List.getElem_mem i2)) rfl rfl (.cons (vw_agg (.cons vw_v (.cons vw_v (.cons vw_f (.cons vw_f (.cons vw_f (.cons vw_f (.cons vw_f (.cons vw_f (.cons vw_f (.cons vw_f (.cons vw_f (.cons vw_f (.cons vw_f (.cons vw_f (.cons vw_f (.cons vw_f (.cons vw_f (.cons vw_f (.cons vw_f (.cons vw_f (.cons vw_f (.cons vw_f (.cons vw_sl (.cons vw_sl (.cons vw_v .nil)))))))))))))))))))))))))) (.cons (vw_agg (.cons vw_v (.cons vw_v (.cons vw_f (.cons vw_f (.cons vw_f (.cons vw_f (.cons vw_f (.cons vw_f (.cons vw_f (.cons vw_f (.cons vw_f (.cons vw_f (.cons vw_f (.cons vw_f (.cons vw_f (.cons vw_f (.cons vw_f (.cons vw_f (.cons vw_f (.cons vw_f (.cons vw_f (.cons vw_f (.cons vw_sl (.cons vw_sl (.cons vw_v .nil)))))))))))))))))))))))))) .nil)) (fun h5 => ?_) (fun h5 => ?_)
  rotate_left
  · have heq := h5
    refine v_not true rfl rfl ?_
    refine v_nil ?_
    refine q_n ?_
    refine w_t rfl ?_
    refine w_seq ?_
    refine w_reg rfl ?_
    refine v_assign (c := .v (.bool false)) rfl ?_
    refine v_nil ?_
    refine q_n ?_
    refine w_ret (q_br (q_r (q_r (q_br (q_r ?_)))))
    refine r_r rfl ?_
    exact a_b (by simp only [Bool.false_eq_true, false_iff]; exact ne_at i1 i2 heq)
  have heq := h5
  refine v_not false rfl rfl ?_
  refine v_nil ?_
  refine q_n ?_
  refine w_f rfl ?_
  refine w_skip ?_
  refine q_bn ?_
  refine q_n ?_
  refine w_reg rfl ?_
  refine v_add lay3 rfl rfl (i64r (by omega)) ?_
  refine v_move rfl ?_
  refine v_nil ?_
  refine q_n ?_
  refine ⟨_, _, _, ?_, ⟨i + 1, rfl, by omega, take_step_eq hp i1 i2 heq, rfl, rfl⟩, by omega⟩
  exact turn0 ⟨tr_sl, tr_fn0, tr_sl, tr_v, tr_v, trivial⟩
theorem cEFpl (g : FuncId) (xs ys : List Pln) (hx : xs.length ≤ 2 ^ 40) (hF : ∀ x ∈ xs, ∀ y ∈ ys, PureC X g [.agg (plf x), .agg (plf y)] (cB (decide (x = y)))) : PureC X 28 [.c (.sl false xs.length 3 (flat plc xs)), .c (.sl false ys.length 3 (flat plc ys)), .c (.fn g [])] (cB (decide (xs = ys))) := by
  refine PureC.of_body (drawD_ok X) (fun _ _ => Go.Proofs.Try.call28 _ _) Go.Proofs.Try.func28 rfl (n := 32) rfl ?_
  refine w_seq ?_
  refine w_reg rfl ?_
  refine v_assign (c := .v (.bool false)) rfl ?_
  refine v_nil ?_
  refine q_n ?_
  refine w_seq ?_
  refine w_seq ?_
  refine w_reg rfl ?_
  refine v_move rfl ?_
  refine v_len_sl lay33 rfl ?_
  refine v_move rfl ?_
  refine v_len_sl lay33 rfl ?_
  refine v_neq lay3 rfl rfl (fun h1 => ?_) (fun h1 => ?_)
  · refine v_nil ?_
    refine q_n ?_
    refine w_t rfl ?_
    refine w_seq ?_
    refine w_reg rfl ?_
    refine v_assign (c := .v (.bool false)) rfl ?_
    refine v_nil ?_
    refine q_n ?_
    refine w_ret (q_r ?_)
    refine r_r rfl ?_
    exact a_b (by simp only [Bool.false_eq_true, false_iff]; rintro rfl; exact h1 rfl)
  refine v_nil ?_
  refine q_n ?_
  refine w_f rfl ?_
  refine w_skip ?_
  refine q_n ?_
  refine w_seq ?_
  refine w_seq ?_
  refine w_reg rfl ?_
  refine v_move rfl ?_
  refine v_len_sl lay33 rfl ?_
  refine v_move (c := .v (.int .i64 0)) rfl ?_
  refine v_nil ?_
  refine q_n ?_
  refine w_block ?_
  refine w_loop (fun k sl H => ∃ i : Nat, k = xs.length - i ∧ i ≤ xs.length ∧ xs.take i = ys.take i ∧ sl = sls [(1, .c (.sl false ys.length 3 (flat plc ys))), (2, .c (.fn g [])), (15, .c (.sl false xs.length 3 (flat plc xs))), (16, cI xs.length), (17, cI i)] ∧ H = []) ?_ ?_
  · refine ⟨_, _, _, ?_, 0, rfl, Nat.zero_le _, rfl, rfl, rfl⟩
    exact turn0 ⟨tr_sl, tr_fn0, tr_sl, tr_v, tr_v, trivial⟩
  rintro k sl H ⟨i, rfl, hi, hp, rfl, rfl⟩
  refine w_seq ?_
  refine w_reg rfl ?_
  refine v_lss lay3 rfl rfl (fun h2 => ?_) (fun h2 => ?_)
  rotate_left
  · refine v_nil ?_
    refine q_n ?_
    refine w_seq ?_
    refine w_f rfl ?_
    refine w_exit ?_
    refine q_e ?_
    refine q_e ?_
    refine q_hit ?_
    refine q_n ?_
    refine w_seq ?_
    refine w_reg rfl ?_
    refine v_assign (c := .v (.bool true)) rfl ?_
    refine v_nil ?_
    refine q_n ?_
    refine w_ret ?_
    refine r_r rfl ?_
    exact a_b (by simp only [true_iff]; exact take_all_eq hp (by omega) (by omega))
  have i1 : i < xs.length := by omega
  have i2 : i < ys.length := by omega
  refine v_nil ?_
  refine q_n ?_
  refine w_seq ?_
  refine w_t rfl ?_
  refine w_skip ?_
  refine q_n ?_
  refine w_seq ?_
  refine w_block ?_
  refine w_seq ?_
  refine w_reg rfl ?_
  refine v_move rfl ?_
  refine v_idx_e (k := 3) (i) plc_len lay33 lay73 rfl rfl rfl (rfl) rfl (rfl) (i1) ?_
  refine v_load_vw (.agg [_, .v _, .v _]) lay73 rfl rfl rfl ?_
  refine v_alloc (m := 0) (H' := [⟨[.v _, .v _, .v _], 73, true⟩]) lay73 rfl rfl ?_
  refine v_assign rfl ?_
  refine v_store (H' := [⟨[_, _, _], 73, true⟩]) lay73 rfl rfl rfl rfl rfl rfl ?_
  refine v_nil ?_
  refine q_n ?_
  refine w_seq ?_
  refine w_reg rfl ?_
  refine v_move rfl ?_
  refine v_move rfl ?_
  refine v_idx_e (k := 3) (i) plc_len lay33 lay73 rfl rfl rfl (rfl) rfl (rfl) (i2) ?_
  refine v_load_vw (.agg [_, .v _, .v _]) lay73 rfl rfl rfl ?_
  refine v_alloc (m := 1) (H' := [_, ⟨[.v _, .v _, .v _], 73, true⟩]) lay73 rfl rfl ?_
  refine v_store (H' := [_, ⟨[_, _, _], 73, true⟩]) lay73 rfl rfl rfl rfl rfl rfl ?_
  refine v_nil ?_
  refine q_n ?_
  refine w_seq ?_
  refine w_reg rfl ?_
  refine v_move rfl ?_
  refine v_load_pt (.agg [_, _, _]) lay73 rfl rfl rfl rfl ?_
  refine v_load_pt (.agg [_, _, _]) lay73 rfl rfl rfl rfl ?_
  refine v_callb (hF _ (List.getElem_mem i1) _ (List.getElem_mem i2)) rfl rfl (.cons (vw_agg (.cons vw_sl (.cons vw_v (.cons vw_v .nil)))) (.cons (vw_agg (.cons vw_sl (.cons vw_v (.cons vw_v .nil)))) .nil)) (fun h5 => ?_) (fun h5 => ?_)
  rotate_left
  · have heq := h5
    refine v_not true rfl rfl ?_
    refine v_nil ?_
    refine q_n ?_
    refine w_t rfl ?_
    refine w_seq ?_
    refine w_reg rfl ?_
    refine v_assign (c := .v (.bool false)) rfl ?_
    refine v_nil ?_
    refine q_n ?_
    refine w_ret (q_br (q_r (q_r (q_br (q_r ?_)))))
    refine r_r rfl ?_
    exact a_b (by simp only [Bool.false_eq_true, false_iff]; exact ne_at i1 i2 heq)
  have heq := h5
  refine v_not false rfl rfl ?_
  refine v_nil ?_
  refine q_n ?_
  refine w_f rfl ?_
  refine w_skip ?_
  refine q_bn ?_
  refine q_n ?_
  refine w_reg rfl ?_
  refine v_add lay3 rfl rfl (i64r (by omega)) ?_
  refine v_move rfl ?_
  refine v_nil ?_
  refine q_n ?_
  refine ⟨_, _, _, ?_, ⟨i + 1, rfl, by omega, take_step_eq hp i1 i2 heq, rfl, rfl⟩, by omega⟩
  exact turn0 ⟨tr_sl, tr_fn0, tr_sl, tr_v, tr_v, trivial⟩
theorem cImplSame (t u : Tw) (hB : tB (2 ^ 20) t) (hF : tF t) (hG : tF u) : PureC X 8 [.agg (twf false t), .agg (twf false u)] (cB (decide (t = u))) := by
  refine PureC.of_body (drawD_ok X) (fun _ _ => Go.Proofs.Try.call8 _ _) Go.Proofs.Try.func8 rfl (n := 52) rfl ?_
  obtain ⟨b1, b2, b3, b4, b5, b6⟩ := id hB
  refine w_seq ?_
  refine w_reg rfl ?_
  refine v_box (m := 0) (H' := [_]) lay35 rfl rfl rfl ?_
  refine v_box (m := 1) (H' := [_, _]) lay35 rfl rfl rfl ?_
  refine v_assign (c := .v (.bool false)) rfl ?_
  refine v_nil ?_
  refine q_n ?_
  refine w_seq ?_
  refine w_reg rfl ?_
  refine v_fa_pt (off' := 0) lay35 rfl rfl rfl ?_
  refine v_load_pt (.c _) lay31 rfl rfl rfl rfl ?_
  refine v_fa_pt (off' := 0) lay35 rfl rfl rfl ?_
  refine v_load_pt (.c _) lay31 rfl rfl rfl rfl ?_
  refine v_callb (cEFroad 24 _ _ (by omega) (fun x h1 y h2 => cSameRoad x y (hF.1 x h1) (hG.1 y h2))) rfl rfl (.cons vw_sl (.cons vw_sl (.cons (vw_fn .nil) .nil))) (fun h1 => ?_) (fun h1 => ?_)
  rotate_left
  · refine v_move rfl ?_
    refine v_guard_off rfl rfl rfl ?_
    refine v_guard_off rfl rfl rfl ?_
    refine v_guard_off rfl rfl rfl ?_
    refine v_guard_off rfl rfl rfl ?_
    refine v_guard_off rfl rfl rfl ?_
    refine v_pick_f (v := .v (.bool false)) rfl rfl ?_
    refine v_move rfl ?_
    refine v_guard_off rfl rfl rfl ?_
    refine v_guard_off rfl rfl rfl ?_
    refine v_guard_off rfl rfl rfl ?_
    refine v_guard_off rfl rfl rfl ?_
    refine v_guard_off rfl rfl rfl ?_
    refine v_pick_f (v := .v (.bool false)) rfl rfl ?_
    refine v_move rfl ?_
    refine v_guard_off rfl rfl rfl ?_
    refine v_guard_off rfl rfl rfl ?_
    refine v_guard_off rfl rfl rfl ?_
    refine v_guard_off rfl rfl rfl ?_
    refine v_guard_off rfl rfl rfl ?_
    refine v_pick_f (v := .v (.bool false)) rfl rfl ?_
    refine v_move rfl ?_
    refine v_guard_off rfl rfl rfl ?_
    refine v_guard_off rfl rfl rfl ?_
    refine v_guard_off rfl rfl rfl ?_
    refine v_guard_off rfl rfl rfl ?_
    refine v_guard_off rfl rfl rfl ?_
    refine v_pick_f (v := .v (.bool false)) rfl rfl ?_
    refine v_move rfl ?_
    refine v_guard_off rfl rfl rfl ?_
    refine v_guard_off rfl rfl rfl ?_
    refine v_guard_off rfl rfl rfl ?_
    refine v_guard_off rfl rfl rfl ?_
    refine v_guard_off rfl rfl rfl ?_
    refine v_pick_f (v := .v (.bool false)) rfl rfl ?_
    refine v_move rfl ?_
    refine v_guard_off rfl rfl rfl ?_
    refine v_guard_off rfl rfl rfl ?_
    refine v_guard_off rfl rfl rfl ?_
    refine v_guard_off rfl rfl rfl ?_
    refine v_guard_off rfl rfl rfl ?_
    refine v_pick_f (v := .v (.bool false)) rfl rfl ?_
    refine v_assign rfl ?_
    refine v_nil ?_
    refine q_n ?_
    refine w_ret ?_
    refine r_r rfl ?_
    exact a_b (by rw [tw_ext]; simp [*])
  refine v_move rfl ?_
  refine v_guard_on rfl rfl ?_
  refine v_fa_pt (off' := 1) lay35 rfl rfl rfl ?_
  refine v_guard_on rfl rfl ?_
  refine v_load_pt (.c _) lay23 rfl rfl rfl rfl ?_
  refine v_guard_on rfl rfl ?_
  refine v_fa_pt (off' := 1) lay35 rfl rfl rfl ?_
  refine v_guard_on rfl rfl ?_
  refine v_load_pt (.c _) lay23 rfl rfl rfl rfl ?_
  refine v_guard_on rfl rfl ?_
  refine v_callb (cSameNs _ _ (by omega) (fun x h => (hF.2.1 x h).1) (fun x h => (hG.2.1 x h).1)) rfl rfl (.cons vw_sl (.cons vw_sl .nil)) (fun h2 => ?_) (fun h2 => ?_)
  rotate_left
  · refine v_pick_t rfl rfl ?_
    refine v_move rfl ?_
    refine v_guard_off rfl rfl rfl ?_
    refine v_guard_off rfl rfl rfl ?_
    refine v_guard_off rfl rfl rfl ?_
    refine v_guard_off rfl rfl rfl ?_
    refine v_guard_off rfl rfl rfl ?_
    refine v_pick_f (v := .v (.bool false)) rfl rfl ?_
    refine v_move rfl ?_
    refine v_guard_off rfl rfl rfl ?_
    refine v_guard_off rfl rfl rfl ?_
    refine v_guard_off rfl rfl rfl ?_
    refine v_guard_off rfl rfl rfl ?_
    refine v_guard_off rfl rfl rfl ?_
    refine v_pick_f (v := .v (.bool false)) rfl rfl ?_
    refine v_move rfl ?_
    refine v_guard_off rfl rfl rfl ?_
    refine v_guard_off rfl rfl rfl ?_
    refine v_guard_off rfl rfl rfl ?_
    refine v_guard_off rfl rfl rfl ?_
    refine v_guard_off rfl rfl rfl ?_
    refine v_pick_f (v := .v (.bool false)) rfl rfl ?_
    refine v_move rfl ?_
    refine v_guard_off rfl rfl rfl ?_
    refine v_guard_off rfl rfl rfl ?_
    refine v_guard_off rfl rfl rfl ?_
    refine v_guard_off rfl rfl rfl ?_
    refine v_guard_off rfl rfl rfl ?_
    refine v_pick_f (v := .v (.bool false)) rfl rfl ?_
    refine v_move rfl ?_
    refine v_guard_off rfl rfl rfl ?_
    refine v_guard_off rfl rfl rfl ?_
    refine v_guard_off rfl rfl rfl ?_
    refine v_guard_off rfl rfl rfl ?_
    refine v_guard_off rfl rfl rfl ?_
    refine v_pick_f (v := .v (.bool false)) rfl rfl ?_
    refine v_assign rfl ?_
    refine v_nil ?_
    refine q_n ?_
    refine w_ret ?_
    refine r_r rfl ?_
    exact a_b (by rw [tw_ext]; simp [*])
  refine v_pick_t rfl rfl ?_
  refine v_move rfl ?_
  refine v_guard_on rfl rfl ?_
  refine v_fa_pt (off' := 2) lay35 rfl rfl rfl ?_
  refine v_guard_on rfl rfl ?_
  refine v_load_pt (.c _) lay32 rfl rfl rfl rfl ?_
  refine v_guard_on rfl rfl ?_
  refine v_fa_pt (off' := 2) lay35 rfl rfl rfl ?_
  refine v_guard_on rfl rfl ?_
  refine v_load_pt (.c _) lay32 rfl rfl rfl rfl ?_
  refine v_guard_on rfl rfl ?_
  refine v_callb (cEFjo 27 _ _ (by omega) (fun x h1 y h2 => cSameJo x y (hF.2.2.1 x h1) (hG.2.2.1 y h2) (by have := b4 x h1; omega) (by have := b4 x h1; omega))) rfl rfl (.cons vw_sl (.cons vw_sl (.cons (vw_fn .nil) .nil))) (fun h3 => ?_) (fun h3 => ?_)
  rotate_left
  · refine v_pick_t rfl rfl ?_
    refine v_move rfl ?_
    refine v_guard_off rfl rfl rfl ?_
    refine v_guard_off rfl rfl rfl ?_
    refine v_guard_off rfl rfl rfl ?_
    refine v_guard_off rfl rfl rfl ?_
    refine v_guard_off rfl rfl rfl ?_
    refine v_pick_f (v := .v (.bool false)) rfl rfl ?_
    refine v_move rfl ?_
    refine v_guard_off rfl rfl rfl ?_
    refine v_guard_off rfl rfl rfl ?_
    refine v_guard_off rfl rfl rfl ?_
    refine v_guard_off rfl rfl rfl ?_
    refine v_guard_off rfl rfl rfl ?_
    refine v_pick_f (v := .v (.bool false)) rfl rfl ?_
    refine v_move rfl ?_
    refine v_guard_off rfl rfl rfl ?_
    refine v_guard_off rfl rfl rfl ?_
    refine v_guard_off rfl rfl rfl ?_
    refine v_guard_off rfl rfl rfl ?_
    refine v_guard_off rfl rfl rfl ?_
    refine v_pick_f (v := .v (.bool false)) rfl rfl ?_
    refine v_move rfl ?_
    refine v_guard_off rfl rfl rfl ?_
    refine v_guard_off rfl rfl rfl ?_
    refine v_guard_off rfl rfl rfl ?_
    refine v_guard_off rfl rfl rfl ?_
    refine v_guard_off rfl rfl rfl ?_
    refine v_pick_f (v := .v (.bool false)) rfl rfl ?_
    refine v_assign rfl ?_
    refine v_nil ?_
    refine q_n ?_
    refine w_ret ?_
    refine r_r rfl ?_
    exact a_b (by rw [tw_ext]; simp [*])
  refine v_pick_t rfl rfl ?_
  refine v_move rfl ?_
  refine v_guard_on rfl rfl ?_
  refine v_fa_pt (off' := 3) lay35 rfl rfl rfl ?_
  refine v_guard_on rfl rfl ?_
  refine v_load_pt (.c _) lay33 rfl rfl rfl rfl ?_
  refine v_guard_on rfl rfl ?_
  refine v_fa_pt (off' := 3) lay35 rfl rfl rfl ?_
  refine v_guard_on rfl rfl ?_
  refine v_load_pt (.c _) lay33 rfl rfl rfl rfl ?_
  refine v_guard_on rfl rfl ?_
  refine v_callb (cEFpl 29 _ _ (by omega) (fun x h1 y h2 => cSamePlan x y (hF.2.2.2.2.2 x h1) (hG.2.2.2.2.2 y h2) (by have := b6 x h1; omega))) rfl rfl (.cons vw_sl (.cons vw_sl (.cons (vw_fn .nil) .nil))) (fun h4 => ?_) (fun h4 => ?_)
  rotate_left
  · refine v_pick_t rfl rfl ?_
    refine v_move rfl ?_
    refine v_guard_off rfl rfl rfl ?_
    refine v_guard_off rfl rfl rfl ?_
    refine v_guard_off rfl rfl rfl ?_
    refine v_guard_off rfl rfl rfl ?_
    refine v_guard_off rfl rfl rfl ?_
    refine v_pick_f (v := .v (.bool false)) rfl rfl ?_
    refine v_move rfl ?_
    refine v_guard_off rfl rfl rfl ?_
    refine v_guard_off rfl rfl rfl ?_
    refine v_guard_off rfl rfl rfl ?_
    refine v_guard_off rfl rfl rfl ?_
    refine v_guard_off rfl rfl rfl ?_
    refine v_pick_f (v := .v (.bool false)) rfl rfl ?_
    refine v_move rfl ?_
    refine v_guard_off rfl rfl rfl ?_
    refine v_guard_off rfl rfl rfl ?_
    refine v_guard_off rfl rfl rfl ?_
    refine v_guard_off rfl rfl rfl ?_
    refine v_guard_off rfl rfl rfl ?_
    refine v_pick_f (v := .v (.bool false)) rfl rfl ?_
    refine v_assign rfl ?_
    refine v_nil ?_
    refine q_n ?_
    refine w_ret ?_
    refine r_r rfl ?_
    exact a_b (by rw [tw_ext]; simp [*])
  refine v_pick_t rfl rfl ?_
  refine v_move rfl ?_
  refine v_guard_on rfl rfl ?_
  refine v_fa_pt (off' := 4) lay35 rfl rfl rfl ?_
  refine v_guard_on rfl rfl ?_
  refine v_load_pt (.c _) lay2 rfl rfl rfl rfl ?_
  refine v_guard_on rfl rfl ?_
  refine v_fa_pt (off' := 4) lay35 rfl rfl rfl ?_
  refine v_guard_on rfl rfl ?_
  refine v_load_pt (.c _) lay2 rfl rfl rfl rfl ?_
  refine v_guard_on rfl rfl ?_
  refine v_eql lay2 rfl rfl (fun h5 => ?_) (fun h5 => ?_)
  rotate_left
  · refine v_pick_t rfl rfl ?_
    refine v_move rfl ?_
    refine v_guard_off rfl rfl rfl ?_
    refine v_guard_off rfl rfl rfl ?_
    refine v_guard_off rfl rfl rfl ?_
    refine v_guard_off rfl rfl rfl ?_
    refine v_guard_off rfl rfl rfl ?_
    refine v_pick_f (v := .v (.bool false)) rfl rfl ?_
    refine v_move rfl ?_
    refine v_guard_off rfl rfl rfl ?_
    refine v_guard_off rfl rfl rfl ?_
    refine v_guard_off rfl rfl rfl ?_
    refine v_guard_off rfl rfl rfl ?_
    refine v_guard_off rfl rfl rfl ?_
    refine v_pick_f (v := .v (.bool false)) rfl rfl ?_
    refine v_assign rfl ?_
    refine v_nil ?_
    refine q_n ?_
    refine w_ret ?_
    refine r_r rfl ?_
    exact a_b (by rw [tw_ext]; simp [*])
  refine v_pick_t rfl rfl ?_
  refine v_move rfl ?_
  refine v_guard_on rfl rfl ?_
  refine v_fa_pt (off' := 5) lay35 rfl rfl rfl ?_
  refine v_guard_on rfl rfl ?_
  refine v_load_pt (.c _) lay26 rfl rfl rfl rfl ?_
  refine v_guard_on rfl rfl ?_
  refine v_fa_pt (off' := 5) lay35 rfl rfl rfl ?_
  refine v_guard_on rfl rfl ?_
  refine v_load_pt (.c _) lay26 rfl rfl rfl rfl ?_
  refine v_guard_on rfl rfl ?_
  refine v_callb (cSN _ _ hF.2.2.2.1.1 hG.2.2.2.1.1) rfl rfl (.cons vw_f (.cons vw_f .nil)) (fun h6 => ?_) (fun h6 => ?_)
  rotate_left
  · refine v_pick_t rfl rfl ?_
    refine v_move rfl ?_
    refine v_guard_off rfl rfl rfl ?_
    refine v_guard_off rfl rfl rfl ?_
    refine v_guard_off rfl rfl rfl ?_
    refine v_guard_off rfl rfl rfl ?_
    refine v_guard_off rfl rfl rfl ?_
    refine v_pick_f (v := .v (.bool false)) rfl rfl ?_
    refine v_assign rfl ?_
    refine v_nil ?_
    refine q_n ?_
    refine w_ret ?_
    refine r_r rfl ?_
    exact a_b (by rw [tw_ext]; simp [*])
  refine v_pick_t rfl rfl ?_
  refine v_move rfl ?_
  refine v_guard_on rfl rfl ?_
  refine v_fa_pt (off' := 6) lay35 rfl rfl rfl ?_
  refine v_guard_on rfl rfl ?_
  refine v_load_pt (.c _) lay26 rfl rfl rfl rfl ?_
  refine v_guard_on rfl rfl ?_
  refine v_fa_pt (off' := 6) lay35 rfl rfl rfl ?_
  refine v_guard_on rfl rfl ?_
  refine v_load_pt (.c _) lay26 rfl rfl rfl rfl ?_
  refine v_guard_on rfl rfl ?_
  refine v_callb (cSN _ _ hF.2.2.2.2.1.1 hG.2.2.2.2.1.1) rfl rfl (.cons vw_f (.cons vw_f .nil)) (fun h7 => ?_) (fun h7 => ?_)
  · refine v_pick_t rfl rfl ?_
    refine v_assign rfl ?_
    refine v_nil ?_
    refine q_n ?_
    refine w_ret ?_
    refine r_r rfl ?_
    exact a_b (by rw [tw_ext]; simp [*])
  refine v_pick_t rfl rfl ?_
  refine v_assign rfl ?_
  refine v_nil ?_
  refine q_n ?_
  refine w_ret ?_
  refine r_r rfl ?_
  exact a_b (by rw [tw_ext]; simp [*])
end Go.VL
namespace Go.VL
open Go.RowKit
set_option maxRecDepth 20000
set_option maxHeartbeats 8000000
theorem cLawSame (t u : Tw) (hM : tB maxLen t) (hN : tB maxLen u) (hF : tF t) (hG : tF u) : PureC X 3 [.agg (twf false t), .agg (twf false u)] (cB true) := by
  refine PureC.of_body (drawD_ok X) (fun _ _ => Go.Proofs.Try.call3 _ _) Go.Proofs.Try.func3 rfl (n := 45) rfl ?_
  refine w_seq ?_
  refine w_reg rfl ?_
  refine v_box (m := 0) (H' := [_]) lay28 rfl rfl rfl ?_
  refine v_box (m := 1) (H' := [_, _]) lay28 rfl rfl rfl ?_
  refine v_assign (c := .v (.bool false)) rfl ?_
  refine v_nil ?_
  refine q_n ?_
  refine w_seq ?_
  refine w_reg rfl ?_
  refine v_assign (c := .v (.int .i64 1048576)) rfl ?_
  refine v_nil ?_
  refine q_n ?_
  refine w_seq ?_
  refine w_reg rfl ?_
  refine v_load_pt (.agg [_, _, _, _, _, _, _]) lay28 rfl rfl rfl rfl ?_
  refine v_move rfl ?_
  refine v_call (cSzTown _ _ (by first | exact hz1.2 | decide) (by assumption)) rfl rfl rfl (.cons (vw_agg (.cons vw_sl (.cons vw_sl (.cons vw_sl (.cons vw_sl (.cons vw_v (.cons vw_f (.cons vw_f .nil)))))))) (.cons vw_v .nil)) ?_
  refine v_assign rfl ?_
  refine v_nil ?_
  refine q_n ?_
  refine w_seq ?_
  refine w_seq ?_
  refine w_reg rfl ?_
  refine v_move rfl ?_
  refine v_lss lay3 rfl rfl (fun h1 => ?_) (fun h1 => ?_)
  · refine v_nil ?_
    refine q_n ?_
    refine w_t rfl ?_
    refine w_seq ?_
    refine w_reg rfl ?_
    refine v_assign (c := .v (.bool true)) rfl ?_
    refine v_nil ?_
    refine q_n ?_
    refine w_ret (q_r ?_)
    refine r_r rfl ?_
    first | exact tr_v | exact a_b (by simp)
  have hz1 := szT_le (by decide) h1
  refine v_nil ?_
  refine q_n ?_
  refine w_f rfl ?_
  refine w_skip ?_
  refine q_n ?_
  refine w_seq ?_
  refine w_reg rfl ?_
  refine v_load_pt (.agg [_, _, _, _, _, _, _]) lay28 rfl rfl rfl rfl ?_
  refine v_move rfl ?_
  refine v_call (cSzTown _ _ (by first | exact hz1.2 | decide) (by assumption)) rfl rfl rfl (.cons (vw_agg (.cons vw_sl (.cons vw_sl (.cons vw_sl (.cons vw_sl (.cons vw_v (.cons vw_f (.cons vw_f .nil)))))))) (.cons vw_v .nil)) ?_
  refine v_assign rfl ?_
  refine v_nil ?_
  refine q_n ?_
  refine w_seq ?_
  refine w_seq ?_
  refine w_reg rfl ?_
  refine v_move rfl ?_
  refine v_lss lay3 rfl rfl (fun h2 => ?_) (fun h2 => ?_)
  · refine v_nil ?_
    refine q_n ?_
    refine w_t rfl ?_
    refine w_seq ?_
    refine w_reg rfl ?_
    refine v_assign (c := .v (.bool true)) rfl ?_
    refine v_nil ?_
    refine q_n ?_
    refine w_ret (q_r ?_)
    refine r_r rfl ?_
    first | exact tr_v | exact a_b (by simp)
  have hz2 := szT_le hz1.2 h2
  have hB := hz1.1
  have hC := hz2.1
  refine v_nil ?_
  refine q_n ?_
  refine w_f rfl ?_
  refine w_skip ?_
  refine q_n ?_
  refine w_seq ?_
  refine w_draw [0, 1, 0, 7, 15, 31] [⟨0, 0, []⟩, ⟨1, 0, []⟩, ⟨2, 0, []⟩, ⟨3, 0, []⟩, ⟨4, 0, []⟩, ⟨5, 0, []⟩] rfl rfl ?_
  refine d_q rfl rfl rfl rfl rfl ?_
  refine v_load_pt (.agg [_, _, _, _, _, _, _]) lay28 rfl rfl rfl rfl ?_
  refine v_nil ?_
  refine d_call (cToTown _ (by assumption)) rfl rfl rfl rfl rfl (.cons (vw_agg (.cons vw_sl (.cons vw_sl (.cons vw_sl (.cons vw_sl (.cons vw_v (.cons vw_f (.cons vw_f .nil)))))))) .nil) ?_
  refine d_q rfl rfl rfl rfl rfl ?_
  refine v_load_pt (.agg [_, _, _, _, _, _, _]) lay28 rfl rfl rfl rfl ?_
  refine v_nil ?_
  refine d_call (cToTown _ (by assumption)) rfl rfl rfl rfl rfl (.cons (vw_agg (.cons vw_sl (.cons vw_sl (.cons vw_sl (.cons vw_sl (.cons vw_v (.cons vw_f (.cons vw_f .nil)))))))) .nil) ?_
  refine d_callb (cSpecSame _ _ (by assumption) (by assumption) (by assumption) (by assumption)) rfl rfl rfl rfl (.cons (vw_agg (.cons vw_sl (.cons vw_sl (.cons vw_sl (.cons vw_sl (.cons vw_v (.cons vw_f (.cons vw_f .nil)))))))) (.cons (vw_agg (.cons vw_sl (.cons vw_sl (.cons vw_sl (.cons vw_sl (.cons vw_v (.cons vw_f (.cons vw_f .nil)))))))) .nil)) (fun h3 => ?_) (fun h3 => ?_)
  rotate_left
  · have e0 := h3
    refine d_q rfl rfl rfl rfl rfl ?_
    refine v_assign rfl ?_
    refine v_nil ?_
    refine d_nil ?_
    refine q_n ?_
    refine w_seq ?_
    refine w_reg rfl ?_
    refine v_load_pt (.agg [_, _, _, _, _, _, _]) lay28 rfl rfl rfl rfl ?_
    refine v_call (cToTown _ (by assumption)) rfl rfl rfl (.cons (vw_agg (.cons vw_sl (.cons vw_sl (.cons vw_sl (.cons vw_sl (.cons vw_v (.cons vw_f (.cons vw_f .nil)))))))) .nil) ?_
    refine v_alloc (m := 2) (H' := [_, _, ⟨[.v _, .v _, .v _, .v _, .v _, .f _ _, .f _ _], 35, true⟩]) lay35 rfl rfl ?_
    refine v_store (H' := [_, _, ⟨[_, _, _, _, _, _, _], 35, true⟩]) lay35 rfl rfl rfl rfl rfl rfl ?_
    refine v_nil ?_
    refine q_n ?_
    refine w_seq ?_
    refine w_reg rfl ?_
    refine v_load_pt (.agg [_, _, _, _, _, _, _]) lay28 rfl rfl rfl rfl ?_
    refine v_call (cToTown _ (by assumption)) rfl rfl rfl (.cons (vw_agg (.cons vw_sl (.cons vw_sl (.cons vw_sl (.cons vw_sl (.cons vw_v (.cons vw_f (.cons vw_f .nil)))))))) .nil) ?_
    refine v_alloc (m := 3) (H' := [_, _, _, ⟨[.v _, .v _, .v _, .v _, .v _, .f _ _, .f _ _], 35, true⟩]) lay35 rfl rfl ?_
    refine v_store (H' := [_, _, _, ⟨[_, _, _, _, _, _, _], 35, true⟩]) lay35 rfl rfl rfl rfl rfl rfl ?_
    refine v_nil ?_
    refine q_n ?_
    refine w_seq ?_
    refine w_reg rfl ?_
    refine v_load_pt (.agg [_, _, _, _, _, _, _]) lay35 rfl rfl rfl rfl ?_
    refine v_load_pt (.agg [_, _, _, _, _, _, _]) lay35 rfl rfl rfl rfl ?_
    refine v_callb (cImplSame _ _ (by assumption) (by assumption) (by assumption)) rfl rfl (.cons (vw_agg (.cons vw_sl (.cons vw_sl (.cons vw_sl (.cons vw_sl (.cons vw_v (.cons vw_f (.cons vw_f .nil)))))))) (.cons (vw_agg (.cons vw_sl (.cons vw_sl (.cons vw_sl (.cons vw_sl (.cons vw_v (.cons vw_f (.cons vw_f .nil)))))))) .nil)) (fun h7 => ?_) (fun h7 => ?_)
    · first | exact absurd e0 h7 | exact absurd h7 e0
    refine v_assign rfl ?_
    refine v_nil ?_
    refine q_n ?_
    refine w_seq ?_
    refine w_seq ?_
    refine w_reg rfl ?_
    refine v_move rfl ?_
    refine v_move rfl ?_
    refine v_bin (c := .v (.bool false)) lay4 rfl rfl rfl ?_
    refine v_nil ?_
    refine q_n ?_
    refine w_f rfl ?_
    refine w_skip ?_
    refine q_n ?_
    refine w_seq ?_
    refine w_seq ?_
    refine w_draw [0, 0, 2, 7, 15] [⟨0, 0, []⟩, ⟨1, 0, []⟩, ⟨2, 0, []⟩, ⟨3, 0, []⟩, ⟨4, 0, []⟩] rfl rfl ?_
    refine d_q rfl rfl rfl rfl rfl ?_
    refine v_load_pt (.agg [_, _, _, _, _, _, _]) lay35 rfl rfl rfl rfl ?_
    refine v_nil ?_
    refine d_q rfl rfl rfl rfl rfl ?_
    refine v_load_pt (.agg [_, _, _, _, _, _, _]) lay28 rfl rfl rfl rfl ?_
    refine v_nil ?_
    refine d_call (cToTown _ (by assumption)) rfl rfl rfl rfl rfl (.cons (vw_agg (.cons vw_sl (.cons vw_sl (.cons vw_sl (.cons vw_sl (.cons vw_v (.cons vw_f (.cons vw_f .nil)))))))) .nil) ?_
    refine d_callb (cEqTown _ (by assumption) (by assumption)) rfl rfl rfl rfl (.cons (vw_agg (.cons vw_sl (.cons vw_sl (.cons vw_sl (.cons vw_sl (.cons vw_v (.cons vw_f (.cons vw_f .nil)))))))) (.cons (vw_agg (.cons vw_sl (.cons vw_sl (.cons vw_sl (.cons vw_sl (.cons vw_v (.cons vw_f (.cons vw_f .nil)))))))) .nil)) (fun h8 => ?_) (fun h8 => ?_)
    rotate_left
    · exact absurd trivial h8
    refine d_q rfl rfl rfl rfl rfl ?_
    refine v_not false rfl rfl ?_
    refine v_nil ?_
    refine d_nil ?_
    refine q_n ?_
    refine w_f rfl ?_
    refine w_skip ?_
    refine q_n ?_
    refine w_seq ?_
    refine w_seq ?_
    refine w_draw [0, 0, 2, 7, 15] [⟨0, 0, []⟩, ⟨1, 0, []⟩, ⟨2, 0, []⟩, ⟨3, 0, []⟩, ⟨4, 0, []⟩] rfl rfl ?_
    refine d_q rfl rfl rfl rfl rfl ?_
    refine v_load_pt (.agg [_, _, _, _, _, _, _]) lay35 rfl rfl rfl rfl ?_
    refine v_nil ?_
    refine d_q rfl rfl rfl rfl rfl ?_
    refine v_load_pt (.agg [_, _, _, _, _, _, _]) lay28 rfl rfl rfl rfl ?_
    refine v_nil ?_
    refine d_call (cToTown _ (by assumption)) rfl rfl rfl rfl rfl (.cons (vw_agg (.cons vw_sl (.cons vw_sl (.cons vw_sl (.cons vw_sl (.cons vw_v (.cons vw_f (.cons vw_f .nil)))))))) .nil) ?_
    refine d_callb (cEqTown _ (by assumption) (by assumption)) rfl rfl rfl rfl (.cons (vw_agg (.cons vw_sl (.cons vw_sl (.cons vw_sl (.cons vw_sl (.cons vw_v (.cons vw_f (.cons vw_f .nil)))))))) (.cons (vw_agg (.cons vw_sl (.cons vw_sl (.cons vw_sl (.cons vw_sl (.cons vw_v (.cons vw_f (.cons vw_f .nil)))))))) .nil)) (fun h9 => ?_) (fun h9 => ?_)
    rotate_left
    · exact absurd trivial h9
    refine d_q rfl rfl rfl rfl rfl ?_
    refine v_not false rfl rfl ?_
    refine v_nil ?_
    refine d_nil ?_
    refine q_n ?_
    refine w_f rfl ?_
    refine w_skip ?_
    refine q_n ?_
    refine w_seq ?_
    refine w_reg rfl ?_
    refine v_assign (c := .v (.bool true)) rfl ?_
    refine v_nil ?_
    refine q_n ?_
    refine w_ret ?_
    refine r_r rfl ?_
    first | exact tr_v | exact a_b (by simp)
  have e0 := h3
  refine d_q rfl rfl rfl rfl rfl ?_
  refine v_assign rfl ?_
  refine v_nil ?_
  refine d_nil ?_
  refine q_n ?_
  refine w_seq ?_
  refine w_reg rfl ?_
  refine v_load_pt (.agg [_, _, _, _, _, _, _]) lay28 rfl rfl rfl rfl ?_
  refine v_call (cToTown _ (by assumption)) rfl rfl rfl (.cons (vw_agg (.cons vw_sl (.cons vw_sl (.cons vw_sl (.cons vw_sl (.cons vw_v (.cons vw_f (.cons vw_f .nil)))))))) .nil) ?_
  refine v_alloc (m := 2) (H' := [_, _, ⟨[.v _, .v _, .v _, .v _, .v _, .f _ _, .f _ _], 35, true⟩]) lay35 rfl rfl ?_
  refine v_store (H' := [_, _, ⟨[_, _, _, _, _, _, _], 35, true⟩]) lay35 rfl rfl rfl rfl rfl rfl ?_
  refine v_nil ?_
  refine q_n ?_
  refine w_seq ?_
  refine w_reg rfl ?_
  refine v_load_pt (.agg [_, _, _, _, _, _, _]) lay28 rfl rfl rfl rfl ?_
  refine v_call (cToTown _ (by assumption)) rfl rfl rfl (.cons (vw_agg (.cons vw_sl (.cons vw_sl (.cons vw_sl (.cons vw_sl (.cons vw_v (.cons vw_f (.cons vw_f .nil)))))))) .nil) ?_
  refine v_alloc (m := 3) (H' := [_, _, _, ⟨[.v _, .v _, .v _, .v _, .v _, .f _ _, .f _ _], 35, true⟩]) lay35 rfl rfl ?_
  refine v_store (H' := [_, _, _, ⟨[_, _, _, _, _, _, _], 35, true⟩]) lay35 rfl rfl rfl rfl rfl rfl ?_
  refine v_nil ?_
  refine q_n ?_
  refine w_seq ?_
  refine w_reg rfl ?_
  refine v_load_pt (.agg [_, _, _, _, _, _, _]) lay35 rfl rfl rfl rfl ?_
  refine v_load_pt (.agg [_, _, _, _, _, _, _]) lay35 rfl rfl rfl rfl ?_
  refine v_callb (cImplSame _ _ (by assumption) (by assumption) (by assumption)) rfl rfl (.cons (vw_agg (.cons vw_sl (.cons vw_sl (.cons vw_sl (.cons vw_sl (.cons vw_v (.cons vw_f (.cons vw_f .nil)))))))) (.cons (vw_agg (.cons vw_sl (.cons vw_sl (.cons vw_sl (.cons vw_sl (.cons vw_v (.cons vw_f (.cons vw_f .nil)))))))) .nil)) (fun h4 => ?_) (fun h4 => ?_)
  rotate_left
  · first | exact absurd e0 h4 | exact absurd h4 e0
  refine v_assign rfl ?_
  refine v_nil ?_
  refine q_n ?_
  refine w_seq ?_
  refine w_seq ?_
  refine w_reg rfl ?_
  refine v_move rfl ?_
  refine v_move rfl ?_
  refine v_bin (c := .v (.bool false)) lay4 rfl rfl rfl ?_
  refine v_nil ?_
  refine q_n ?_
  refine w_f rfl ?_
  refine w_skip ?_
  refine q_n ?_
  refine w_seq ?_
  refine w_seq ?_
  refine w_draw [0, 0, 2, 7, 15] [⟨0, 0, []⟩, ⟨1, 0, []⟩, ⟨2, 0, []⟩, ⟨3, 0, []⟩, ⟨4, 0, []⟩] rfl rfl ?_
  refine d_q rfl rfl rfl rfl rfl ?_
  refine v_load_pt (.agg [_, _, _, _, _, _, _]) lay35 rfl rfl rfl rfl ?_
  refine v_nil ?_
  refine d_q rfl rfl rfl rfl rfl ?_
  refine v_load_pt (.agg [_, _, _, _, _, _, _]) lay28 rfl rfl rfl rfl ?_
  refine v_nil ?_
  refine d_call (cToTown _ (by assumption)) rfl rfl rfl rfl rfl (.cons (vw_agg (.cons vw_sl (.cons vw_sl (.cons vw_sl (.cons vw_sl (.cons vw_v (.cons vw_f (.cons vw_f .nil)))))))) .nil) ?_
  refine d_callb (cEqTown _ (by assumption) (by assumption)) rfl rfl rfl rfl (.cons (vw_agg (.cons vw_sl (.cons vw_sl (.cons vw_sl (.cons vw_sl (.cons vw_v (.cons vw_f (.cons vw_f .nil)))))))) (.cons (vw_agg (.cons vw_sl (.cons vw_sl (.cons vw_sl (.cons vw_sl (.cons vw_v (.cons vw_f (.cons vw_f .nil)))))))) .nil)) (fun h5 => ?_) (fun h5 => ?_)
  rotate_left
  · exact absurd trivial h5
  refine d_q rfl rfl rfl rfl rfl ?_
  refine v_not false rfl rfl ?_
  refine v_nil ?_
  refine d_nil ?_
  refine q_n ?_
  refine w_f rfl ?_
  refine w_skip ?_
  refine q_n ?_
  refine w_seq ?_
  refine w_seq ?_
  refine w_draw [0, 0, 2, 7, 15] [⟨0, 0, []⟩, ⟨1, 0, []⟩, ⟨2, 0, []⟩, ⟨3, 0, []⟩, ⟨4, 0, []⟩] rfl rfl ?_
  refine d_q rfl rfl rfl rfl rfl ?_
  refine v_load_pt (.agg [_, _, _, _, _, _, _]) lay35 rfl rfl rfl rfl ?_
  refine v_nil ?_
  refine d_q rfl rfl rfl rfl rfl ?_
  refine v_load_pt (.agg [_, _, _, _, _, _, _]) lay28 rfl rfl rfl rfl ?_
  refine v_nil ?_
  refine d_call (cToTown _ (by assumption)) rfl rfl rfl rfl rfl (.cons (vw_agg (.cons vw_sl (.cons vw_sl (.cons vw_sl (.cons vw_sl (.cons vw_v (.cons vw_f (.cons vw_f .nil)))))))) .nil) ?_
  refine d_callb (cEqTown _ (by assumption) (by assumption)) rfl rfl rfl rfl (.cons (vw_agg (.cons vw_sl (.cons vw_sl (.cons vw_sl (.cons vw_sl (.cons vw_v (.cons vw_f (.cons vw_f .nil)))))))) (.cons (vw_agg (.cons vw_sl (.cons vw_sl (.cons vw_sl (.cons vw_sl (.cons vw_v (.cons vw_f (.cons vw_f .nil)))))))) .nil)) (fun h6 => ?_) (fun h6 => ?_)
  rotate_left
  · exact absurd trivial h6
  refine d_q rfl rfl rfl rfl rfl ?_
  refine v_not false rfl rfl ?_
  refine v_nil ?_
  refine d_nil ?_
  refine q_n ?_
  refine w_f rfl ?_
  refine w_skip ?_
  refine q_n ?_
  refine w_seq ?_
  refine w_reg rfl ?_
  refine v_assign (c := .v (.bool true)) rfl ?_
  refine v_nil ?_
  refine q_n ?_
  refine w_ret ?_
  refine r_r rfl ?_
  first | exact tr_v | exact a_b (by simp)
end Go.VL
namespace Go.VL
open Go.RowKit
set_option maxRecDepth 20000
set_option maxHeartbeats 8000000
theorem sg_of {x : Nat} (hw : (Lit.float .f32 x).wf = true) : Sg (fOf .f32 x) := by
  refine ⟨okF_fOf x, fun b h => ?_⟩
  have hlt : x < 2 ^ 32 := by simpa [Lit.wf] using hw
  unfold fOf at h
  split at h
  · cases h
  · simp only [Option.some.injEq] at h
    subst h
    exact hlt
theorem cty_sg {cs : List C} (h : Cty X.lay 26 cs) : ∃ x, cs = [.f .f32 x] ∧ Sg x := by
  obtain ⟨x, e, hw⟩ := cty_float lay26 h
  exact ⟨_, e, sg_of hw⟩
theorem cty_ca {cs : List C} (h : Cty X.lay 53 cs) : ∃ g : Fin 16 → Option Nat, cs = cac g ∧ ∀ i (hi : i < 16), Sg (g ⟨i, hi⟩) := by
  obtain ⟨h1, h2⟩ := cty_array lay53 h
  match cs, h1 with
  | [c0, c1, c2, c3, c4, c5, c6, c7, c8, c9, c10, c11, c12, c13, c14, c15], _ =>
    obtain ⟨x0, e0, w0⟩ := cty_sg (cs := [c0]) (h2 0 (by decide))
    obtain ⟨x1, e1, w1⟩ := cty_sg (cs := [c1]) (h2 1 (by decide))
    obtain ⟨x2, e2, w2⟩ := cty_sg (cs := [c2]) (h2 2 (by decide))
    obtain ⟨x3, e3, w3⟩ := cty_sg (cs := [c3]) (h2 3 (by decide))
    obtain ⟨x4, e4, w4⟩ := cty_sg (cs := [c4]) (h2 4 (by decide))
    obtain ⟨x5, e5, w5⟩ := cty_sg (cs := [c5]) (h2 5 (by decide))
    obtain ⟨x6, e6, w6⟩ := cty_sg (cs := [c6]) (h2 6 (by decide))
    obtain ⟨x7, e7, w7⟩ := cty_sg (cs := [c7]) (h2 7 (by decide))
    obtain ⟨x8, e8, w8⟩ := cty_sg (cs := [c8]) (h2 8 (by decide))
    obtain ⟨x9, e9, w9⟩ := cty_sg (cs := [c9]) (h2 9 (by decide))
    obtain ⟨x10, e10, w10⟩ := cty_sg (cs := [c10]) (h2 10 (by decide))
    obtain ⟨x11, e11, w11⟩ := cty_sg (cs := [c11]) (h2 11 (by decide))
    obtain ⟨x12, e12, w12⟩ := cty_sg (cs := [c12]) (h2 12 (by decide))
    obtain ⟨x13, e13, w13⟩ := cty_sg (cs := [c13]) (h2 13 (by decide))
    obtain ⟨x14, e14, w14⟩ := cty_sg (cs := [c14]) (h2 14 (by decide))
    obtain ⟨x15, e15, w15⟩ := cty_sg (cs := [c15]) (h2 15 (by decide))
    simp only [List.cons.injEq, and_true] at e0 e1 e2 e3 e4 e5 e6 e7 e8 e9 e10 e11 e12 e13 e14 e15
    subst e0 e1 e2 e3 e4 e5 e6 e7 e8 e9 e10 e11 e12 e13 e14 e15
    refine ⟨fun i => [x0, x1, x2, x3, x4, x5, x6, x7, x8, x9, x10, x11, x12, x13, x14, x15].getD i.val none, rfl, fun i hi => ?_⟩
    match i, hi with
    | 0, _ => exact w0
    | 1, _ => exact w1
    | 2, _ => exact w2
    | 3, _ => exact w3
    | 4, _ => exact w4
    | 5, _ => exact w5
    | 6, _ => exact w6
    | 7, _ => exact w7
    | 8, _ => exact w8
    | 9, _ => exact w9
    | 10, _ => exact w10
    | 11, _ => exact w11
    | 12, _ => exact w12
    | 13, _ => exact w13
    | 14, _ => exact w14
    | 15, _ => exact w15
    | k + 16, h => exact absurd h (by omega)
theorem cty_fo {cs : List C} (h : Cty X.lay 60 cs) : ∃ g : Fin 4 → Option Nat, cs = foc g ∧ ∀ i (hi : i < 4), Sg (g ⟨i, hi⟩) := by
  obtain ⟨h1, h2⟩ := cty_array lay60 h
  match cs, h1 with
  | [c0, c1, c2, c3], _ =>
    obtain ⟨x0, e0, w0⟩ := cty_sg (cs := [c0]) (h2 0 (by decide))
    obtain ⟨x1, e1, w1⟩ := cty_sg (cs := [c1]) (h2 1 (by decide))
    obtain ⟨x2, e2, w2⟩ := cty_sg (cs := [c2]) (h2 2 (by decide))
    obtain ⟨x3, e3, w3⟩ := cty_sg (cs := [c3]) (h2 3 (by decide))
    simp only [List.cons.injEq, and_true] at e0 e1 e2 e3
    subst e0 e1 e2 e3
    refine ⟨fun i => [x0, x1, x2, x3].getD i.val none, rfl, fun i hi => ?_⟩
    match i, hi with
    | 0, _ => exact w0
    | 1, _ => exact w1
    | 2, _ => exact w2
    | 3, _ => exact w3
theorem cty_fl {cs : List C} (h : Cty X.lay 61 cs) : ∃ T : Fl, cs = flc T ∧ ∀ i (hi : i < 4) k (hk : k < 4), Sg (T ⟨i, hi⟩ ⟨k, hk⟩) := by
  obtain ⟨h1, h2⟩ := cty_array lay61 h
  match cs, h1 with
  | [c0, c1, c2, c3, c4, c5, c6, c7, c8, c9, c10, c11, c12, c13, c14, c15], _ =>
    obtain ⟨g0, e0, w0⟩ := cty_fo (cs := [c0, c1, c2, c3]) (h2 0 (by decide))
    obtain ⟨g1, e1, w1⟩ := cty_fo (cs := [c4, c5, c6, c7]) (h2 1 (by decide))
    obtain ⟨g2, e2, w2⟩ := cty_fo (cs := [c8, c9, c10, c11]) (h2 2 (by decide))
    obtain ⟨g3, e3, w3⟩ := cty_fo (cs := [c12, c13, c14, c15]) (h2 3 (by decide))
    simp only [List.cons.injEq, and_true] at e0 e1 e2 e3
    obtain ⟨rfl, rfl, rfl, rfl⟩ := e0
    obtain ⟨rfl, rfl, rfl, rfl⟩ := e1
    obtain ⟨rfl, rfl, rfl, rfl⟩ := e2
    obtain ⟨rfl, rfl, rfl, rfl⟩ := e3
    refine ⟨fun i => [g0, g1, g2, g3].getD i.val g0, rfl, fun i hi => ?_⟩
    match i, hi with
    | 0, _ => exact w0
    | 1, _ => exact w1
    | 2, _ => exact w2
    | 3, _ => exact w3
theorem cty_rd {cs : List C} (h : Cty X.lay 107 cs) : ∃ r : Rd, cs = rdc r ∧ rW r := by
  obtain ⟨h1, h2⟩ := cty_struct lay107 h
  obtain ⟨g, e0, w0⟩ := cty_ca (h2 (53, 0) (by simp))
  obtain ⟨x, e1, w1⟩ := cty_sg (h2 (26, 16) (by simp))
  obtain ⟨y, e2, w2⟩ := cty_sg (h2 (26, 17) (by simp))
  obtain ⟨z, e3, w3⟩ := cty_sg (h2 (26, 18) (by simp))
  match cs, h1 with
  | [c0, c1, c2, c3, c4, c5, c6, c7, c8, c9, c10, c11, c12, c13, c14, c15, c16, c17, c18], _ =>
    have q0 : [c0, c1, c2, c3, c4, c5, c6, c7, c8, c9, c10, c11, c12, c13, c14, c15] = cac g := e0
    have q1 : [c16] = [.f .f32 x] := e1
    have q2 : [c17] = [.f .f32 y] := e2
    have q3 : [c18] = [.f .f32 z] := e3
    simp only [List.cons.injEq, and_true] at q0 q1 q2 q3
    obtain ⟨rfl, rfl, rfl, rfl, rfl, rfl, rfl, rfl, rfl, rfl, rfl, rfl, rfl, rfl, rfl, rfl⟩ := q0
    subst q1 q2 q3
    exact ⟨(g, x, y, z), rfl, w0, w1, w2, w3⟩
theorem cty_jn {cs : List C} (h : Cty X.lay 92 cs) : ∃ j : Jn, cs = jnc j ∧ jW j := by
  obtain ⟨h1, h2⟩ := cty_struct lay92 h
  obtain ⟨a, e0, -⟩ := cty_int lay2 (h2 (2, 0) (by simp))
  obtain ⟨b, e1, -⟩ := cty_int lay2 (h2 (2, 1) (by simp))
  obtain ⟨T, e2, w2⟩ := cty_fl (h2 (61, 2) (by simp))
  obtain ⟨g, e3, w3⟩ := cty_fo (h2 (60, 18) (by simp))
  match cs, h1 with
  | [c0, c1, c2, c3, c4, c5, c6, c7, c8, c9, c10, c11, c12, c13, c14, c15, c16, c17, c18, c19, c20, c21], _ =>
    have q0 : [c0] = [.v (.int .i64 a)] := e0
    have q1 : [c1] = [.v (.int .i64 b)] := e1
    have q2 : [c2, c3, c4, c5, c6, c7, c8, c9, c10, c11, c12, c13, c14, c15, c16, c17] = flc T := e2
    have q3 : [c18, c19, c20, c21] = foc g := e3
    simp only [List.cons.injEq, and_true] at q0 q1 q2 q3
    obtain ⟨rfl, rfl, rfl, rfl, rfl, rfl, rfl, rfl, rfl, rfl, rfl, rfl, rfl, rfl, rfl, rfl⟩ := q2
    obtain ⟨rfl, rfl, rfl, rfl⟩ := q3
    subst q0 q1
    exact ⟨(a, b, T, g), rfl, w2, w3⟩
theorem cty_ints {cs : List C} (h : Cty X.lay 66 cs) : ∃ xs : List Int, cs = [.sl true xs.length 1 (flat int xs)] ∧ xs.length ≤ maxLen := by
  obtain ⟨xs, e, hx, hn⟩ := cty_slice lay66 h
  obtain ⟨zs, k1, k2, -⟩ := flat_of2 (enc := int) (p := fun _ => True) (xs := xs) fun x hm => by
    obtain ⟨n, hn, -⟩ := cty_int lay2 (hx x hm)
    exact ⟨n, hn, trivial⟩
  exact ⟨zs, by rw [← k2, k1]; exact e, by omega⟩
theorem cty_flos {cs : List C} (h : Cty X.lay 23 cs) : ∃ xs : List (Option Nat), cs = [.sl true xs.length 1 (flat fe xs)] ∧ xs.length ≤ maxLen ∧ ∀ x ∈ xs, Sg x := by
  obtain ⟨xs, e, hx, hn⟩ := cty_slice lay23 h
  obtain ⟨zs, k1, k2, k3⟩ := flat_of2 (enc := fe) (p := Sg) (xs := xs) fun x hm => cty_sg (hx x hm)
  exact ⟨zs, by rw [← k2, k1]; exact e, by omega, k3⟩
theorem cty_jo {cs : List C} (h : Cty X.lay 94 cs) : ∃ j : Jo, cs = joc j ∧ (j.2.1.length ≤ maxLen ∧ j.2.2.1.length ≤ maxLen) ∧ jW j.1 := by
  obtain ⟨h1, h2⟩ := cty_struct lay94 h
  obtain ⟨j, e0, w0⟩ := cty_jn (h2 (92, 0) (by simp))
  obtain ⟨xs, e1, w1⟩ := cty_ints (h2 (66, 22) (by simp))
  obtain ⟨ys, e2, w2⟩ := cty_ints (h2 (66, 23) (by simp))
  obtain ⟨p, e3, -⟩ := cty_int lay2 (h2 (2, 24) (by simp))
  match cs, h1 with
  | [c0, c1, c2, c3, c4, c5, c6, c7, c8, c9, c10, c11, c12, c13, c14, c15, c16, c17, c18, c19, c20, c21, c22, c23, c24], _ =>
    have q0 : [c0, c1, c2, c3, c4, c5, c6, c7, c8, c9, c10, c11, c12, c13, c14, c15, c16, c17, c18, c19, c20, c21] = jnc j := e0
    have q1 : [c22] = [.sl true xs.length 1 (flat int xs)] := e1
    have q2 : [c23] = [.sl true ys.length 1 (flat int ys)] := e2
    have q3 : [c24] = [.v (.int .i64 p)] := e3
    simp only [List.cons.injEq, and_true] at q0 q1 q2 q3
    obtain ⟨rfl, rfl, rfl, rfl, rfl, rfl, rfl, rfl, rfl, rfl, rfl, rfl, rfl, rfl, rfl, rfl, rfl, rfl, rfl, rfl, rfl, rfl⟩ := q0
    subst q1 q2 q3
    exact ⟨(j, xs, ys, p), rfl, ⟨w1, w2⟩, w0⟩
theorem cty_slo {cs : List C} (h : Cty X.lay 147 cs) : ∃ s : Slo, cs = stc s ∧ -9223372036854775808 ≤ s.2 ∧ s.2 ≤ 9223372036854775807 := by
  obtain ⟨h1, h2⟩ := cty_struct lay147 h
  obtain ⟨g, e0⟩ := cty_ph lay114 lay4 rfl (h2 (114, 0) (by simp))
  obtain ⟨x, e1, w1, w2⟩ := cty_int lay2 (h2 (2, 8) (by simp))
  match cs, h1 with
  | [c0, c1, c2, c3, c4, c5, c6, c7, c8], _ =>
    have q0 : [c0, c1, c2, c3, c4, c5, c6, c7] = phc g := e0
    have q1 : [c8] = [.v (.int .i64 x)] := e1
    simp only [List.cons.injEq, and_true] at q0 q1
    obtain ⟨rfl, rfl, rfl, rfl, rfl, rfl, rfl, rfl⟩ := q0
    subst q1
    exact ⟨(g, x), rfl, w1, w2⟩
theorem cty_pln {cs : List C} (h : Cty X.lay 98 cs) : ∃ p : Pln, cs = plc p ∧ p.1.length ≤ maxLen ∧ pW p := by
  obtain ⟨h1, h2⟩ := cty_struct lay98 h
  match cs, h1 with
  | [c0, c1, c2], _ =>
    obtain ⟨xs, e0, hx, hn⟩ := cty_slice lay96 (h2 (96, 0) (by simp))
    obtain ⟨b, e1, -⟩ := cty_int lay2 (h2 (2, 1) (by simp))
    obtain ⟨f, e2, -⟩ := cty_int lay2 (h2 (2, 2) (by simp))
    obtain ⟨ys, k1, k2, k3⟩ := flat_of2 (enc := stc) (p := fun s => -9223372036854775808 ≤ s.2 ∧ s.2 ≤ 9223372036854775807) (xs := xs) fun x hxm => cty_slo (hx x hxm)
    have q0 : [c0] = [.sl true xs.length 9 xs.flatten] := e0
    have q1 : [c1] = [.v (.int .i64 b)] := e1
    have q2 : [c2] = [.v (.int .i64 f)] := e2
    simp only [List.cons.injEq, and_true] at q0 q1 q2
    subst q0 q1 q2
    exact ⟨(ys, b, f), by rw [k2, ← k1]; rfl, by rw [k1]; exact hn, k3⟩
theorem vty_town {v : V} (h : VTy X.lay 28 v) : ∃ t : Tw, v = .agg (twf false t) ∧ tB maxLen t ∧ tF t := by
  unfold VTy at h
  rw [lay28] at h
  simp only [LK.agg, if_true] at h
  obtain ⟨cs, rfl, hc⟩ := h
  obtain ⟨h1, h2⟩ := cty_struct lay28 hc
  match cs, h1 with
  | [c0, c1, c2, c3, c4, c5, c6], _ =>
    obtain ⟨rs, e0, hx0, n0⟩ := cty_slice lay22 (h2 (22, 0) (by simp))
    obtain ⟨ofs, e1, n1, w1⟩ := cty_flos (h2 (23, 1) (by simp))
    obtain ⟨js, e2, hx2, n2⟩ := cty_slice lay24 (h2 (24, 2) (by simp))
    obtain ⟨ps, e3, hx3, n3⟩ := cty_slice lay25 (h2 (25, 3) (by simp))
    obtain ⟨k, e4, -⟩ := cty_int lay2 (h2 (2, 4) (by simp))
    obtain ⟨x, e5, w5⟩ := cty_sg (h2 (26, 5) (by simp))
    obtain ⟨y, e6, w6⟩ := cty_sg (h2 (26, 6) (by simp))
    obtain ⟨rs', a1, a2, a3⟩ := flat_of2 (enc := rdc) (p := rW) (xs := rs) fun x hm => cty_rd (hx0 x hm)
    obtain ⟨js', b1, b2, b3⟩ := flat_of2 (enc := joc) (p := fun j => (j.2.1.length ≤ maxLen ∧ j.2.2.1.length ≤ maxLen) ∧ jW j.1) (xs := js) fun x hm => cty_jo (hx2 x hm)
    obtain ⟨ps', d1, d2, d3⟩ := flat_of2 (enc := plc) (p := fun p => p.1.length ≤ maxLen ∧ pW p) (xs := ps) fun x hm => cty_pln (hx3 x hm)
    have q0 : [c0] = [.sl true rs.length 19 rs.flatten] := e0
    have q1 : [c1] = [.sl true ofs.length 1 (flat fe ofs)] := e1
    have q2 : [c2] = [.sl true js.length 25 js.flatten] := e2
    have q3 : [c3] = [.sl true ps.length 3 ps.flatten] := e3
    have q4 : [c4] = [.v (.int .i64 k)] := e4
    have q5 : [c5] = [.f .f32 x] := e5
    have q6 : [c6] = [.f .f32 y] := e6
    simp only [List.cons.injEq, and_true] at q0 q1 q2 q3 q4 q5 q6
    subst q0 q1 q2 q3 q4 q5 q6
    refine ⟨(rs', ofs, js', ps', k, x, y), by rw [a2, b2, d2, ← a1, ← b1, ← d1]; rfl, ⟨?_, n1, ?_, fun j hj => (b3 j hj).1, ?_, fun p hp => (d3 p hp).1⟩, a3, w1, fun j hj => (b3 j hj).2, w5, w6, fun p hp => (d3 p hp).2⟩
    · show rs'.length ≤ maxLen
      omega
    · show js'.length ≤ maxLen
      omega
    · show ps'.length ≤ maxLen
      omega
end Go.VL
namespace Go.Proofs.Ytejgddephbaenaa
namespace B0
open Go.RowKit Go.WideShapes Go.ChangeShapes Go.ChangeAt
section
variable {H : Type} {enc : TypeId × Value → H} {P : Program}

theorem post_of_below {f : Func} {s : ChangeSpec} {apart fresh handsOn again : Bool} {W W' : World} {args : Array Value} {v : Value} {ds gs : List (DataW H)} {before pa pv : List MemPlace}
    (hW : DataW.Whole enc P f.params.toList s.vars apart W args.toList ds gs before)
    (hres : ∀ (b : Nat) (sp : Nat → Bool) (hd : Bool), DataW.TrodAll enc P W' b sp hd f.resultTypes.toList (v.resultList f.resultTypes.size) (s.fn H (ds ++ gs)).results [])
    (hargs : ∀ sp : Nat → Bool, (∀ p ∈ before, sp p.block = true) → DataW.TrodAll enc P W' 0 sp true f.params.toList args.toList (s.fn H (ds ++ gs)).args pa)
    (hvars : ∀ sp : Nat → Bool, (∀ p ∈ before, sp p.block = true) → DataW.TrodVars enc P W' sp s.vars (s.fn H (ds ++ gs)).vars pv)
    (hps : before = pa ++ pv) (hb : Below W.heap.size W W')
    (hok : ∀ (j : Nat) (t : TypeId) (r : Value), f.resultTypes[j]? = some t → (v.resultList f.resultTypes.size)[j]? = some r → Value.okWide P W' .any 0 t r) :
    s.post enc P f apart fresh handsOn again W args v W' := by
  have hlt : ∀ p ∈ before, p.block < W.heap.size := fun p hp => hW.lt p hp
  have hold : ∀ p ∈ before, (fun b => decide (b < W.heap.size)) p.block = true := fun p hp => by simpa using hlt p hp
  refine ⟨ds, gs, before, [], pa, pv, hW, hres _ _ _, hargs _ hold, hvars _ hold, World.keptBut_mono (fun p hp => ⟨hp, ?_⟩) (hb.frame (· ∈ before)), fun _ => ?_⟩
  · rw [hps, List.mem_append] at hp
    exact Or.inr hp
  · obtain ⟨_, _, _, _, _, hz, hn⟩ := hW
    refine ⟨hok, _, _, ([] ++ pa) ++ pv, ⟨[] ++ pa, pv, trodAll_append (hargs _ (fun _ _ => rfl)) (hres _ _ _), hvars _ (fun _ _ => rfl), rfl, ?_, ?_⟩, ?_⟩
    · intro b off hp
      have hin : MemPlace.cell b off ∈ before := by rw [hps]; simpa using hp
      rw [hb.frozen (hlt _ hin)]
      exact hz b off hin
    · intro ha
      have := hn ha
      rw [hps] at this
      simpa using this
    · intro p hp _
      rw [hps]
      simpa using hp

theorem trodAll_stays (hl : laidOutB P = true) {W W' : World} {sp' : Nat → Bool} : ∀ {ts : List TypeId} {vs : List Value} {ds : List (DataW H)} {ps : List MemPlace},
    (∀ t ∈ ts, P.readableRec t = true ∧ t < P.types.size) → DataW.TrodAll enc P W 0 (fun _ => true) true ts vs ds ps → (∀ p ∈ ps, W.sameAt W' p) → (∀ p ∈ ps, sp' p.block = true) →
    DataW.TrodAll enc P W' 0 sp' true ts vs ds ps
  | [], vs, ds, ps, _, h, _, _ => by
    obtain ⟨rfl, rfl, rfl⟩ := trodAll_nil h
    exact rfl
  | t :: ts, vs, ds, ps, ht, h, hsame, hsp => by
    obtain ⟨v, vs', d, ds', p, q, rfl, rfl, rfl, h0, h1⟩ := trodAll_cons h
    exact ⟨p, q, Go.WideElems.Trod_stays hl (ht t (by simp)).1 (ht t (by simp)).2 h0 (fun x hx => hsame x (by simp [hx])) (fun x hx => hsp x (by simp [hx])),
      trodAll_stays hl (fun u hu => ht u (by simp [hu])) h1 (fun x hx => hsame x (by simp [hx])) (fun x hx => hsp x (by simp [hx])), rfl⟩

/-- A law: whatever the arguments, the call returns true and turns nothing that was there. -/
theorem lift {C : Checked} {os : Os} {f : FuncId} {fn : Func} {s : ChangeSpec} {conds : List PathCond} {tb : TypeId}
    (own : ownKnob C.prog.godebug = none) (started : os.Started) (noInit : C.prog.inits.idxOf? f = none) (hfn : C.prog.funcs[f]? = some fn)
    (witness : ∃ (w : World) (tape : Tape) (i : Input), w.os = os ∧ (w.forCall tape i).Shaped C.prog ∧ i.vars = [] ∧ Input.okWide C.prog (w.forCall tape i) .any w.heap.size f i ∧
      s.pre6 enc C.prog fn conds false (w.forCall tape i).memory i.args ∧ ({} : Assume).holds C.prog (lone (Frame.enter C.prog f i.args .normal) [] (w.forCall tape i)))
    (hl : laidOutB C.prog = true) (hp : (fn.params.toList.all fun t => C.prog.readableRec t && decide (t < C.prog.types.size)) = true)
    (hv : s.vars = []) (hr : fn.resultTypes = #[tb]) (htb : C.prog.underlying tb = some .bool)
    (hs : ∀ ds : List (DataW H), ds.length = fn.params.toList.length → s.fn H ds = { results := [.lit (.bool true)], args := ds })
    (contract : ∀ (W : World) (base : Nat) (args : Array Value) (ds : List (DataW H)) (p : List MemPlace),
      (∀ (j : Nat) t v, fn.params[j]? = some t → args[j]? = some v → Value.okWide C.prog W .any base t v) →
      DataW.TrodAll enc C.prog W 0 (fun _ => true) true fn.params.toList args.toList ds p →
      Calls C.prog f args W fun e W' => e = .returned (.bool true) ∧ Below W.heap.size W W') :
    ReturnsInHanded {} C os f .any (s.pre6 enc C.prog fn conds false) (s.post enc C.prog fn false true false false) := by
  refine returnsInHanded_of_change own started noInit hfn witness ?_
  intro W base args ds gs before hval hW _ _
  have hW' := hW
  obtain ⟨p, q, hA, hV, rfl, hfz, hnd⟩ := hW
  rw [hv] at hV
  obtain ⟨rfl, rfl⟩ := trodVars_none hV
  have hlen : ∀ {ts : List TypeId} {vs : List Value} {ds : List (DataW H)} {ps : List MemPlace}, DataW.TrodAll enc C.prog W 0 (fun _ => true) true ts vs ds ps → ds.length = ts.length := by
    intro ts
    induction ts with
    | nil => intro vs ds ps h; obtain ⟨rfl, rfl, rfl⟩ := trodAll_nil h; rfl
    | cons t ts ih => intro vs ds ps h; obtain ⟨v, vs', d, ds', p, q, rfl, rfl, rfl, h0, h1⟩ := trodAll_cons h; simp [ih h1]
  have hsd : s.fn H (ds ++ []) = { results := [.lit (.bool true)], args := ds } := by rw [List.append_nil]; exact hs ds (hlen hA)
  have hp' : ∀ t ∈ fn.params.toList, C.prog.readableRec t = true ∧ t < C.prog.types.size := fun t ht => by simpa using List.all_eq_true.1 hp t ht
  refine (contract W base args ds p hval hA).mono fun e W' ⟨he, hb⟩ => ?_
  refine ⟨.bool true, he, post_of_below (pa := p) (pv := []) hW' ?_ ?_ ?_ rfl hb ?_⟩
  · intro b sp hd
    rw [hsd, hr]
    exact trodAll_mk1 ⟨1, by simp [DataW.trod, Value.cells, htb]⟩
  · intro sp hsp
    rw [hsd]
    exact trodAll_stays hl hp' hA (fun x hx => hb.same (hW'.lt x (by simp [hx]))) (fun x hx => hsp x (by simp [hx]))
  · intro sp hsp
    rw [hsd, hv]
    exact rfl
  · exact ok_one hr rfl (okWide_bool_mk htb true)
end
end B0
end Go.Proofs.Ytejgddephbaenaa
