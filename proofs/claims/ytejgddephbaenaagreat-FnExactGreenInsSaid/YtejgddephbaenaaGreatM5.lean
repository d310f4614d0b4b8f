/- Texts of one proof, put together: T11, T12, T13, T14, T15, T16, T17, T18, T19, T20, T21, T22. -/
import Derived.Test.YtejgddephbaenaaGreatM4
namespace Go.VL
open Go.RowKit
set_option maxRecDepth 20000
set_option maxHeartbeats 8000000
theorem flc_x (T : Fl) {i : Nat} (h : i < 4) : mkV true (sub (flc T) (i * 4) 4) = some (.agg (foc (T ⟨i, h⟩))) := by
  have e : sub (flc T) (i * 4) 4 = foc (T ⟨i, h⟩) := by simpa using flc_row T [] h
  rw [e]
  rfl
theorem foc_x (g : Fo) {i : Nat} (h : i < 4) : mkV false (sub (foc g) (i * 1) 1) = some (.c (.f .f32 (g ⟨i, h⟩))) := by
  have e : sub (foc g) (i * 1) 1 = [.f .f32 (g ⟨i, h⟩)] := by
    rw [Nat.mul_one]
    simpa using foc_sub g [] h
  rw [e]
  rfl
theorem jp_pt (j : Jn) {i : Nat} (h : i < 4) : mkV false (sub (jnc j) (18 + i * 1) 1) = some (.c (.f .f32 (j.2.2.2 ⟨i, h⟩))) := by
  match i, h with
  | 0, _ => rfl
  | 1, _ => rfl
  | 2, _ => rfl
  | 3, _ => rfl
theorem sum_ok {g : Fo} {rs : Nat} (e : sumL (l4 g) = some rs) (h : rs < 2139095040) (hlo : ¬ flt (sumL (l4 g)) 1065336439) (hhi : ¬ fgt (sumL (l4 g)) 1065361605) : fge (psm g 4) 1065336439 ∧ fle (psm g 4) 1065361605 := by
  rw [← sumL_row, e]
  rw [e] at hlo hhi
  exact ⟨not_flt h (by decide) (by decide) hlo, not_fgt h (by decide) (by decide) hhi⟩
theorem jnc_sc (j : Jn) : (jnc j).all sc = true := rfl
theorem cJnI (j : Jn) (hj : jW j) : PureC X 110 [.agg (jnc j)] (cB (decide (jnOk j))) := by
  refine PureC.of_body (drawD_ok X) (fun _ _ => Go.Proofs.Tryz.call110 _ _) Go.Proofs.Tryz.func110 rfl (n := 84) rfl ?_
  refine w_seq ?_
  refine w_reg rfl ?_
  refine v_box (m := 0) (H' := [_]) lay53 rfl rfl rfl ?_
  refine v_assign (c := .v (.bool false)) rfl ?_
  refine v_nil ?_
  refine q_n ?_
  refine w_seq ?_
  refine w_seq ?_
  refine w_reg rfl ?_
  refine v_fa_pt (off' := 0) lay53 rfl rfl rfl ?_
  refine v_load_pt (.c _) lay2 rfl rfl rfl rfl ?_
  refine v_callb (cArI _) rfl rfl (.cons vw_v .nil) (fun h1 => ?_) (fun h1 => ?_)
  rotate_left
  · refine v_not true rfl rfl ?_
    refine v_move rfl ?_
    refine v_guard_off rfl rfl rfl ?_
    refine v_guard_off rfl rfl rfl ?_
    refine v_guard_off rfl rfl rfl ?_
    refine v_guard_off rfl rfl rfl ?_
    refine v_pick_t (v := .v (.bool true)) rfl rfl ?_
    refine v_nil ?_
    refine q_n ?_
    refine w_t rfl ?_
    refine w_seq ?_
    refine w_reg rfl ?_
    refine v_assign (c := .v (.bool false)) rfl ?_
    refine v_nil ?_
    refine q_n ?_
    refine w_ret (q_r ?_)
    refine r_r rfl ?_
    exact a_b (by simp only [Bool.false_eq_true, false_iff]; exact fun ho => h1 ho.1)
  refine v_not false rfl rfl ?_
  refine v_move rfl ?_
  refine v_guard_on rfl rfl ?_
  refine v_fa_pt (off' := 1) lay53 rfl rfl rfl ?_
  refine v_guard_on rfl rfl ?_
  refine v_load_pt (.c _) lay2 rfl rfl rfl rfl ?_
  refine v_guard_on rfl rfl ?_
  refine v_callb (cArI _) rfl rfl (.cons vw_v .nil) (fun h2 => ?_) (fun h2 => ?_)
  rotate_left
  · refine v_guard_on rfl rfl ?_
    refine v_not true rfl rfl ?_
    refine v_pick_f rfl rfl ?_
    refine v_nil ?_
    refine q_n ?_
    refine w_t rfl ?_
    refine w_seq ?_
    refine w_reg rfl ?_
    refine v_assign (c := .v (.bool false)) rfl ?_
    refine v_nil ?_
    refine q_n ?_
    refine w_ret (q_r ?_)
    refine r_r rfl ?_
    exact a_b (by simp only [Bool.false_eq_true, false_iff]; exact fun ho => h2 ho.2.1)
  refine v_guard_on rfl rfl ?_
  refine v_not false rfl rfl ?_
  refine v_pick_f rfl rfl ?_
  refine v_nil ?_
  refine q_n ?_
  refine w_f rfl ?_
  refine w_skip ?_
  refine q_n ?_
  refine w_seq ?_
  refine w_seq ?_
  refine w_reg rfl ?_
  refine v_fa_pt (off' := 2) lay53 rfl rfl rfl ?_
  refine v_load_pt (.agg [_, _, _, _, _, _, _, _, _, _, _, _, _, _, _, _]) lay50 rfl rfl rfl rfl ?_
  refine v_move (c := .v (.int .i64 0)) rfl ?_
  refine v_nil ?_
  refine q_n ?_
  refine w_block ?_
  refine w_loop (fun k sl H => ∃ i : Nat, k = 4 - i ∧ i ≤ 4 ∧ (∀ a (ha : a < 4), a < i → rowOk j ⟨a, ha⟩) ∧ sl = sls [(1, .c (.pt 0 0)), (20, .agg (flc j.2.2.1)), (21, cI i)] ∧ H = [⟨jnc j, 53, true⟩]) ?_ ?_
  · refine ⟨_, _, _, ?_, 0, rfl, Nat.zero_le _, fun a ha h => by omega, rfl, rfl⟩
    exact turn [some 0] rfl rfl rfl ⟨⟨_, rfl, .stay (fun c hc => stays_fz (fz_sc (List.all_eq_true.1 (jnc_sc j) c hc)))⟩, trivial⟩ ⟨tr_pt rfl, tr_agg (.cons tr_f (.cons tr_f (.cons tr_f (.cons tr_f (.cons tr_f (.cons tr_f (.cons tr_f (.cons tr_f (.cons tr_f (.cons tr_f (.cons tr_f (.cons tr_f (.cons tr_f (.cons tr_f (.cons tr_f (.cons tr_f .nil)))))))))))))))), tr_v, trivial⟩
  rintro k sl H ⟨i, rfl, hi, hp, rfl, rfl⟩
  refine w_seq ?_
  refine w_reg rfl ?_
  refine v_lss lay3 rfl rfl (fun h3 => ?_) (fun h3 => ?_)
  rotate_left
  · have hall : ∀ i : Fin 4, rowOk j i := fun i => hp i.val i.isLt (by omega)
    refine v_nil ?_
    refine q_n ?_
    refine w_seq ?_
    refine w_f rfl ?_
    refine w_exit ?_
    refine q_e ?_
    refine q_e ?_
    refine q_hit ?_
    refine q_n ?_
    refine w_seq ?_
    refine w_reg rfl ?_
    refine v_assign (c := .v (.bool true)) rfl ?_
    refine v_nil ?_
    refine q_n ?_
    refine w_ret ?_
    refine r_r rfl ?_
    exact a_b (by simp only [true_iff]; exact ⟨h1, h2, hall⟩)
  have hi1 : i < 4 := by omega
  refine v_nil ?_
  refine q_n ?_
  refine w_seq ?_
  refine w_t rfl ?_
  refine w_skip ?_
  refine q_n ?_
  refine w_seq ?_
  refine w_block ?_
  refine w_seq ?_
  refine w_reg rfl ?_
  refine v_move rfl ?_
  refine v_index_e i (.agg (foc (j.2.2.1 ⟨i, hi1⟩))) lay50 lay48 rfl rfl rfl hi1 (by show i * 4 + 4 ≤ 16; omega) (flc_x _ hi1) ?_
  refine v_alloc (m := 1) (H' := [_, ⟨[.f _ _, .f _ _, .f _ _, .f _ _], 48, true⟩]) lay48 rfl rfl ?_
  refine v_assign rfl ?_
  refine v_store (H' := [_, ⟨[_, _, _, _], 48, true⟩]) lay48 rfl rfl rfl rfl rfl rfl ?_
  refine v_nil ?_
  refine q_n ?_
  refine w_seq ?_
  refine w_reg rfl ?_
  refine v_move rfl ?_
  refine v_fa_pt (off' := 0) lay53 rfl rfl rfl ?_
  refine v_load_pt (.c _) lay2 rfl rfl rfl rfl ?_
  refine v_lss lay2 rfl rfl (fun h4 => ?_) (fun h4 => ?_)
  · refine v_assign rfl ?_
    refine v_nil ?_
    refine q_n ?_
    refine w_seq ?_
    refine w_seq ?_
    refine w_reg rfl ?_
    refine v_load_pt (.agg [_, _, _, _]) lay48 rfl rfl rfl rfl ?_
    refine v_move (c := .v (.int .i64 0)) rfl ?_
    refine v_nil ?_
    refine q_n ?_
    refine w_block ?_
    refine w_loop (fun k sl H => ∃ (n : Nat) (acc : Bool), k = 4 - n ∧ n ≤ 4 ∧ (acc = true → (i : Int) < j.1) ∧ (acc = false → ¬ (i : Int) < j.1) ∧ (∀ b (hb : b < 4), b < n → cellOk j i b (j.2.2.1 ⟨i, hi1⟩ ⟨b, hb⟩)) ∧ sl = sls [(1, .c (.pt 0 0)), (20, .agg (flc j.2.2.1)), (21, cI i), (3, cI i), (4, .c (.pt 1 0)), (5, cB acc), (29, .agg (foc (j.2.2.1 ⟨i, hi1⟩))), (30, cI n)] ∧ H = [⟨jnc j, 53, true⟩, ⟨foc (j.2.2.1 ⟨i, hi1⟩), 48, true⟩]) ?_ ?_
    · refine ⟨_, _, _, ?_, 0, true, rfl, Nat.zero_le _, (fun _ => by omega), (fun h => by cases h), fun b hb h => by omega, rfl, rfl⟩
      exact turn [some 0, some 1] rfl rfl rfl ⟨⟨_, rfl, .stay (fun c hc => stays_fz (fz_sc (List.all_eq_true.1 (jnc_sc j) c hc)))⟩, ⟨_, rfl, .stay (fun c hc => stays_fz (fz_sc (List.all_eq_true.1 (foc_sc _) c hc)))⟩, trivial⟩ ⟨tr_pt rfl, tr_agg (.cons tr_f (.cons tr_f (.cons tr_f (.cons tr_f (.cons tr_f (.cons tr_f (.cons tr_f (.cons tr_f (.cons tr_f (.cons tr_f (.cons tr_f (.cons tr_f (.cons tr_f (.cons tr_f (.cons tr_f (.cons tr_f .nil)))))))))))))))), tr_v, tr_v, tr_pt rfl, tr_v, tr_agg (.cons tr_f (.cons tr_f (.cons tr_f (.cons tr_f .nil)))), tr_v, trivial⟩
    rintro k sl H ⟨n, acc, rfl, hn, hA, hB, hpn, rfl, rfl⟩
    rcases acc with _ | _
    · skip
      refine w_seq ?_
      refine w_reg rfl ?_
      refine v_lss lay3 rfl rfl (fun h5 => ?_) (fun h5 => ?_)
      rotate_left
      · have hBi := hB rfl
        obtain rfl : n = 4 := by omega
        have hrow : ∀ b : Fin 4, cellOk j i b.val (j.2.2.1 ⟨i, hi1⟩ b) := fun b => hpn b.val b.isLt b.isLt
        obtain ⟨rs, ers, hrs⟩ := psm_rung (g := (j.2.2.1 ⟨i, hi1⟩)) (fun k hk => hj.1 i hi1 k hk) (fun k hk => (hrow ⟨k, hk⟩).1)
        rw [← sumL_row] at ers
        refine v_nil ?_
        refine q_n ?_
        refine w_seq ?_
        refine w_f rfl ?_
        refine w_exit ?_
        refine q_e ?_
        refine q_e ?_
        refine q_hit ?_
        refine q_n ?_
        refine w_seq ?_
        refine w_reg rfl ?_
        refine v_slice_arr (k := 1) lay48 lay26 rfl rfl rfl rfl (by decide) (Nat.le_of_ble_eq_true rfl) ?_
        refine v_call (cSum (l4 (j.2.2.1 ⟨i, hi1⟩)) (Nat.le_of_ble_eq_true rfl) (Nat.le_of_ble_eq_true rfl)) rfl rfl rfl (.cons (vw_part (xs := l4 (j.2.2.1 ⟨i, hi1⟩)) fe_sc rfl rfl rfl (Nat.le_of_ble_eq_true rfl)) .nil) ?_
        refine v_assign rfl ?_
        refine v_nil ?_
        refine q_n ?_
        refine w_seq ?_
        refine w_reg rfl ?_
        refine v_move rfl ?_
        refine v_move rfl ?_
        refine v_guard_off rfl rfl rfl ?_
        refine v_guard_off rfl rfl rfl ?_
        refine v_guard_off rfl rfl rfl ?_
        refine v_guard_un rfl rfl ?_
        refine v_guard_un rfl rfl ?_
        refine v_guard_off rfl rfl rfl ?_
        refine v_guard_off rfl rfl rfl ?_
        refine v_guard_un rfl rfl ?_
        refine v_guard_un rfl rfl ?_
        refine v_guard_un rfl rfl ?_
        refine v_guard_un rfl rfl ?_
        refine v_guard_un rfl rfl ?_
        refine v_guard_un rfl rfl ?_
        refine v_guard_off rfl rfl rfl ?_
        refine v_pick_f (v := .v (.bool false)) rfl rfl ?_
        refine v_move rfl ?_
        refine v_guard_on rfl rfl ?_
        refine v_move rfl ?_
        refine v_guard_on rfl rfl ?_
        refine v_not true rfl rfl ?_
        refine v_guard_on rfl rfl ?_
        refine v_move rfl ?_
        refine v_guard_on rfl rfl ?_
        refine v_move rfl ?_
        refine v_guard_on rfl rfl ?_
        refine v_fa_pt (off' := 18) lay53 rfl rfl rfl ?_
        refine v_guard_on rfl rfl ?_
        refine v_idx_arr_e (k := 1) (i) lay51 lay26 rfl rfl rfl (rfl) (hi1) ?_
        refine v_guard_on rfl rfl ?_
        refine v_load_pt (.c (.f .f32 (j.2.2.2 ⟨i, hi1⟩))) lay26 rfl rfl (Nat.ble_eq_true_of_le (by show 18 + i * 1 + 1 ≤ 22; omega)) (jp_pt j hi1) ?_
        refine v_guard_on rfl rfl ?_
        refine v_callb (cNoI _ (hj.2 i hi1)) rfl rfl (.cons vw_f .nil) (fun h8 => ?_) (fun h8 => ?_)
        rotate_left
        · have hnl := h8
          refine v_guard_on rfl rfl ?_
          refine v_not true rfl rfl ?_
          refine v_guard_on rfl rfl ?_
          refine v_pick_t rfl rfl ?_
          refine v_pick_f rfl rfl ?_
          refine v_nil ?_
          refine q_n ?_
          refine w_t rfl ?_
          refine w_seq ?_
          refine w_reg rfl ?_
          refine v_assign (c := .v (.bool false)) rfl ?_
          refine v_nil ?_
          refine q_n ?_
          refine w_ret (q_br (q_r (q_r (q_br (q_r ?_)))))
          refine r_r rfl ?_
          exact a_b (by simp only [Bool.false_eq_true, false_iff]; exact jn_nil (hi := hi1) (by omega) hnl)
        have hnl := h8
        refine v_guard_on rfl rfl ?_
        refine v_not false rfl rfl ?_
        refine v_guard_on rfl rfl ?_
        refine v_pick_t rfl rfl ?_
        refine v_pick_f rfl rfl ?_
        refine v_nil ?_
        refine q_n ?_
        refine w_f rfl ?_
        refine w_skip ?_
        refine q_bn ?_
        refine q_n ?_
        refine w_reg rfl ?_
        refine v_add lay3 rfl rfl (i64r (by omega)) ?_
        refine v_move rfl ?_
        refine v_nil ?_
        refine q_n ?_
        refine ⟨_, _, _, ?_, ⟨i + 1, rfl, by omega, fun a ha h => ?_, rfl, rfl⟩, by omega⟩
        · exact turn [some 0] rfl rfl rfl ⟨⟨_, rfl, .stay (fun c hc => stays_fz (fz_sc (List.all_eq_true.1 (jnc_sc j) c hc)))⟩, trivial⟩ ⟨tr_pt rfl, tr_agg (.cons tr_f (.cons tr_f (.cons tr_f (.cons tr_f (.cons tr_f (.cons tr_f (.cons tr_f (.cons tr_f (.cons tr_f (.cons tr_f (.cons tr_f (.cons tr_f (.cons tr_f (.cons tr_f (.cons tr_f (.cons tr_f .nil)))))))))))))))), tr_v, trivial⟩
        · rcases Nat.lt_or_eq_of_le (Nat.le_of_lt_succ h) with h | rfl
          · exact hp a ha h
          · exact row_nil hrow (by omega) hnl
      have hn1 : n < 4 := by omega
      have hBi := hB rfl
      refine v_nil ?_
      refine q_n ?_
      refine w_seq ?_
      refine w_t rfl ?_
      refine w_skip ?_
      refine q_n ?_
      refine w_seq ?_
      refine w_block ?_
      refine w_seq ?_
      refine w_reg rfl ?_
      refine v_move rfl ?_
      refine v_index_e n (.c (.f .f32 (j.2.2.1 ⟨i, hi1⟩ ⟨n, hn1⟩))) lay48 lay26 rfl rfl rfl hn1 (by show n * 1 + 1 ≤ 4; omega) (foc_x _ hn1) ?_
      refine v_assign rfl ?_
      refine v_assign rfl ?_
      refine v_nil ?_
      refine q_n ?_
      refine w_seq ?_
      refine w_reg rfl ?_
      refine v_move rfl ?_
      refine v_callb (cShI _ (hj.1 i hi1 n hn1)) rfl rfl (.cons vw_f .nil) (fun h6 => ?_) (fun h6 => ?_)
      rotate_left
      · have hsh := h6
        refine v_not true rfl rfl ?_
        refine v_move rfl ?_
        refine v_guard_off rfl rfl rfl ?_
        refine v_guard_off rfl rfl rfl ?_
        refine v_guard_off rfl rfl rfl ?_
        refine v_guard_un rfl rfl ?_
        refine v_guard_un rfl rfl ?_
        refine v_guard_un rfl rfl ?_
        refine v_guard_un rfl rfl ?_
        refine v_guard_off rfl rfl rfl ?_
        refine v_guard_off rfl rfl rfl ?_
        refine v_guard_un rfl rfl ?_
        refine v_guard_un rfl rfl ?_
        refine v_guard_off rfl rfl rfl ?_
        refine v_pick_t (v := .v (.bool true)) rfl rfl ?_
        refine v_nil ?_
        refine q_n ?_
        refine w_t rfl ?_
        refine w_seq ?_
        refine w_reg rfl ?_
        refine v_assign (c := .v (.bool false)) rfl ?_
        refine v_nil ?_
        refine q_n ?_
        refine w_ret (q_br (q_r (q_r (q_br (q_r (q_br (q_r (q_r (q_br (q_r ?_))))))))))
        refine r_r rfl ?_
        exact a_b (by simp only [Bool.false_eq_true, false_iff]; exact jn_cell (n := n) (hi := hi1) (hn := hn1) fun hc => hsh hc.1)
      have hsh := h6
      refine v_not false rfl rfl ?_
      refine v_move rfl ?_
      refine v_guard_on rfl rfl ?_
      refine v_move rfl ?_
      refine v_guard_on rfl rfl ?_
      refine v_not true rfl rfl ?_
      refine v_guard_on rfl rfl ?_
      refine v_move rfl ?_
      refine v_guard_off rfl rfl rfl ?_
      refine v_guard_off rfl rfl rfl ?_
      refine v_guard_off rfl rfl rfl ?_
      refine v_guard_off rfl rfl rfl ?_
      refine v_guard_on rfl rfl ?_
      refine v_pick_t (v := .v (.bool true)) rfl rfl ?_
      refine v_guard_on rfl rfl ?_
      refine v_move rfl ?_
      refine v_guard_on rfl rfl ?_
      refine v_move rfl ?_
      refine v_guard_on rfl rfl ?_
      refine v_binb lay26 rfl rfl rfl (fun h7 => ?_) (fun h7 => ?_)
      · have hne : ¬ feq (j.2.2.1 ⟨i, hi1⟩ ⟨n, hn1⟩) := ne_t h7
        refine v_guard_on rfl rfl ?_
        refine v_pick_t rfl rfl ?_
        refine v_pick_f rfl rfl ?_
        refine v_nil ?_
        refine q_n ?_
        refine w_t rfl ?_
        refine w_seq ?_
        refine w_reg rfl ?_
        refine v_assign (c := .v (.bool false)) rfl ?_
        refine v_nil ?_
        refine q_n ?_
        refine w_ret (q_br (q_r (q_r (q_br (q_r (q_br (q_r (q_r (q_br (q_r ?_))))))))))
        refine r_r rfl ?_
        exact a_b (by simp only [Bool.false_eq_true, false_iff]; exact jn_cell (n := n) (hi := hi1) (hn := hn1) fun hc => hne (hc.2 (.inl (by omega))))
      have hne : feq (j.2.2.1 ⟨i, hi1⟩ ⟨n, hn1⟩) := ne_f h7
      refine v_guard_on rfl rfl ?_
      refine v_pick_t rfl rfl ?_
      refine v_pick_f rfl rfl ?_
      refine v_nil ?_
      refine q_n ?_
      refine w_f rfl ?_
      refine w_skip ?_
      refine q_bn ?_
      refine q_n ?_
      refine w_reg rfl ?_
      refine v_add lay3 rfl rfl (i64r (by omega)) ?_
      refine v_move rfl ?_
      refine v_nil ?_
      refine q_n ?_
      have hcell : cellOk j i n (j.2.2.1 ⟨i, hi1⟩ ⟨n, hn1⟩) := ⟨hsh, fun hor => by first | exact hne | (exfalso; omega)⟩
      refine ⟨_, _, _, ?_, ⟨n + 1, false, rfl, by omega, hA, hB, fun b hb h => ?_, rfl, rfl⟩, by omega⟩
      · exact turn [some 0, some 1] rfl rfl rfl ⟨⟨_, rfl, .stay (fun c hc => stays_fz (fz_sc (List.all_eq_true.1 (jnc_sc j) c hc)))⟩, ⟨_, rfl, .stay (fun c hc => stays_fz (fz_sc (List.all_eq_true.1 (foc_sc _) c hc)))⟩, trivial⟩ ⟨tr_pt rfl, tr_agg (.cons tr_f (.cons tr_f (.cons tr_f (.cons tr_f (.cons tr_f (.cons tr_f (.cons tr_f (.cons tr_f (.cons tr_f (.cons tr_f (.cons tr_f (.cons tr_f (.cons tr_f (.cons tr_f (.cons tr_f (.cons tr_f .nil)))))))))))))))), tr_v, tr_v, tr_pt rfl, tr_v, tr_agg (.cons tr_f (.cons tr_f (.cons tr_f (.cons tr_f .nil)))), tr_v, trivial⟩
      · rcases Nat.lt_or_eq_of_le (Nat.le_of_lt_succ h) with h | rfl
        · exact hpn b hb h
        · exact hcell
    · skip
      refine w_seq ?_
      refine w_reg rfl ?_
      refine v_lss lay3 rfl rfl (fun h9 => ?_) (fun h9 => ?_)
      · have hn1 : n < 4 := by omega
        have hAi := hA rfl
        refine v_nil ?_
        refine q_n ?_
        refine w_seq ?_
        refine w_t rfl ?_
        refine w_skip ?_
        refine q_n ?_
        refine w_seq ?_
        refine w_block ?_
        refine w_seq ?_
        refine w_reg rfl ?_
        refine v_move rfl ?_
        refine v_index_e n (.c (.f .f32 (j.2.2.1 ⟨i, hi1⟩ ⟨n, hn1⟩))) lay48 lay26 rfl rfl rfl hn1 (by show n * 1 + 1 ≤ 4; omega) (foc_x _ hn1) ?_
        refine v_assign rfl ?_
        refine v_assign rfl ?_
        refine v_nil ?_
        refine q_n ?_
        refine w_seq ?_
        refine w_reg rfl ?_
        refine v_move rfl ?_
        refine v_callb (cShI _ (hj.1 i hi1 n hn1)) rfl rfl (.cons vw_f .nil) (fun h10 => ?_) (fun h10 => ?_)
        rotate_left
        · have hsh := h10
          refine v_not true rfl rfl ?_
          refine v_move rfl ?_
          refine v_guard_off rfl rfl rfl ?_
          refine v_guard_off rfl rfl rfl ?_
          refine v_guard_off rfl rfl rfl ?_
          refine v_guard_un rfl rfl ?_
          refine v_guard_un rfl rfl ?_
          refine v_guard_un rfl rfl ?_
          refine v_guard_un rfl rfl ?_
          refine v_guard_off rfl rfl rfl ?_
          refine v_guard_off rfl rfl rfl ?_
          refine v_guard_un rfl rfl ?_
          refine v_guard_un rfl rfl ?_
          refine v_guard_off rfl rfl rfl ?_
          refine v_pick_t (v := .v (.bool true)) rfl rfl ?_
          refine v_nil ?_
          refine q_n ?_
          refine w_t rfl ?_
          refine w_seq ?_
          refine w_reg rfl ?_
          refine v_assign (c := .v (.bool false)) rfl ?_
          refine v_nil ?_
          refine q_n ?_
          refine w_ret (q_br (q_r (q_r (q_br (q_r (q_br (q_r (q_r (q_br (q_r ?_))))))))))
          refine r_r rfl ?_
          exact a_b (by simp only [Bool.false_eq_true, false_iff]; exact jn_cell (n := n) (hi := hi1) (hn := hn1) fun hc => hsh hc.1)
        have hsh := h10
        refine v_not false rfl rfl ?_
        refine v_move rfl ?_
        refine v_guard_on rfl rfl ?_
        refine v_move rfl ?_
        refine v_guard_on rfl rfl ?_
        refine v_not false rfl rfl ?_
        refine v_guard_on rfl rfl ?_
        refine v_move rfl ?_
        refine v_guard_on rfl rfl ?_
        refine v_move rfl ?_
        refine v_guard_on rfl rfl ?_
        refine v_fa_pt (off' := 1) lay53 rfl rfl rfl ?_
        refine v_guard_on rfl rfl ?_
        refine v_load_pt (.c _) lay2 rfl rfl rfl rfl ?_
        refine v_guard_on rfl rfl ?_
        refine v_geq lay2 rfl rfl (fun h11 => ?_) (fun h11 => ?_)
        rotate_left
        · have hge := h11
          refine v_guard_on rfl rfl ?_
          refine v_pick_f rfl rfl ?_
          refine v_guard_on rfl rfl ?_
          refine v_move rfl ?_
          refine v_guard_off rfl rfl rfl ?_
          refine v_guard_off rfl rfl rfl ?_
          refine v_guard_on rfl rfl ?_
          refine v_pick_f (v := .v (.bool false)) rfl rfl ?_
          refine v_pick_f rfl rfl ?_
          refine v_nil ?_
          refine q_n ?_
          refine w_f rfl ?_
          refine w_skip ?_
          refine q_bn ?_
          refine q_n ?_
          refine w_reg rfl ?_
          refine v_add lay3 rfl rfl (i64r (by omega)) ?_
          refine v_move rfl ?_
          refine v_nil ?_
          refine q_n ?_
          have hcell : cellOk j i n (j.2.2.1 ⟨i, hi1⟩ ⟨n, hn1⟩) := ⟨hsh, fun hor => by first | exact hne | (exfalso; omega)⟩
          refine ⟨_, _, _, ?_, ⟨n + 1, true, rfl, by omega, hA, hB, fun b hb h => ?_, rfl, rfl⟩, by omega⟩
          · exact turn [some 0, some 1] rfl rfl rfl ⟨⟨_, rfl, .stay (fun c hc => stays_fz (fz_sc (List.all_eq_true.1 (jnc_sc j) c hc)))⟩, ⟨_, rfl, .stay (fun c hc => stays_fz (fz_sc (List.all_eq_true.1 (foc_sc _) c hc)))⟩, trivial⟩ ⟨tr_pt rfl, tr_agg (.cons tr_f (.cons tr_f (.cons tr_f (.cons tr_f (.cons tr_f (.cons tr_f (.cons tr_f (.cons tr_f (.cons tr_f (.cons tr_f (.cons tr_f (.cons tr_f (.cons tr_f (.cons tr_f (.cons tr_f (.cons tr_f .nil)))))))))))))))), tr_v, tr_v, tr_pt rfl, tr_v, tr_agg (.cons tr_f (.cons tr_f (.cons tr_f (.cons tr_f .nil)))), tr_v, trivial⟩
          · rcases Nat.lt_or_eq_of_le (Nat.le_of_lt_succ h) with h | rfl
            · exact hpn b hb h
            · exact hcell
        have hge := h11
        refine v_guard_on rfl rfl ?_
        refine v_pick_f rfl rfl ?_
        refine v_guard_on rfl rfl ?_
        refine v_move rfl ?_
        refine v_guard_on rfl rfl ?_
        refine v_move rfl ?_
        refine v_guard_on rfl rfl ?_
        refine v_binb lay26 rfl rfl rfl (fun h12 => ?_) (fun h12 => ?_)
        · have hne : ¬ feq (j.2.2.1 ⟨i, hi1⟩ ⟨n, hn1⟩) := ne_t h12
          refine v_guard_on rfl rfl ?_
          refine v_pick_t rfl rfl ?_
          refine v_pick_f rfl rfl ?_
          refine v_nil ?_
          refine q_n ?_
          refine w_t rfl ?_
          refine w_seq ?_
          refine w_reg rfl ?_
          refine v_assign (c := .v (.bool false)) rfl ?_
          refine v_nil ?_
          refine q_n ?_
          refine w_ret (q_br (q_r (q_r (q_br (q_r (q_br (q_r (q_r (q_br (q_r ?_))))))))))
          refine r_r rfl ?_
          exact a_b (by simp only [Bool.false_eq_true, false_iff]; exact jn_cell (n := n) (hi := hi1) (hn := hn1) fun hc => hne (hc.2 (.inr (by omega))))
        have hne : feq (j.2.2.1 ⟨i, hi1⟩ ⟨n, hn1⟩) := ne_f h12
        refine v_guard_on rfl rfl ?_
        refine v_pick_t rfl rfl ?_
        refine v_pick_f rfl rfl ?_
        refine v_nil ?_
        refine q_n ?_
        refine w_f rfl ?_
        refine w_skip ?_
        refine q_bn ?_
        refine q_n ?_
        refine w_reg rfl ?_
        refine v_add lay3 rfl rfl (i64r (by omega)) ?_
        refine v_move rfl ?_
        refine v_nil ?_
        refine q_n ?_
        have hcell : cellOk j i n (j.2.2.1 ⟨i, hi1⟩ ⟨n, hn1⟩) := ⟨hsh, fun hor => by first | exact hne | (exfalso; omega)⟩
        refine ⟨_, _, _, ?_, ⟨n + 1, true, rfl, by omega, hA, hB, fun b hb h => ?_, rfl, rfl⟩, by omega⟩
        · exact turn [some 0, some 1] rfl rfl rfl ⟨⟨_, rfl, .stay (fun c hc => stays_fz (fz_sc (List.all_eq_true.1 (jnc_sc j) c hc)))⟩, ⟨_, rfl, .stay (fun c hc => stays_fz (fz_sc (List.all_eq_true.1 (foc_sc _) c hc)))⟩, trivial⟩ ⟨tr_pt rfl, tr_agg (.cons tr_f (.cons tr_f (.cons tr_f (.cons tr_f (.cons tr_f (.cons tr_f (.cons tr_f (.cons tr_f (.cons tr_f (.cons tr_f (.cons tr_f (.cons tr_f (.cons tr_f (.cons tr_f (.cons tr_f (.cons tr_f .nil)))))))))))))))), tr_v, tr_v, tr_pt rfl, tr_v, tr_agg (.cons tr_f (.cons tr_f (.cons tr_f (.cons tr_f .nil)))), tr_v, trivial⟩
        · rcases Nat.lt_or_eq_of_le (Nat.le_of_lt_succ h) with h | rfl
          · exact hpn b hb h
          · exact hcell
      have hAi := hA rfl
      obtain rfl : n = 4 := by omega
      have hrow : ∀ b : Fin 4, cellOk j i b.val (j.2.2.1 ⟨i, hi1⟩ b) := fun b => hpn b.val b.isLt b.isLt
      obtain ⟨rs, ers, hrs⟩ := psm_rung (g := (j.2.2.1 ⟨i, hi1⟩)) (fun k hk => hj.1 i hi1 k hk) (fun k hk => (hrow ⟨k, hk⟩).1)
      rw [← sumL_row] at ers
      refine v_nil ?_
      refine q_n ?_
      refine w_seq ?_
      refine w_f rfl ?_
      refine w_exit ?_
      refine q_e ?_
      refine q_e ?_
      refine q_hit ?_
      refine q_n ?_
      refine w_seq ?_
      refine w_reg rfl ?_
      refine v_slice_arr (k := 1) lay48 lay26 rfl rfl rfl rfl (by decide) (Nat.le_of_ble_eq_true rfl) ?_
      refine v_call (cSum (l4 (j.2.2.1 ⟨i, hi1⟩)) (Nat.le_of_ble_eq_true rfl) (Nat.le_of_ble_eq_true rfl)) rfl rfl rfl (.cons (vw_part (xs := l4 (j.2.2.1 ⟨i, hi1⟩)) fe_sc rfl rfl rfl (Nat.le_of_ble_eq_true rfl)) .nil) ?_
      refine v_assign rfl ?_
      refine v_nil ?_
      refine q_n ?_
      refine w_seq ?_
      refine w_reg rfl ?_
      refine v_move rfl ?_
      refine v_move rfl ?_
      refine v_guard_on rfl rfl ?_
      refine v_move rfl ?_
      refine v_guard_on rfl rfl ?_
      refine v_binb lay26 rfl rfl rfl (fun h13 => ?_) (fun h13 => ?_)
      · have hlo : flt (sumL (l4 (j.2.2.1 ⟨i, hi1⟩))) 1065336439 := h13
        refine v_guard_on rfl rfl ?_
        refine v_move rfl ?_
        refine v_guard_off rfl rfl rfl ?_
        refine v_guard_off rfl rfl rfl ?_
        refine v_guard_on rfl rfl ?_
        refine v_pick_t (v := .v (.bool true)) rfl rfl ?_
        refine v_guard_on rfl rfl ?_
        refine v_move rfl ?_
        refine v_guard_off rfl rfl rfl ?_
        refine v_guard_off rfl rfl rfl ?_
        refine v_guard_off rfl rfl rfl ?_
        refine v_guard_off rfl rfl rfl ?_
        refine v_guard_off rfl rfl rfl ?_
        refine v_guard_off rfl rfl rfl ?_
        refine v_guard_on rfl rfl ?_
        refine v_pick_t (v := .v (.bool true)) rfl rfl ?_
        refine v_pick_t rfl rfl ?_
        refine v_move rfl ?_
        refine v_guard_off rfl rfl rfl ?_
        refine v_guard_off rfl rfl rfl ?_
        refine v_guard_off rfl rfl rfl ?_
        refine v_guard_un rfl rfl ?_
        refine v_guard_un rfl rfl ?_
        refine v_guard_un rfl rfl ?_
        refine v_guard_un rfl rfl ?_
        refine v_guard_un rfl rfl ?_
        refine v_guard_un rfl rfl ?_
        refine v_guard_off rfl rfl rfl ?_
        refine v_pick_t (v := .v (.bool true)) rfl rfl ?_
        refine v_nil ?_
        refine q_n ?_
        refine w_t rfl ?_
        refine w_seq ?_
        refine w_reg rfl ?_
        refine v_assign (c := .v (.bool false)) rfl ?_
        refine v_nil ?_
        refine q_n ?_
        refine w_ret (q_br (q_r (q_r (q_br (q_r ?_)))))
        refine r_r rfl ?_
        exact a_b (by simp only [Bool.false_eq_true, false_iff]; exact jn_in (hi := hi1) (by omega) fun h => flt_not hlo h.1.1)
      have hlo : ¬ flt (sumL (l4 (j.2.2.1 ⟨i, hi1⟩))) 1065336439 := fun h => absurd (h13.symm.trans h) (by decide)
      refine v_guard_on rfl rfl ?_
      refine v_move rfl ?_
      refine v_guard_on rfl rfl ?_
      refine v_move rfl ?_
      refine v_guard_on rfl rfl ?_
      refine v_binb lay26 rfl rfl rfl (fun h14 => ?_) (fun h14 => ?_)
      · have hhi : fgt (sumL (l4 (j.2.2.1 ⟨i, hi1⟩))) 1065361605 := h14
        refine v_guard_on rfl rfl ?_
        refine v_pick_f rfl rfl ?_
        refine v_guard_on rfl rfl ?_
        refine v_move rfl ?_
        refine v_guard_off rfl rfl rfl ?_
        refine v_guard_off rfl rfl rfl ?_
        refine v_guard_off rfl rfl rfl ?_
        refine v_guard_off rfl rfl rfl ?_
        refine v_guard_off rfl rfl rfl ?_
        refine v_guard_off rfl rfl rfl ?_
        refine v_guard_on rfl rfl ?_
        refine v_pick_t (v := .v (.bool true)) rfl rfl ?_
        refine v_pick_t rfl rfl ?_
        refine v_move rfl ?_
        refine v_guard_off rfl rfl rfl ?_
        refine v_guard_off rfl rfl rfl ?_
        refine v_guard_off rfl rfl rfl ?_
        refine v_guard_un rfl rfl ?_
        refine v_guard_un rfl rfl ?_
        refine v_guard_un rfl rfl ?_
        refine v_guard_un rfl rfl ?_
        refine v_guard_un rfl rfl ?_
        refine v_guard_un rfl rfl ?_
        refine v_guard_off rfl rfl rfl ?_
        refine v_pick_t (v := .v (.bool true)) rfl rfl ?_
        refine v_nil ?_
        refine q_n ?_
        refine w_t rfl ?_
        refine w_seq ?_
        refine w_reg rfl ?_
        refine v_assign (c := .v (.bool false)) rfl ?_
        refine v_nil ?_
        refine q_n ?_
        refine w_ret (q_br (q_r (q_r (q_br (q_r ?_)))))
        refine r_r rfl ?_
        exact a_b (by simp only [Bool.false_eq_true, false_iff]; exact jn_in (hi := hi1) (by omega) fun h => fgt_not hhi h.1.2)
      have hhi : ¬ fgt (sumL (l4 (j.2.2.1 ⟨i, hi1⟩))) 1065361605 := fun h => absurd (h14.symm.trans h) (by decide)
      refine v_guard_on rfl rfl ?_
      refine v_pick_f rfl rfl ?_
      refine v_guard_on rfl rfl ?_
      refine v_move rfl ?_
      refine v_guard_on rfl rfl ?_
      refine v_move rfl ?_
      refine v_guard_on rfl rfl ?_
      refine v_fa_pt (off' := 18) lay53 rfl rfl rfl ?_
      refine v_guard_on rfl rfl ?_
      refine v_idx_arr_e (k := 1) (i) lay51 lay26 rfl rfl rfl (rfl) (hi1) ?_
      refine v_guard_on rfl rfl ?_
      refine v_load_pt (.c (.f .f32 (j.2.2.2 ⟨i, hi1⟩))) lay26 rfl rfl (Nat.ble_eq_true_of_le (by show 18 + i * 1 + 1 ≤ 22; omega)) (jp_pt j hi1) ?_
      refine v_guard_on rfl rfl ?_
      refine v_callb (cPrI _ (hj.2 i hi1)) rfl rfl (.cons vw_f .nil) (fun h15 => ?_) (fun h15 => ?_)
      rotate_left
      · have hpr := h15
        refine v_guard_on rfl rfl ?_
        refine v_not true rfl rfl ?_
        refine v_guard_on rfl rfl ?_
        refine v_pick_f rfl rfl ?_
        refine v_pick_t rfl rfl ?_
        refine v_move rfl ?_
        refine v_guard_off rfl rfl rfl ?_
        refine v_guard_off rfl rfl rfl ?_
        refine v_guard_off rfl rfl rfl ?_
        refine v_guard_un rfl rfl ?_
        refine v_guard_un rfl rfl ?_
        refine v_guard_un rfl rfl ?_
        refine v_guard_un rfl rfl ?_
        refine v_guard_un rfl rfl ?_
        refine v_guard_un rfl rfl ?_
        refine v_guard_off rfl rfl rfl ?_
        refine v_pick_t (v := .v (.bool true)) rfl rfl ?_
        refine v_nil ?_
        refine q_n ?_
        refine w_t rfl ?_
        refine w_seq ?_
        refine w_reg rfl ?_
        refine v_assign (c := .v (.bool false)) rfl ?_
        refine v_nil ?_
        refine q_n ?_
        refine w_ret (q_br (q_r (q_r (q_br (q_r ?_)))))
        refine r_r rfl ?_
        exact a_b (by simp only [Bool.false_eq_true, false_iff]; exact jn_in (hi := hi1) (by omega) fun h => hpr h.2)
      have hpr := h15
      refine v_guard_on rfl rfl ?_
      refine v_not false rfl rfl ?_
      refine v_guard_on rfl rfl ?_
      refine v_pick_f rfl rfl ?_
      refine v_pick_t rfl rfl ?_
      refine v_move rfl ?_
      refine v_guard_on rfl rfl ?_
      refine v_move rfl ?_
      refine v_guard_on rfl rfl ?_
      refine v_not false rfl rfl ?_
      refine v_guard_on rfl rfl ?_
      refine v_move rfl ?_
      refine v_guard_off rfl rfl rfl ?_
      refine v_guard_off rfl rfl rfl ?_
      refine v_guard_off rfl rfl rfl ?_
      refine v_guard_off rfl rfl rfl ?_
      refine v_guard_off rfl rfl rfl ?_
      refine v_guard_off rfl rfl rfl ?_
      refine v_guard_on rfl rfl ?_
      refine v_pick_f (v := .v (.bool false)) rfl rfl ?_
      refine v_pick_f rfl rfl ?_
      refine v_nil ?_
      refine q_n ?_
      refine w_f rfl ?_
      refine w_skip ?_
      refine q_bn ?_
      refine q_n ?_
      refine w_reg rfl ?_
      refine v_add lay3 rfl rfl (i64r (by omega)) ?_
      refine v_move rfl ?_
      refine v_nil ?_
      refine q_n ?_
      refine ⟨_, _, _, ?_, ⟨i + 1, rfl, by omega, fun a ha h => ?_, rfl, rfl⟩, by omega⟩
      · exact turn [some 0] rfl rfl rfl ⟨⟨_, rfl, .stay (fun c hc => stays_fz (fz_sc (List.all_eq_true.1 (jnc_sc j) c hc)))⟩, trivial⟩ ⟨tr_pt rfl, tr_agg (.cons tr_f (.cons tr_f (.cons tr_f (.cons tr_f (.cons tr_f (.cons tr_f (.cons tr_f (.cons tr_f (.cons tr_f (.cons tr_f (.cons tr_f (.cons tr_f (.cons tr_f (.cons tr_f (.cons tr_f (.cons tr_f .nil)))))))))))))))), tr_v, trivial⟩
      · rcases Nat.lt_or_eq_of_le (Nat.le_of_lt_succ h) with h | rfl
        · exact hp a ha h
        · exact row_in hrow (by omega) (sum_ok ers hrs hlo hhi) hpr
  refine v_assign rfl ?_
  refine v_nil ?_
  refine q_n ?_
  refine w_seq ?_
  refine w_seq ?_
  refine w_reg rfl ?_
  refine v_load_pt (.agg [_, _, _, _]) lay48 rfl rfl rfl rfl ?_
  refine v_move (c := .v (.int .i64 0)) rfl ?_
  refine v_nil ?_
  refine q_n ?_
  refine w_block ?_
  refine w_loop (fun k sl H => ∃ (n : Nat) (acc : Bool), k = 4 - n ∧ n ≤ 4 ∧ (acc = true → (i : Int) < j.1) ∧ (acc = false → ¬ (i : Int) < j.1) ∧ (∀ b (hb : b < 4), b < n → cellOk j i b (j.2.2.1 ⟨i, hi1⟩ ⟨b, hb⟩)) ∧ sl = sls [(1, .c (.pt 0 0)), (20, .agg (flc j.2.2.1)), (21, cI i), (3, cI i), (4, .c (.pt 1 0)), (5, cB acc), (29, .agg (foc (j.2.2.1 ⟨i, hi1⟩))), (30, cI n)] ∧ H = [⟨jnc j, 53, true⟩, ⟨foc (j.2.2.1 ⟨i, hi1⟩), 48, true⟩]) ?_ ?_
  · refine ⟨_, _, _, ?_, 0, false, rfl, Nat.zero_le _, (fun h => by cases h), (fun _ => by omega), fun b hb h => by omega, rfl, rfl⟩
    exact turn [some 0, some 1] rfl rfl rfl ⟨⟨_, rfl, .stay (fun c hc => stays_fz (fz_sc (List.all_eq_true.1 (jnc_sc j) c hc)))⟩, ⟨_, rfl, .stay (fun c hc => stays_fz (fz_sc (List.all_eq_true.1 (foc_sc _) c hc)))⟩, trivial⟩ ⟨tr_pt rfl, tr_agg (.cons tr_f (.cons tr_f (.cons tr_f (.cons tr_f (.cons tr_f (.cons tr_f (.cons tr_f (.cons tr_f (.cons tr_f (.cons tr_f (.cons tr_f (.cons tr_f (.cons tr_f (.cons tr_f (.cons tr_f (.cons tr_f .nil)))))))))))))))), tr_v, tr_v, tr_pt rfl, tr_v, tr_agg (.cons tr_f (.cons tr_f (.cons tr_f (.cons tr_f .nil)))), tr_v, trivial⟩
  rintro k sl H ⟨n, acc, rfl, hn, hA, hB, hpn, rfl, rfl⟩
  rcases acc with _ | _
  · skip
    refine w_seq ?_
    refine w_reg rfl ?_
    refine v_lss lay3 rfl rfl (fun h16 => ?_) (fun h16 => ?_)
    rotate_left
    · have hBi := hB rfl
      obtain rfl : n = 4 := by omega
      have hrow : ∀ b : Fin 4, cellOk j i b.val (j.2.2.1 ⟨i, hi1⟩ b) := fun b => hpn b.val b.isLt b.isLt
      obtain ⟨rs, ers, hrs⟩ := psm_rung (g := (j.2.2.1 ⟨i, hi1⟩)) (fun k hk => hj.1 i hi1 k hk) (fun k hk => (hrow ⟨k, hk⟩).1)
      rw [← sumL_row] at ers
      refine v_nil ?_
      refine q_n ?_
      refine w_seq ?_
      refine w_f rfl ?_
      refine w_exit ?_
      refine q_e ?_
      refine q_e ?_
      refine q_hit ?_
      refine q_n ?_
      refine w_seq ?_
      refine w_reg rfl ?_
      refine v_slice_arr (k := 1) lay48 lay26 rfl rfl rfl rfl (by decide) (Nat.le_of_ble_eq_true rfl) ?_
      refine v_call (cSum (l4 (j.2.2.1 ⟨i, hi1⟩)) (Nat.le_of_ble_eq_true rfl) (Nat.le_of_ble_eq_true rfl)) rfl rfl rfl (.cons (vw_part (xs := l4 (j.2.2.1 ⟨i, hi1⟩)) fe_sc rfl rfl rfl (Nat.le_of_ble_eq_true rfl)) .nil) ?_
      refine v_assign rfl ?_
      refine v_nil ?_
      refine q_n ?_
      refine w_seq ?_
      refine w_reg rfl ?_
      refine v_move rfl ?_
      refine v_move rfl ?_
      refine v_guard_off rfl rfl rfl ?_
      refine v_guard_off rfl rfl rfl ?_
      refine v_guard_off rfl rfl rfl ?_
      refine v_guard_un rfl rfl ?_
      refine v_guard_un rfl rfl ?_
      refine v_guard_off rfl rfl rfl ?_
      refine v_guard_off rfl rfl rfl ?_
      refine v_guard_un rfl rfl ?_
      refine v_guard_un rfl rfl ?_
      refine v_guard_un rfl rfl ?_
      refine v_guard_un rfl rfl ?_
      refine v_guard_un rfl rfl ?_
      refine v_guard_un rfl rfl ?_
      refine v_guard_off rfl rfl rfl ?_
      refine v_pick_f (v := .v (.bool false)) rfl rfl ?_
      refine v_move rfl ?_
      refine v_guard_on rfl rfl ?_
      refine v_move rfl ?_
      refine v_guard_on rfl rfl ?_
      refine v_not true rfl rfl ?_
      refine v_guard_on rfl rfl ?_
      refine v_move rfl ?_
      refine v_guard_on rfl rfl ?_
      refine v_move rfl ?_
      refine v_guard_on rfl rfl ?_
      refine v_fa_pt (off' := 18) lay53 rfl rfl rfl ?_
      refine v_guard_on rfl rfl ?_
      refine v_idx_arr_e (k := 1) (i) lay51 lay26 rfl rfl rfl (rfl) (hi1) ?_
      refine v_guard_on rfl rfl ?_
      refine v_load_pt (.c (.f .f32 (j.2.2.2 ⟨i, hi1⟩))) lay26 rfl rfl (Nat.ble_eq_true_of_le (by show 18 + i * 1 + 1 ≤ 22; omega)) (jp_pt j hi1) ?_
      refine v_guard_on rfl rfl ?_
      refine v_callb (cNoI _ (hj.2 i hi1)) rfl rfl (.cons vw_f .nil) (fun h19 => ?_) (fun h19 => ?_)
      rotate_left
      · have hnl := h19
        refine v_guard_on rfl rfl ?_
        refine v_not true rfl rfl ?_
        refine v_guard_on rfl rfl ?_
        refine v_pick_t rfl rfl ?_
        refine v_pick_f rfl rfl ?_
        refine v_nil ?_
        refine q_n ?_
        refine w_t rfl ?_
        refine w_seq ?_
        refine w_reg rfl ?_
        refine v_assign (c := .v (.bool false)) rfl ?_
        refine v_nil ?_
        refine q_n ?_
        refine w_ret (q_br (q_r (q_r (q_br (q_r ?_)))))
        refine r_r rfl ?_
        exact a_b (by simp only [Bool.false_eq_true, false_iff]; exact jn_nil (hi := hi1) (by omega) hnl)
      have hnl := h19
      refine v_guard_on rfl rfl ?_
      refine v_not false rfl rfl ?_
      refine v_guard_on rfl rfl ?_
      refine v_pick_t rfl rfl ?_
      refine v_pick_f rfl rfl ?_
      refine v_nil ?_
      refine q_n ?_
      refine w_f rfl ?_
      refine w_skip ?_
      refine q_bn ?_
      refine q_n ?_
      refine w_reg rfl ?_
      refine v_add lay3 rfl rfl (i64r (by omega)) ?_
      refine v_move rfl ?_
      refine v_nil ?_
      refine q_n ?_
      refine ⟨_, _, _, ?_, ⟨i + 1, rfl, by omega, fun a ha h => ?_, rfl, rfl⟩, by omega⟩
      · exact turn [some 0] rfl rfl rfl ⟨⟨_, rfl, .stay (fun c hc => stays_fz (fz_sc (List.all_eq_true.1 (jnc_sc j) c hc)))⟩, trivial⟩ ⟨tr_pt rfl, tr_agg (.cons tr_f (.cons tr_f (.cons tr_f (.cons tr_f (.cons tr_f (.cons tr_f (.cons tr_f (.cons tr_f (.cons tr_f (.cons tr_f (.cons tr_f (.cons tr_f (.cons tr_f (.cons tr_f (.cons tr_f (.cons tr_f .nil)))))))))))))))), tr_v, trivial⟩
      · rcases Nat.lt_or_eq_of_le (Nat.le_of_lt_succ h) with h | rfl
        · exact hp a ha h
        · exact row_nil hrow (by omega) hnl
    have hn1 : n < 4 := by omega
    have hBi := hB rfl
    refine v_nil ?_
    refine q_n ?_
    refine w_seq ?_
    refine w_t rfl ?_
    refine w_skip ?_
    refine q_n ?_
    refine w_seq ?_
    refine w_block ?_
    refine w_seq ?_
    refine w_reg rfl ?_
    refine v_move rfl ?_
    refine v_index_e n (.c (.f .f32 (j.2.2.1 ⟨i, hi1⟩ ⟨n, hn1⟩))) lay48 lay26 rfl rfl rfl hn1 (by show n * 1 + 1 ≤ 4; omega) (foc_x _ hn1) ?_
    refine v_assign rfl ?_
    refine v_assign rfl ?_
    refine v_nil ?_
    refine q_n ?_
    refine w_seq ?_
    refine w_reg rfl ?_
    refine v_move rfl ?_
    refine v_callb (cShI _ (hj.1 i hi1 n hn1)) rfl rfl (.cons vw_f .nil) (fun h17 => ?_) (fun h17 => ?_)
    rotate_left
    · have hsh := h17
      refine v_not true rfl rfl ?_
      refine v_move rfl ?_
      refine v_guard_off rfl rfl rfl ?_
      refine v_guard_off rfl rfl rfl ?_
      refine v_guard_off rfl rfl rfl ?_
      refine v_guard_un rfl rfl ?_
      refine v_guard_un rfl rfl ?_
      refine v_guard_un rfl rfl ?_
      refine v_guard_un rfl rfl ?_
      refine v_guard_off rfl rfl rfl ?_
      refine v_guard_off rfl rfl rfl ?_
      refine v_guard_un rfl rfl ?_
      refine v_guard_un rfl rfl ?_
      refine v_guard_off rfl rfl rfl ?_
      refine v_pick_t (v := .v (.bool true)) rfl rfl ?_
      refine v_nil ?_
      refine q_n ?_
      refine w_t rfl ?_
      refine w_seq ?_
      refine w_reg rfl ?_
      refine v_assign (c := .v (.bool false)) rfl ?_
      refine v_nil ?_
      refine q_n ?_
      refine w_ret (q_br (q_r (q_r (q_br (q_r (q_br (q_r (q_r (q_br (q_r ?_))))))))))
      refine r_r rfl ?_
      exact a_b (by simp only [Bool.false_eq_true, false_iff]; exact jn_cell (n := n) (hi := hi1) (hn := hn1) fun hc => hsh hc.1)
    have hsh := h17
    refine v_not false rfl rfl ?_
    refine v_move rfl ?_
    refine v_guard_on rfl rfl ?_
    refine v_move rfl ?_
    refine v_guard_on rfl rfl ?_
    refine v_not true rfl rfl ?_
    refine v_guard_on rfl rfl ?_
    refine v_move rfl ?_
    refine v_guard_off rfl rfl rfl ?_
    refine v_guard_off rfl rfl rfl ?_
    refine v_guard_off rfl rfl rfl ?_
    refine v_guard_off rfl rfl rfl ?_
    refine v_guard_on rfl rfl ?_
    refine v_pick_t (v := .v (.bool true)) rfl rfl ?_
    refine v_guard_on rfl rfl ?_
    refine v_move rfl ?_
    refine v_guard_on rfl rfl ?_
    refine v_move rfl ?_
    refine v_guard_on rfl rfl ?_
    refine v_binb lay26 rfl rfl rfl (fun h18 => ?_) (fun h18 => ?_)
    · have hne : ¬ feq (j.2.2.1 ⟨i, hi1⟩ ⟨n, hn1⟩) := ne_t h18
      refine v_guard_on rfl rfl ?_
      refine v_pick_t rfl rfl ?_
      refine v_pick_f rfl rfl ?_
      refine v_nil ?_
      refine q_n ?_
      refine w_t rfl ?_
      refine w_seq ?_
      refine w_reg rfl ?_
      refine v_assign (c := .v (.bool false)) rfl ?_
      refine v_nil ?_
      refine q_n ?_
      refine w_ret (q_br (q_r (q_r (q_br (q_r (q_br (q_r (q_r (q_br (q_r ?_))))))))))
      refine r_r rfl ?_
      exact a_b (by simp only [Bool.false_eq_true, false_iff]; exact jn_cell (n := n) (hi := hi1) (hn := hn1) fun hc => hne (hc.2 (.inl (by omega))))
    have hne : feq (j.2.2.1 ⟨i, hi1⟩ ⟨n, hn1⟩) := ne_f h18
    refine v_guard_on rfl rfl ?_
    refine v_pick_t rfl rfl ?_
    refine v_pick_f rfl rfl ?_
    refine v_nil ?_
    refine q_n ?_
    refine w_f rfl ?_
    refine w_skip ?_
    refine q_bn ?_
    refine q_n ?_
    refine w_reg rfl ?_
    refine v_add lay3 rfl rfl (i64r (by omega)) ?_
    refine v_move rfl ?_
    refine v_nil ?_
    refine q_n ?_
    have hcell : cellOk j i n (j.2.2.1 ⟨i, hi1⟩ ⟨n, hn1⟩) := ⟨hsh, fun hor => by first | exact hne | (exfalso; omega)⟩
    refine ⟨_, _, _, ?_, ⟨n + 1, false, rfl, by omega, hA, hB, fun b hb h => ?_, rfl, rfl⟩, by omega⟩
    · exact turn [some 0, some 1] rfl rfl rfl ⟨⟨_, rfl, .stay (fun c hc => stays_fz (fz_sc (List.all_eq_true.1 (jnc_sc j) c hc)))⟩, ⟨_, rfl, .stay (fun c hc => stays_fz (fz_sc (List.all_eq_true.1 (foc_sc _) c hc)))⟩, trivial⟩ ⟨tr_pt rfl, tr_agg (.cons tr_f (.cons tr_f (.cons tr_f (.cons tr_f (.cons tr_f (.cons tr_f (.cons tr_f (.cons tr_f (.cons tr_f (.cons tr_f (.cons tr_f (.cons tr_f (.cons tr_f (.cons tr_f (.cons tr_f (.cons tr_f .nil)))))))))))))))), tr_v, tr_v, tr_pt rfl, tr_v, tr_agg (.cons tr_f (.cons tr_f (.cons tr_f (.cons tr_f .nil)))), tr_v, trivial⟩
    · rcases Nat.lt_or_eq_of_le (Nat.le_of_lt_succ h) with h | rfl
      · exact hpn b hb h
      · exact hcell
  · skip
    refine w_seq ?_
    refine w_reg rfl ?_
    refine v_lss lay3 rfl rfl (fun h20 => ?_) (fun h20 => ?_)
    · have hn1 : n < 4 := by omega
      have hAi := hA rfl
      refine v_nil ?_
      refine q_n ?_
      refine w_seq ?_
      refine w_t rfl ?_
      refine w_skip ?_
      refine q_n ?_
      refine w_seq ?_
      refine w_block ?_
      refine w_seq ?_
      refine w_reg rfl ?_
      refine v_move rfl ?_
      refine v_index_e n (.c (.f .f32 (j.2.2.1 ⟨i, hi1⟩ ⟨n, hn1⟩))) lay48 lay26 rfl rfl rfl hn1 (by show n * 1 + 1 ≤ 4; omega) (foc_x _ hn1) ?_
      refine v_assign rfl ?_
      refine v_assign rfl ?_
      refine v_nil ?_
      refine q_n ?_
      refine w_seq ?_
      refine w_reg rfl ?_
      refine v_move rfl ?_
      refine v_callb (cShI _ (hj.1 i hi1 n hn1)) rfl rfl (.cons vw_f .nil) (fun h21 => ?_) (fun h21 => ?_)
      rotate_left
      · have hsh := h21
        refine v_not true rfl rfl ?_
        refine v_move rfl ?_
        refine v_guard_off rfl rfl rfl ?_
        refine v_guard_off rfl rfl rfl ?_
        refine v_guard_off rfl rfl rfl ?_
        refine v_guard_un rfl rfl ?_
        refine v_guard_un rfl rfl ?_
        refine v_guard_un rfl rfl ?_
        refine v_guard_un rfl rfl ?_
        refine v_guard_off rfl rfl rfl ?_
        refine v_guard_off rfl rfl rfl ?_
        refine v_guard_un rfl rfl ?_
        refine v_guard_un rfl rfl ?_
        refine v_guard_off rfl rfl rfl ?_
        refine v_pick_t (v := .v (.bool true)) rfl rfl ?_
        refine v_nil ?_
        refine q_n ?_
        refine w_t rfl ?_
        refine w_seq ?_
        refine w_reg rfl ?_
        refine v_assign (c := .v (.bool false)) rfl ?_
        refine v_nil ?_
        refine q_n ?_
        refine w_ret (q_br (q_r (q_r (q_br (q_r (q_br (q_r (q_r (q_br (q_r ?_))))))))))
        refine r_r rfl ?_
        exact a_b (by simp only [Bool.false_eq_true, false_iff]; exact jn_cell (n := n) (hi := hi1) (hn := hn1) fun hc => hsh hc.1)
      have hsh := h21
      refine v_not false rfl rfl ?_
      refine v_move rfl ?_
      refine v_guard_on rfl rfl ?_
      refine v_move rfl ?_
      refine v_guard_on rfl rfl ?_
      refine v_not false rfl rfl ?_
      refine v_guard_on rfl rfl ?_
      refine v_move rfl ?_
      refine v_guard_on rfl rfl ?_
      refine v_move rfl ?_
      refine v_guard_on rfl rfl ?_
      refine v_fa_pt (off' := 1) lay53 rfl rfl rfl ?_
      refine v_guard_on rfl rfl ?_
      refine v_load_pt (.c _) lay2 rfl rfl rfl rfl ?_
      refine v_guard_on rfl rfl ?_
      refine v_geq lay2 rfl rfl (fun h22 => ?_) (fun h22 => ?_)
      rotate_left
      · have hge := h22
        refine v_guard_on rfl rfl ?_
        refine v_pick_f rfl rfl ?_
        refine v_guard_on rfl rfl ?_
        refine v_move rfl ?_
        refine v_guard_off rfl rfl rfl ?_
        refine v_guard_off rfl rfl rfl ?_
        refine v_guard_on rfl rfl ?_
        refine v_pick_f (v := .v (.bool false)) rfl rfl ?_
        refine v_pick_f rfl rfl ?_
        refine v_nil ?_
        refine q_n ?_
        refine w_f rfl ?_
        refine w_skip ?_
        refine q_bn ?_
        refine q_n ?_
        refine w_reg rfl ?_
        refine v_add lay3 rfl rfl (i64r (by omega)) ?_
        refine v_move rfl ?_
        refine v_nil ?_
        refine q_n ?_
        have hcell : cellOk j i n (j.2.2.1 ⟨i, hi1⟩ ⟨n, hn1⟩) := ⟨hsh, fun hor => by first | exact hne | (exfalso; omega)⟩
        refine ⟨_, _, _, ?_, ⟨n + 1, true, rfl, by omega, hA, hB, fun b hb h => ?_, rfl, rfl⟩, by omega⟩
        · exact turn [some 0, some 1] rfl rfl rfl ⟨⟨_, rfl, .stay (fun c hc => stays_fz (fz_sc (List.all_eq_true.1 (jnc_sc j) c hc)))⟩, ⟨_, rfl, .stay (fun c hc => stays_fz (fz_sc (List.all_eq_true.1 (foc_sc _) c hc)))⟩, trivial⟩ ⟨tr_pt rfl, tr_agg (.cons tr_f (.cons tr_f (.cons tr_f (.cons tr_f (.cons tr_f (.cons tr_f (.cons tr_f (.cons tr_f (.cons tr_f (.cons tr_f (.cons tr_f (.cons tr_f (.cons tr_f (.cons tr_f (.cons tr_f (.cons tr_f .nil)))))))))))))))), tr_v, tr_v, tr_pt rfl, tr_v, tr_agg (.cons tr_f (.cons tr_f (.cons tr_f (.cons tr_f .nil)))), tr_v, trivial⟩
        · rcases Nat.lt_or_eq_of_le (Nat.le_of_lt_succ h) with h | rfl
          · exact hpn b hb h
          · exact hcell
      have hge := h22
      refine v_guard_on rfl rfl ?_
      refine v_pick_f rfl rfl ?_
      refine v_guard_on rfl rfl ?_
      refine v_move rfl ?_
      refine v_guard_on rfl rfl ?_
      refine v_move rfl ?_
      refine v_guard_on rfl rfl ?_
      refine v_binb lay26 rfl rfl rfl (fun h23 => ?_) (fun h23 => ?_)
      · have hne : ¬ feq (j.2.2.1 ⟨i, hi1⟩ ⟨n, hn1⟩) := ne_t h23
        refine v_guard_on rfl rfl ?_
        refine v_pick_t rfl rfl ?_
        refine v_pick_f rfl rfl ?_
        refine v_nil ?_
        refine q_n ?_
        refine w_t rfl ?_
        refine w_seq ?_
        refine w_reg rfl ?_
        refine v_assign (c := .v (.bool false)) rfl ?_
        refine v_nil ?_
        refine q_n ?_
        refine w_ret (q_br (q_r (q_r (q_br (q_r (q_br (q_r (q_r (q_br (q_r ?_))))))))))
        refine r_r rfl ?_
        exact a_b (by simp only [Bool.false_eq_true, false_iff]; exact jn_cell (n := n) (hi := hi1) (hn := hn1) fun hc => hne (hc.2 (.inr (by omega))))
      have hne : feq (j.2.2.1 ⟨i, hi1⟩ ⟨n, hn1⟩) := ne_f h23
      refine v_guard_on rfl rfl ?_
      refine v_pick_t rfl rfl ?_
      refine v_pick_f rfl rfl ?_
      refine v_nil ?_
      refine q_n ?_
      refine w_f rfl ?_
      refine w_skip ?_
      refine q_bn ?_
      refine q_n ?_
      refine w_reg rfl ?_
      refine v_add lay3 rfl rfl (i64r (by omega)) ?_
      refine v_move rfl ?_
      refine v_nil ?_
      refine q_n ?_
      have hcell : cellOk j i n (j.2.2.1 ⟨i, hi1⟩ ⟨n, hn1⟩) := ⟨hsh, fun hor => by first | exact hne | (exfalso; omega)⟩
      refine ⟨_, _, _, ?_, ⟨n + 1, true, rfl, by omega, hA, hB, fun b hb h => ?_, rfl, rfl⟩, by omega⟩
      · exact turn [some 0, some 1] rfl rfl rfl ⟨⟨_, rfl, .stay (fun c hc => stays_fz (fz_sc (List.all_eq_true.1 (jnc_sc j) c hc)))⟩, ⟨_, rfl, .stay (fun c hc => stays_fz (fz_sc (List.all_eq_true.1 (foc_sc _) c hc)))⟩, trivial⟩ ⟨tr_pt rfl, tr_agg (.cons tr_f (.cons tr_f (.cons tr_f (.cons tr_f (.cons tr_f (.cons tr_f (.cons tr_f (.cons tr_f (.cons tr_f (.cons tr_f (.cons tr_f (.cons tr_f (.cons tr_f (.cons tr_f (.cons tr_f (.cons tr_f .nil)))))))))))))))), tr_v, tr_v, tr_pt rfl, tr_v, tr_agg (.cons tr_f (.cons tr_f (.cons tr_f (.cons tr_f .nil)))), tr_v, trivial⟩
      · rcases Nat.lt_or_eq_of_le (Nat.le_of_lt_succ h) with h | rfl
        · exact hpn b hb h
        · exact hcell
    have hAi := hA rfl
    obtain rfl : n = 4 := by omega
    have hrow : ∀ b : Fin 4, cellOk j i b.val (j.2.2.1 ⟨i, hi1⟩ b) := fun b => hpn b.val b.isLt b.isLt
    obtain ⟨rs, ers, hrs⟩ := psm_rung (g := (j.2.2.1 ⟨i, hi1⟩)) (fun k hk => hj.1 i hi1 k hk) (fun k hk => (hrow ⟨k, hk⟩).1)
    rw [← sumL_row] at ers
    refine v_nil ?_
    refine q_n ?_
    refine w_seq ?_
    refine w_f rfl ?_
    refine w_exit ?_
    refine q_e ?_
    refine q_e ?_
    refine q_hit ?_
    refine q_n ?_
    refine w_seq ?_
    refine w_reg rfl ?_
    refine v_slice_arr (k := 1) lay48 lay26 rfl rfl rfl rfl (by decide) (Nat.le_of_ble_eq_true rfl) ?_
    refine v_call (cSum (l4 (j.2.2.1 ⟨i, hi1⟩)) (Nat.le_of_ble_eq_true rfl) (Nat.le_of_ble_eq_true rfl)) rfl rfl rfl (.cons (vw_part (xs := l4 (j.2.2.1 ⟨i, hi1⟩)) fe_sc rfl rfl rfl (Nat.le_of_ble_eq_true rfl)) .nil) ?_
    refine v_assign rfl ?_
    refine v_nil ?_
    refine q_n ?_
    refine w_seq ?_
    refine w_reg rfl ?_
    refine v_move rfl ?_
    refine v_move rfl ?_
    refine v_guard_on rfl rfl ?_
    refine v_move rfl ?_
    refine v_guard_on rfl rfl ?_
    refine v_binb lay26 rfl rfl rfl (fun h24 => ?_) (fun h24 => ?_)
    · have hlo : flt (sumL (l4 (j.2.2.1 ⟨i, hi1⟩))) 1065336439 := h24
      refine v_guard_on rfl rfl ?_
      refine v_move rfl ?_
      refine v_guard_off rfl rfl rfl ?_
      refine v_guard_off rfl rfl rfl ?_
      refine v_guard_on rfl rfl ?_
      refine v_pick_t (v := .v (.bool true)) rfl rfl ?_
      refine v_guard_on rfl rfl ?_
      refine v_move rfl ?_
      refine v_guard_off rfl rfl rfl ?_
      refine v_guard_off rfl rfl rfl ?_
      refine v_guard_off rfl rfl rfl ?_
      refine v_guard_off rfl rfl rfl ?_
      refine v_guard_off rfl rfl rfl ?_
      refine v_guard_off rfl rfl rfl ?_
      refine v_guard_on rfl rfl ?_
      refine v_pick_t (v := .v (.bool true)) rfl rfl ?_
      refine v_pick_t rfl rfl ?_
      refine v_move rfl ?_
      refine v_guard_off rfl rfl rfl ?_
      refine v_guard_off rfl rfl rfl ?_
      refine v_guard_off rfl rfl rfl ?_
      refine v_guard_un rfl rfl ?_
      refine v_guard_un rfl rfl ?_
      refine v_guard_un rfl rfl ?_
      refine v_guard_un rfl rfl ?_
      refine v_guard_un rfl rfl ?_
      refine v_guard_un rfl rfl ?_
      refine v_guard_off rfl rfl rfl ?_
      refine v_pick_t (v := .v (.bool true)) rfl rfl ?_
      refine v_nil ?_
      refine q_n ?_
      refine w_t rfl ?_
      refine w_seq ?_
      refine w_reg rfl ?_
      refine v_assign (c := .v (.bool false)) rfl ?_
      refine v_nil ?_
      refine q_n ?_
      refine w_ret (q_br (q_r (q_r (q_br (q_r ?_)))))
      refine r_r rfl ?_
      exact a_b (by simp only [Bool.false_eq_true, false_iff]; exact jn_in (hi := hi1) (by omega) fun h => flt_not hlo h.1.1)
    have hlo : ¬ flt (sumL (l4 (j.2.2.1 ⟨i, hi1⟩))) 1065336439 := fun h => absurd (h24.symm.trans h) (by decide)
    refine v_guard_on rfl rfl ?_
    refine v_move rfl ?_
    refine v_guard_on rfl rfl ?_
    refine v_move rfl ?_
    refine v_guard_on rfl rfl ?_
    refine v_binb lay26 rfl rfl rfl (fun h25 => ?_) (fun h25 => ?_)
    · have hhi : fgt (sumL (l4 (j.2.2.1 ⟨i, hi1⟩))) 1065361605 := h25
      refine v_guard_on rfl rfl ?_
      refine v_pick_f rfl rfl ?_
      refine v_guard_on rfl rfl ?_
      refine v_move rfl ?_
      refine v_guard_off rfl rfl rfl ?_
      refine v_guard_off rfl rfl rfl ?_
      refine v_guard_off rfl rfl rfl ?_
      refine v_guard_off rfl rfl rfl ?_
      refine v_guard_off rfl rfl rfl ?_
      refine v_guard_off rfl rfl rfl ?_
      refine v_guard_on rfl rfl ?_
      refine v_pick_t (v := .v (.bool true)) rfl rfl ?_
      refine v_pick_t rfl rfl ?_
      refine v_move rfl ?_
      refine v_guard_off rfl rfl rfl ?_
      refine v_guard_off rfl rfl rfl ?_
      refine v_guard_off rfl rfl rfl ?_
      refine v_guard_un rfl rfl ?_
      refine v_guard_un rfl rfl ?_
      refine v_guard_un rfl rfl ?_
      refine v_guard_un rfl rfl ?_
      refine v_guard_un rfl rfl ?_
      refine v_guard_un rfl rfl ?_
      refine v_guard_off rfl rfl rfl ?_
      refine v_pick_t (v := .v (.bool true)) rfl rfl ?_
      refine v_nil ?_
      refine q_n ?_
      refine w_t rfl ?_
      refine w_seq ?_
      refine w_reg rfl ?_
      refine v_assign (c := .v (.bool false)) rfl ?_
      refine v_nil ?_
      refine q_n ?_
      refine w_ret (q_br (q_r (q_r (q_br (q_r ?_)))))
      refine r_r rfl ?_
      exact a_b (by simp only [Bool.false_eq_true, false_iff]; exact jn_in (hi := hi1) (by omega) fun h => fgt_not hhi h.1.2)
    have hhi : ¬ fgt (sumL (l4 (j.2.2.1 ⟨i, hi1⟩))) 1065361605 := fun h => absurd (h25.symm.trans h) (by decide)
    refine v_guard_on rfl rfl ?_
    refine v_pick_f rfl rfl ?_
    refine v_guard_on rfl rfl ?_
    refine v_move rfl ?_
    refine v_guard_on rfl rfl ?_
    refine v_move rfl ?_
    refine v_guard_on rfl rfl ?_
    refine v_fa_pt (off' := 18) lay53 rfl rfl rfl ?_
    refine v_guard_on rfl rfl ?_
    refine v_idx_arr_e (k := 1) (i) lay51 lay26 rfl rfl rfl (rfl) (hi1) ?_
    refine v_guard_on rfl rfl ?_
    refine v_load_pt (.c (.f .f32 (j.2.2.2 ⟨i, hi1⟩))) lay26 rfl rfl (Nat.ble_eq_true_of_le (by show 18 + i * 1 + 1 ≤ 22; omega)) (jp_pt j hi1) ?_
    refine v_guard_on rfl rfl ?_
    refine v_callb (cPrI _ (hj.2 i hi1)) rfl rfl (.cons vw_f .nil) (fun h26 => ?_) (fun h26 => ?_)
    rotate_left
    · have hpr := h26
      refine v_guard_on rfl rfl ?_
      refine v_not true rfl rfl ?_
      refine v_guard_on rfl rfl ?_
      refine v_pick_f rfl rfl ?_
      refine v_pick_t rfl rfl ?_
      refine v_move rfl ?_
      refine v_guard_off rfl rfl rfl ?_
      refine v_guard_off rfl rfl rfl ?_
      refine v_guard_off rfl rfl rfl ?_
      refine v_guard_un rfl rfl ?_
      refine v_guard_un rfl rfl ?_
      refine v_guard_un rfl rfl ?_
      refine v_guard_un rfl rfl ?_
      refine v_guard_un rfl rfl ?_
      refine v_guard_un rfl rfl ?_
      refine v_guard_off rfl rfl rfl ?_
      refine v_pick_t (v := .v (.bool true)) rfl rfl ?_
      refine v_nil ?_
      refine q_n ?_
      refine w_t rfl ?_
      refine w_seq ?_
      refine w_reg rfl ?_
      refine v_assign (c := .v (.bool false)) rfl ?_
      refine v_nil ?_
      refine q_n ?_
      refine w_ret (q_br (q_r (q_r (q_br (q_r ?_)))))
      refine r_r rfl ?_
      exact a_b (by simp only [Bool.false_eq_true, false_iff]; exact jn_in (hi := hi1) (by omega) fun h => hpr h.2)
    have hpr := h26
    refine v_guard_on rfl rfl ?_
    refine v_not false rfl rfl ?_
    refine v_guard_on rfl rfl ?_
    refine v_pick_f rfl rfl ?_
    refine v_pick_t rfl rfl ?_
    refine v_move rfl ?_
    refine v_guard_on rfl rfl ?_
    refine v_move rfl ?_
    refine v_guard_on rfl rfl ?_
    refine v_not false rfl rfl ?_
    refine v_guard_on rfl rfl ?_
    refine v_move rfl ?_
    refine v_guard_off rfl rfl rfl ?_
    refine v_guard_off rfl rfl rfl ?_
    refine v_guard_off rfl rfl rfl ?_
    refine v_guard_off rfl rfl rfl ?_
    refine v_guard_off rfl rfl rfl ?_
    refine v_guard_off rfl rfl rfl ?_
    refine v_guard_on rfl rfl ?_
    refine v_pick_f (v := .v (.bool false)) rfl rfl ?_
    refine v_pick_f rfl rfl ?_
    refine v_nil ?_
    refine q_n ?_
    refine w_f rfl ?_
    refine w_skip ?_
    refine q_bn ?_
    refine q_n ?_
    refine w_reg rfl ?_
    refine v_add lay3 rfl rfl (i64r (by omega)) ?_
    refine v_move rfl ?_
    refine v_nil ?_
    refine q_n ?_
    refine ⟨_, _, _, ?_, ⟨i + 1, rfl, by omega, fun a ha h => ?_, rfl, rfl⟩, by omega⟩
    · exact turn [some 0] rfl rfl rfl ⟨⟨_, rfl, .stay (fun c hc => stays_fz (fz_sc (List.all_eq_true.1 (jnc_sc j) c hc)))⟩, trivial⟩ ⟨tr_pt rfl, tr_agg (.cons tr_f (.cons tr_f (.cons tr_f (.cons tr_f (.cons tr_f (.cons tr_f (.cons tr_f (.cons tr_f (.cons tr_f (.cons tr_f (.cons tr_f (.cons tr_f (.cons tr_f (.cons tr_f (.cons tr_f (.cons tr_f .nil)))))))))))))))), tr_v, trivial⟩
    · rcases Nat.lt_or_eq_of_le (Nat.le_of_lt_succ h) with h | rfl
      · exact hp a ha h
      · exact row_in hrow (by omega) (sum_ok ers hrs hlo hhi) hpr
end Go.VL
namespace Go.VL
open Go.RowKit
set_option maxRecDepth 20000
set_option maxHeartbeats 8000000
/-- Marks of roads that are used, each once. -/
def usd : List Int → List Bool → Bool × List Bool
  | [], u => (true, u)
  | a :: r, u => if (0 ≤ a ∧ a ≤ (u.length : Int) - 1) ∧ u.getD a.toNat true = false then usd r (u.set a.toNat true) else (false, u)
theorem usd_at {xs : List Int} {v : List Bool} {i : Nat} (h : i < xs.length) : usd (xs.drop i) v = if (0 ≤ xs[i] ∧ xs[i] ≤ (v.length : Int) - 1) ∧ v.getD xs[i].toNat true = false then usd (xs.drop (i + 1)) (v.set xs[i].toNat true) else (false, v) := by
  rw [List.drop_eq_getElem_cons h, usd]
theorem usd_go {xs : List Int} {v : List Bool} {i : Nat} (h : i < xs.length) (h0 : 0 ≤ xs[i]) (hl : xs[i].toNat < v.length) (hb : v[xs[i].toNat] = false) : usd (xs.drop i) v = usd (xs.drop (i + 1)) (v.set xs[i].toNat true) := by
  rw [usd_at h, if_pos ⟨⟨h0, by omega⟩, by rw [List.getD_eq_getElem?_getD, List.getElem?_eq_getElem hl]; exact hb⟩]
theorem usd_n1 {xs : List Int} {v : List Bool} {i : Nat} (h : i < xs.length) (h0 : ¬ (0 ≤ xs[i] ∧ xs[i] ≤ (v.length : Int) - 1)) : usd (xs.drop i) v = (false, v) := by
  rw [usd_at h, if_neg fun hc => h0 hc.1]
theorem usd_n2 {xs : List Int} {v : List Bool} {i : Nat} (h : i < xs.length) (hl : xs[i].toNat < v.length) (hb : v[xs[i].toNat] = true) : usd (xs.drop i) v = (false, v) := by
  rw [usd_at h, if_neg fun hc => ?_]
  have := hc.2
  rw [List.getD_eq_getElem?_getD, List.getElem?_eq_getElem hl] at this
  rw [show v[xs[i].toNat] = false from this] at hb
  cases hb
theorem usd_len : ∀ {xs : List Int} {u : List Bool}, (usd xs u).2.length = u.length
  | [], u => rfl
  | a :: r, u => by
    unfold usd
    split
    · rw [usd_len, List.length_set]
    · rfl
theorem cUsd0 (xs : List Int) (u w : List Bool) (hx : xs.length ≤ 2 ^ 40) (hu : u.length ≤ 2 ^ 40) : DetC X 165 [.c (ints false xs), .c (.mu 0 0 u.length 1)] [⟨flat bo u, 4, true⟩, ⟨flat bo w, 4, true⟩] (cB (usd xs u).1) [⟨flat bo (usd xs u).2, 4, true⟩, ⟨flat bo w, 4, true⟩] := by
  refine GraphC.of_body (drawD_ok X) (fun _ _ => Go.Proofs.Tryz.call165 _ _) Go.Proofs.Tryz.func165 rfl (n := 36) rfl rfl ?_
  refine w_seq ?_
  refine w_reg rfl ?_
  refine v_assign (c := .v (.bool false)) rfl ?_
  refine v_nil ?_
  refine q_n ?_
  refine w_seq ?_
  refine w_seq ?_
  refine w_reg rfl ?_
  refine v_assign (c := .v (.int .i64 0)) rfl ?_
  refine v_nil ?_
  refine q_n ?_
  refine w_block ?_
  refine w_loop (fun k sl H => ∃ (i : Nat) (v : List Bool), k = xs.length - i ∧ i ≤ xs.length ∧ usd (xs.drop i) v = usd xs u ∧ v.length = u.length ∧ sl = sls [(0, .c (ints false xs)), (1, .c (.mu 0 0 u.length 1)), (5, cI i)] ∧ H = [⟨flat bo v, 4, true⟩, ⟨flat bo w, 4, true⟩]) ?_ ?_
  · refine ⟨_, _, _, ?_, 0, u, rfl, Nat.zero_le _, rfl, rfl, rfl, rfl⟩
    exact turn [some 0, some 1] rfl rfl rfl ⟨⟨_, rfl, trc_flat bo_sc rfl⟩, ⟨_, rfl, trc_flat bo_sc rfl⟩, trivial⟩ ⟨tr_sl, tr_mu rfl, tr_v, trivial⟩
  rintro k sl H ⟨i, v, rfl, hi, hp, hvl, rfl, rfl⟩
  refine w_seq ?_
  refine w_seq ?_
  refine w_reg rfl ?_
  refine v_move rfl ?_
  refine v_move rfl ?_
  refine v_len_sl lay54 rfl ?_
  refine v_lss lay3 rfl rfl (fun h1 => ?_) (fun h1 => ?_)
  rotate_left
  · refine v_nil ?_
    refine q_n ?_
    refine w_f rfl ?_
    refine w_exit ?_
    refine q_e ?_
    refine q_e ?_
    refine q_hit ?_
    refine q_n ?_
    refine w_seq ?_
    refine w_reg rfl ?_
    refine v_assign (c := .v (.bool true)) rfl ?_
    refine v_nil ?_
    refine q_n ?_
    refine w_ret ?_
    refine r_r rfl ?_
    have he : usd xs u = (true, v) := by
      rw [← hp]
      obtain rfl : i = xs.length := by omega
      rw [List.drop_length]
      rfl
    rw [he]
    exact g_ans (H1 := [⟨flat bo v, 4, true⟩, ⟨flat bo w, 4, true⟩]) [some 0, some 1] rfl rfl rfl ⟨(fun _ => ⟨_, rfl, trc_flat bo_sc rfl⟩), (fun _ => ⟨_, rfl, trc_flat bo_sc rfl⟩), trivial⟩ tr_v ⟨rfl, rfl⟩
  have hi1 : i < xs.length := by omega
  refine v_nil ?_
  refine q_n ?_
  refine w_t rfl ?_
  refine w_skip ?_
  refine q_n ?_
  refine w_seq ?_
  refine w_block ?_
  refine w_seq ?_
  refine w_seq ?_
  refine w_reg rfl ?_
  refine v_move rfl ?_
  refine v_move rfl ?_
  refine v_idx_e (k := 1) (i) int_len lay54 lay2 rfl rfl rfl (rfl) rfl (rfl) (hi1) ?_
  refine v_load_vw (.c (.v _)) lay2 rfl rfl rfl ?_
  refine v_move rfl ?_
  refine v_len_mu lay147 rfl ?_
  refine v_sub lay2 rfl rfl (i64r (by omega)) ?_
  refine v_callb (cIn _ _ _) rfl rfl (.cons vw_v (.cons vw_v (.cons vw_v .nil))) (fun h3 => ?_) (fun h3 => ?_)
  rotate_left
  · have hnr := h3
    refine v_not true rfl rfl ?_
    refine v_move rfl ?_
    refine v_guard_off rfl rfl rfl ?_
    refine v_guard_off rfl rfl rfl ?_
    refine v_guard_off rfl rfl rfl ?_
    refine v_guard_off rfl rfl rfl ?_
    refine v_guard_off rfl rfl rfl ?_
    refine v_guard_off rfl rfl rfl ?_
    refine v_guard_off rfl rfl rfl ?_
    refine v_pick_t (v := .v (.bool true)) rfl rfl ?_
    refine v_nil ?_
    refine q_n ?_
    refine w_t rfl ?_
    refine w_seq ?_
    refine w_reg rfl ?_
    refine v_assign (c := .v (.bool false)) rfl ?_
    refine v_nil ?_
    refine q_n ?_
    refine w_ret (q_r (q_br (q_r (q_r (q_br (q_r ?_))))))
    refine r_r rfl ?_
    have he : usd xs u = (false, v) := by
      rw [← hp]
      exact usd_n1 hi1 (by omega)
    rw [he]
    exact g_ans (H1 := [⟨flat bo v, 4, true⟩, ⟨flat bo w, 4, true⟩]) [some 0, some 1] rfl rfl rfl ⟨(fun _ => ⟨_, rfl, trc_flat bo_sc rfl⟩), (fun _ => ⟨_, rfl, trc_flat bo_sc rfl⟩), trivial⟩ tr_v ⟨rfl, rfl⟩
  have hlt : xs[i].toNat < u.length := by omega
  have het : xs[i] = (xs[i].toNat : Int) := by omega
  have hlv : xs[i].toNat < v.length := by omega
  refine v_not false rfl rfl ?_
  refine v_move rfl ?_
  refine v_guard_on rfl rfl ?_
  refine v_move rfl ?_
  refine v_guard_on rfl rfl ?_
  refine v_move rfl ?_
  refine v_guard_on rfl rfl ?_
  refine v_move rfl ?_
  refine v_guard_on rfl rfl ?_
  refine v_idx_e (k := 1) (i) int_len lay54 lay2 rfl rfl rfl (rfl) rfl (rfl) (hi1) ?_
  refine v_guard_on rfl rfl ?_
  refine v_load_vw (.c (.v _)) lay2 rfl rfl rfl ?_
  refine v_guard_on rfl rfl ?_
  refine v_idx_mu_e (k := 1) (off := 0) (xs[i].toNat) lay147 lay4 rfl rfl rfl (het) (hlt) ?_
  refine v_guard_on rfl rfl ?_
  refine v_load_flatb (enc := bo) (ys := v) xs[i].toNat 0 bo_len lay4 rfl rfl (by omega) hlv (by decide) rfl (fun h6 => ?_) (fun h6 => ?_)
  · have hbt := h6
    refine v_pick_f rfl rfl ?_
    refine v_nil ?_
    refine q_n ?_
    refine w_t rfl ?_
    refine w_seq ?_
    refine w_reg rfl ?_
    refine v_assign (c := .v (.bool false)) rfl ?_
    refine v_nil ?_
    refine q_n ?_
    refine w_ret (q_r (q_br (q_r (q_r (q_br (q_r ?_))))))
    refine r_r rfl ?_
    have he : usd xs u = (false, v) := by
      rw [← hp]
      exact usd_n2 hi1 hlv hbt
    rw [he]
    exact g_ans (H1 := [⟨flat bo v, 4, true⟩, ⟨flat bo w, 4, true⟩]) [some 0, some 1] rfl rfl rfl ⟨(fun _ => ⟨_, rfl, trc_flat bo_sc rfl⟩), (fun _ => ⟨_, rfl, trc_flat bo_sc rfl⟩), trivial⟩ tr_v ⟨rfl, rfl⟩
  have hbf := h6
  refine v_pick_f rfl rfl ?_
  refine v_nil ?_
  refine q_n ?_
  refine w_f rfl ?_
  refine w_skip ?_
  refine q_n ?_
  refine w_reg rfl ?_
  refine v_move rfl ?_
  refine v_move rfl ?_
  refine v_move rfl ?_
  refine v_idx_e (k := 1) (i) int_len lay54 lay2 rfl rfl rfl (rfl) rfl (rfl) (hi1) ?_
  refine v_load_vw (.c (.v _)) lay2 rfl rfl rfl ?_
  refine v_idx_mu_e (k := 1) (off := 0) (xs[i].toNat) lay147 lay4 rfl rfl rfl (het) (hlt) ?_
  refine v_store_flat (H' := [_, _]) xs[i].toNat 0 (true) bo_len lay4 rfl rfl rfl (by omega) (hlv) rfl rfl (rfl) rfl ?_
  refine v_nil ?_
  refine q_bn ?_
  refine q_n ?_
  refine w_reg rfl ?_
  refine v_move rfl ?_
  refine v_add lay3 rfl rfl (i64r (by omega)) ?_
  refine v_assign rfl ?_
  refine v_nil ?_
  refine q_n ?_
  rw [usd_go hi1 (by omega) hlv hbf] at hp
  refine ⟨_, _, _, ?_, ⟨i + 1, v.set xs[i].toNat true, rfl, by omega, hp, by rw [List.length_set]; exact hvl, rfl, rfl⟩, by omega⟩
  exact turn [some 0, some 1] rfl rfl rfl ⟨⟨_, rfl, trc_flat bo_sc rfl⟩, ⟨_, rfl, trc_flat bo_sc rfl⟩, trivial⟩ ⟨tr_sl, tr_mu rfl, tr_v, trivial⟩
theorem cUsd1 (xs : List Int) (u w : List Bool) (hx : xs.length ≤ 2 ^ 40) (hu : u.length ≤ 2 ^ 40) : DetC X 165 [.c (ints false xs), .c (.mu 1 0 u.length 1)] [⟨flat bo w, 4, true⟩, ⟨flat bo u, 4, true⟩] (cB (usd xs u).1) [⟨flat bo w, 4, true⟩, ⟨flat bo (usd xs u).2, 4, true⟩] := by
  refine GraphC.of_body (drawD_ok X) (fun _ _ => Go.Proofs.Tryz.call165 _ _) Go.Proofs.Tryz.func165 rfl (n := 36) rfl rfl ?_
  refine w_seq ?_
  refine w_reg rfl ?_
  refine v_assign (c := .v (.bool false)) rfl ?_
  refine v_nil ?_
  refine q_n ?_
  refine w_seq ?_
  refine w_seq ?_
  refine w_reg rfl ?_
  refine v_assign (c := .v (.int .i64 0)) rfl ?_
  refine v_nil ?_
  refine q_n ?_
  refine w_block ?_
  refine w_loop (fun k sl H => ∃ (i : Nat) (v : List Bool), k = xs.length - i ∧ i ≤ xs.length ∧ usd (xs.drop i) v = usd xs u ∧ v.length = u.length ∧ sl = sls [(0, .c (ints false xs)), (1, .c (.mu 1 0 u.length 1)), (5, cI i)] ∧ H = [⟨flat bo w, 4, true⟩, ⟨flat bo v, 4, true⟩]) ?_ ?_
  · refine ⟨_, _, _, ?_, 0, u, rfl, Nat.zero_le _, rfl, rfl, rfl, rfl⟩
    exact turn [some 0, some 1] rfl rfl rfl ⟨⟨_, rfl, trc_flat bo_sc rfl⟩, ⟨_, rfl, trc_flat bo_sc rfl⟩, trivial⟩ ⟨tr_sl, tr_mu rfl, tr_v, trivial⟩
  rintro k sl H ⟨i, v, rfl, hi, hp, hvl, rfl, rfl⟩
  refine w_seq ?_
  refine w_seq ?_
  refine w_reg rfl ?_
  refine v_move rfl ?_
  refine v_move rfl ?_
  refine v_len_sl lay54 rfl ?_
  refine v_lss lay3 rfl rfl (fun h1 => ?_) (fun h1 => ?_)
  rotate_left
  · refine v_nil ?_
    refine q_n ?_
    refine w_f rfl ?_
    refine w_exit ?_
    refine q_e ?_
    refine q_e ?_
    refine q_hit ?_
    refine q_n ?_
    refine w_seq ?_
    refine w_reg rfl ?_
    refine v_assign (c := .v (.bool true)) rfl ?_
    refine v_nil ?_
    refine q_n ?_
    refine w_ret ?_
    refine r_r rfl ?_
    have he : usd xs u = (true, v) := by
      rw [← hp]
      obtain rfl : i = xs.length := by omega
      rw [List.drop_length]
      rfl
    rw [he]
    exact g_ans (H1 := [⟨flat bo w, 4, true⟩, ⟨flat bo v, 4, true⟩]) [some 0, some 1] rfl rfl rfl ⟨(fun _ => ⟨_, rfl, trc_flat bo_sc rfl⟩), (fun _ => ⟨_, rfl, trc_flat bo_sc rfl⟩), trivial⟩ tr_v ⟨rfl, rfl⟩
  have hi1 : i < xs.length := by omega
  refine v_nil ?_
  refine q_n ?_
  refine w_t rfl ?_
  refine w_skip ?_
  refine q_n ?_
  refine w_seq ?_
  refine w_block ?_
  refine w_seq ?_
  refine w_seq ?_
  refine w_reg rfl ?_
  refine v_move rfl ?_
  refine v_move rfl ?_
  refine v_idx_e (k := 1) (i) int_len lay54 lay2 rfl rfl rfl (rfl) rfl (rfl) (hi1) ?_
  refine v_load_vw (.c (.v _)) lay2 rfl rfl rfl ?_
  refine v_move rfl ?_
  refine v_len_mu lay147 rfl ?_
  refine v_sub lay2 rfl rfl (i64r (by omega)) ?_
  refine v_callb (cIn _ _ _) rfl rfl (.cons vw_v (.cons vw_v (.cons vw_v .nil))) (fun h3 => ?_) (fun h3 => ?_)
  rotate_left
  · have hnr := h3
    refine v_not true rfl rfl ?_
    refine v_move rfl ?_
    refine v_guard_off rfl rfl rfl ?_
    refine v_guard_off rfl rfl rfl ?_
    refine v_guard_off rfl rfl rfl ?_
    refine v_guard_off rfl rfl rfl ?_
    refine v_guard_off rfl rfl rfl ?_
    refine v_guard_off rfl rfl rfl ?_
    refine v_guard_off rfl rfl rfl ?_
    refine v_pick_t (v := .v (.bool true)) rfl rfl ?_
    refine v_nil ?_
    refine q_n ?_
    refine w_t rfl ?_
    refine w_seq ?_
    refine w_reg rfl ?_
    refine v_assign (c := .v (.bool false)) rfl ?_
    refine v_nil ?_
    refine q_n ?_
    refine w_ret (q_r (q_br (q_r (q_r (q_br (q_r ?_))))))
    refine r_r rfl ?_
    have he : usd xs u = (false, v) := by
      rw [← hp]
      exact usd_n1 hi1 (by omega)
    rw [he]
    exact g_ans (H1 := [⟨flat bo w, 4, true⟩, ⟨flat bo v, 4, true⟩]) [some 0, some 1] rfl rfl rfl ⟨(fun _ => ⟨_, rfl, trc_flat bo_sc rfl⟩), (fun _ => ⟨_, rfl, trc_flat bo_sc rfl⟩), trivial⟩ tr_v ⟨rfl, rfl⟩
  have hlt : xs[i].toNat < u.length := by omega
  have het : xs[i] = (xs[i].toNat : Int) := by omega
  have hlv : xs[i].toNat < v.length := by omega
  refine v_not false rfl rfl ?_
  refine v_move rfl ?_
  refine v_guard_on rfl rfl ?_
  refine v_move rfl ?_
  refine v_guard_on rfl rfl ?_
  refine v_move rfl ?_
  refine v_guard_on rfl rfl ?_
  refine v_move rfl ?_
  refine v_guard_on rfl rfl ?_
  refine v_idx_e (k := 1) (i) int_len lay54 lay2 rfl rfl rfl (rfl) rfl (rfl) (hi1) ?_
  refine v_guard_on rfl rfl ?_
  refine v_load_vw (.c (.v _)) lay2 rfl rfl rfl ?_
  refine v_guard_on rfl rfl ?_
  refine v_idx_mu_e (k := 1) (off := 0) (xs[i].toNat) lay147 lay4 rfl rfl rfl (het) (hlt) ?_
  refine v_guard_on rfl rfl ?_
  refine v_load_flatb (enc := bo) (ys := v) xs[i].toNat 0 bo_len lay4 rfl rfl (by omega) hlv (by decide) rfl (fun h6 => ?_) (fun h6 => ?_)
  · have hbt := h6
    refine v_pick_f rfl rfl ?_
    refine v_nil ?_
    refine q_n ?_
    refine w_t rfl ?_
    refine w_seq ?_
    refine w_reg rfl ?_
    refine v_assign (c := .v (.bool false)) rfl ?_
    refine v_nil ?_
    refine q_n ?_
    refine w_ret (q_r (q_br (q_r (q_r (q_br (q_r ?_))))))
    refine r_r rfl ?_
    have he : usd xs u = (false, v) := by
      rw [← hp]
      exact usd_n2 hi1 hlv hbt
    rw [he]
    exact g_ans (H1 := [⟨flat bo w, 4, true⟩, ⟨flat bo v, 4, true⟩]) [some 0, some 1] rfl rfl rfl ⟨(fun _ => ⟨_, rfl, trc_flat bo_sc rfl⟩), (fun _ => ⟨_, rfl, trc_flat bo_sc rfl⟩), trivial⟩ tr_v ⟨rfl, rfl⟩
  have hbf := h6
  refine v_pick_f rfl rfl ?_
  refine v_nil ?_
  refine q_n ?_
  refine w_f rfl ?_
  refine w_skip ?_
  refine q_n ?_
  refine w_reg rfl ?_
  refine v_move rfl ?_
  refine v_move rfl ?_
  refine v_move rfl ?_
  refine v_idx_e (k := 1) (i) int_len lay54 lay2 rfl rfl rfl (rfl) rfl (rfl) (hi1) ?_
  refine v_load_vw (.c (.v _)) lay2 rfl rfl rfl ?_
  refine v_idx_mu_e (k := 1) (off := 0) (xs[i].toNat) lay147 lay4 rfl rfl rfl (het) (hlt) ?_
  refine v_store_flat (H' := [_, _]) xs[i].toNat 0 (true) bo_len lay4 rfl rfl rfl (by omega) (hlv) rfl rfl (rfl) rfl ?_
  refine v_nil ?_
  refine q_bn ?_
  refine q_n ?_
  refine w_reg rfl ?_
  refine v_move rfl ?_
  refine v_add lay3 rfl rfl (i64r (by omega)) ?_
  refine v_assign rfl ?_
  refine v_nil ?_
  refine q_n ?_
  rw [usd_go hi1 (by omega) hlv hbf] at hp
  refine ⟨_, _, _, ?_, ⟨i + 1, v.set xs[i].toNat true, rfl, by omega, hp, by rw [List.length_set]; exact hvl, rfl, rfl⟩, by omega⟩
  exact turn [some 0, some 1] rfl rfl rfl ⟨⟨_, rfl, trc_flat bo_sc rfl⟩, ⟨_, rfl, trc_flat bo_sc rfl⟩, trivial⟩ ⟨tr_sl, tr_mu rfl, tr_v, trivial⟩
end Go.VL
namespace Go.VL
open Go.RowKit
set_option maxRecDepth 20000
set_option maxHeartbeats 8000000
def jPre (j : Jo) : Prop := jnOk j.1 ∧ (j.2.1.length : Int) = j.1.1 ∧ (j.2.2.1.length : Int) = j.1.2.1
instance (j : Jo) : Decidable (jPre j) := by unfold jPre; infer_instance
/-- Which roads are ins, and which are outs; and whether joints are as told. -/
def ends (np : Nat) : List Jo → List Bool → List Bool → List Bool × List Bool × Bool
  | [], a, b => (a, b, true)
  | j :: r, a, b => if jPre j then (if (usd j.2.1 a).1 = true then (if (usd j.2.2.1 b).1 = true then (if -1 ≤ j.2.2.2 ∧ j.2.2.2 ≤ (np : Int) - 1 then ends np r (usd j.2.1 a).2 (usd j.2.2.1 b).2 else ((usd j.2.1 a).2, (usd j.2.2.1 b).2, false)) else ((usd j.2.1 a).2, (usd j.2.2.1 b).2, false)) else ((usd j.2.1 a).2, b, false)) else (a, b, false)
section
variable {np : Nat} {js : List Jo} {a b : List Bool} {i : Nat} (h : i < js.length)
include h
theorem ends_at : ends np (js.drop i) a b = if jPre js[i] then (if (usd js[i].2.1 a).1 = true then (if (usd js[i].2.2.1 b).1 = true then (if -1 ≤ js[i].2.2.2 ∧ js[i].2.2.2 ≤ (np : Int) - 1 then ends np (js.drop (i + 1)) (usd js[i].2.1 a).2 (usd js[i].2.2.1 b).2 else ((usd js[i].2.1 a).2, (usd js[i].2.2.1 b).2, false)) else ((usd js[i].2.1 a).2, (usd js[i].2.2.1 b).2, false)) else ((usd js[i].2.1 a).2, b, false)) else (a, b, false) := by
  rw [List.drop_eq_getElem_cons h, ends]
theorem ends_0 (h0 : ¬ jPre js[i]) : ends np (js.drop i) a b = (a, b, false) := by rw [ends_at h, if_neg h0]
theorem ends_1 (h0 : jPre js[i]) (h1 : ¬ (usd js[i].2.1 a).1 = true) : ends np (js.drop i) a b = ((usd js[i].2.1 a).2, b, false) := by rw [ends_at h, if_pos h0, if_neg h1]
theorem ends_2 (h0 : jPre js[i]) (h1 : (usd js[i].2.1 a).1 = true) (h2 : ¬ (usd js[i].2.2.1 b).1 = true) : ends np (js.drop i) a b = ((usd js[i].2.1 a).2, (usd js[i].2.2.1 b).2, false) := by rw [ends_at h, if_pos h0, if_pos h1, if_neg h2]
theorem ends_3 (h0 : jPre js[i]) (h1 : (usd js[i].2.1 a).1 = true) (h2 : (usd js[i].2.2.1 b).1 = true) (h3 : ¬ (-1 ≤ js[i].2.2.2 ∧ js[i].2.2.2 ≤ (np : Int) - 1)) : ends np (js.drop i) a b = ((usd js[i].2.1 a).2, (usd js[i].2.2.1 b).2, false) := by rw [ends_at h, if_pos h0, if_pos h1, if_pos h2, if_neg h3]
theorem ends_4 (h0 : jPre js[i]) (h1 : (usd js[i].2.1 a).1 = true) (h2 : (usd js[i].2.2.1 b).1 = true) (h3 : -1 ≤ js[i].2.2.2 ∧ js[i].2.2.2 ≤ (np : Int) - 1) : ends np (js.drop i) a b = ends np (js.drop (i + 1)) (usd js[i].2.1 a).2 (usd js[i].2.2.1 b).2 := by rw [ends_at h, if_pos h0, if_pos h1, if_pos h2, if_pos h3]
end
theorem usd0 {xs : List Int} {u w : List Bool} {m : Nat} (hx : xs.length ≤ 2 ^ 40) (hu : u.length = m) (hm : m ≤ 2 ^ 40) {b : Bool} (hb : (usd xs u).1 = b) : DetC X 165 [.c (ints false xs), .c (.mu 0 0 m 1)] [⟨flat bo u, 4, true⟩, ⟨flat bo w, 4, true⟩] (cB b) [⟨flat bo (usd xs u).2, 4, true⟩, ⟨flat bo w, 4, true⟩] := by
  subst hu hb
  exact cUsd0 xs u w hx hm
theorem usd1 {xs : List Int} {u w : List Bool} {m : Nat} (hx : xs.length ≤ 2 ^ 40) (hu : u.length = m) (hm : m ≤ 2 ^ 40) {b : Bool} (hb : (usd xs u).1 = b) : DetC X 165 [.c (ints false xs), .c (.mu 1 0 m 1)] [⟨flat bo w, 4, true⟩, ⟨flat bo u, 4, true⟩] (cB b) [⟨flat bo w, 4, true⟩, ⟨flat bo (usd xs u).2, 4, true⟩] := by
  subst hu hb
  exact cUsd1 xs u w hx hm
theorem cEnds (t : Tw) (hB : tB (2 ^ 20) t) (hF : tF t) : PureC X 100 [.c (.vw false (twf true t) 0)] (.tup [.c (bls true (ends t.2.2.2.1.length t.2.2.1 (List.replicate t.1.length false) (List.replicate t.1.length false)).1), .c (bls true (ends t.2.2.2.1.length t.2.2.1 (List.replicate t.1.length false) (List.replicate t.1.length false)).2.1), cB (ends t.2.2.2.1.length t.2.2.1 (List.replicate t.1.length false) (List.replicate t.1.length false)).2.2]) := by
  refine PureC.of_body (drawD_ok X) (fun _ _ => Go.Proofs.Tryz.call100 _ _) Go.Proofs.Tryz.func100 rfl (n := 103) rfl ?_
  refine w_seq ?_
  refine w_reg rfl ?_
  refine v_assign rfl ?_
  refine v_assign rfl ?_
  refine v_assign (c := .v (.bool false)) rfl ?_
  refine v_nil ?_
  refine q_n ?_
  refine w_seq ?_
  refine w_reg rfl ?_
  refine v_move rfl ?_
  refine v_nil_vw rfl ?_
  refine v_fa_vw (off' := 0) lay35 rfl rfl rfl ?_
  refine v_load_vw (.c (_)) lay31 rfl rfl rfl ?_
  refine v_len_sl lay31 rfl ?_
  refine v_make (enc := bo) (a0 := false) (m := 0) (H' := [_]) rfl lay147 lay4 rfl rfl rfl rfl (t.1.length) (rfl) (by have := hB.1; unfold maxLen; simp only []; omega) rfl rfl ?_
  refine v_assign rfl ?_
  refine v_nil ?_
  refine q_n ?_
  refine w_seq ?_
  refine w_reg rfl ?_
  refine v_move rfl ?_
  refine v_nil_vw rfl ?_
  refine v_fa_vw (off' := 0) lay35 rfl rfl rfl ?_
  refine v_load_vw (.c (_)) lay31 rfl rfl rfl ?_
  refine v_len_sl lay31 rfl ?_
  refine v_make (enc := bo) (a0 := false) (m := 1) (H' := [_, _]) rfl lay147 lay4 rfl rfl rfl rfl (t.1.length) (rfl) (by have := hB.1; unfold maxLen; simp only []; omega) rfl rfl ?_
  refine v_assign rfl ?_
  refine v_nil ?_
  refine q_n ?_
  refine w_seq ?_
  refine w_seq ?_
  refine w_reg rfl ?_
  refine v_assign (c := .v (.int .i64 0)) rfl ?_
  refine v_nil ?_
  refine q_n ?_
  refine w_block ?_
  refine w_loop (fun k sl H => ∃ (i : Nat) (a b : List Bool), k = t.2.2.1.length - i ∧ i ≤ t.2.2.1.length ∧ ends t.2.2.2.1.length (t.2.2.1.drop i) a b = ends t.2.2.2.1.length t.2.2.1 (List.replicate t.1.length false) (List.replicate t.1.length false) ∧ a.length = t.1.length ∧ b.length = t.1.length ∧ sl = sls [(0, .c (.vw false (twf true t) 0)), (5, .c (.mu 0 0 t.1.length 1)), (6, .c (.mu 1 0 t.1.length 1)), (7, cI i)] ∧ H = [⟨flat bo a, 4, true⟩, ⟨flat bo b, 4, true⟩]) ?_ ?_
  · refine ⟨_, _, _, ?_, 0, List.replicate t.1.length false, List.replicate t.1.length false, rfl, Nat.zero_le _, rfl, by simp, by simp, rfl, rfl⟩
    exact turn [some 0, some 1] rfl rfl rfl ⟨⟨_, rfl, trc_flat bo_sc rfl⟩, ⟨_, rfl, trc_flat bo_sc rfl⟩, trivial⟩ ⟨tr_vw, tr_mu rfl, tr_mu rfl, tr_v, trivial⟩
  rintro k sl H ⟨i, a, b, rfl, hi, hp, ha, hb, rfl, rfl⟩
  refine w_seq ?_
  refine w_seq ?_
  refine w_reg rfl ?_
  refine v_move rfl ?_
  refine v_move rfl ?_
  refine v_nil_vw rfl ?_
  refine v_fa_vw (off' := 2) lay35 rfl rfl rfl ?_
  refine v_load_vw (.c (_)) lay32 rfl rfl rfl ?_
  refine v_len_sl lay32 rfl ?_
  refine v_lss lay3 rfl rfl (fun h1 => ?_) (fun h1 => ?_)
  rotate_left
  · refine v_nil ?_
    refine q_n ?_
    refine w_f rfl ?_
    refine w_exit ?_
    refine q_e ?_
    refine q_e ?_
    refine q_hit ?_
    refine q_n ?_
    refine w_seq ?_
    refine w_reg rfl ?_
    refine v_move rfl ?_
    refine v_move rfl ?_
    refine v_assign rfl ?_
    refine v_assign rfl ?_
    refine v_assign (c := .v (.bool true)) rfl ?_
    refine v_nil ?_
    refine q_n ?_
    refine w_ret ?_
    refine r_r rfl ?_
    have he : ends t.2.2.2.1.length t.2.2.1 (List.replicate t.1.length false) (List.replicate t.1.length false) = (a, b, true) := by
      rw [← hp]
      obtain rfl : i = t.2.2.1.length := by omega
      rw [List.drop_length]
      rfl
    rw [he]
    exact a_tup (.cons (a_flat2 bo_sc bo_len rfl rfl ha.symm ha) (.cons (a_flat2 bo_sc bo_len rfl rfl hb.symm hb) (.cons tr_v .nil)))
  have hi1 : i < t.2.2.1.length := by omega
  have hbl := hB.2.2.2.1 _ (List.getElem_mem hi1)
  refine v_nil ?_
  refine q_n ?_
  refine w_t rfl ?_
  refine w_skip ?_
  refine q_n ?_
  refine w_seq ?_
  refine w_block ?_
  refine w_seq ?_
  refine w_reg rfl ?_
  refine v_move rfl ?_
  refine v_nil_vw rfl ?_
  refine v_fa_vw (off' := 2) lay35 rfl rfl rfl ?_
  refine v_load_vw (.c (_)) lay32 rfl rfl rfl ?_
  refine v_move rfl ?_
  refine v_idx_e (k := 25) (i) joc_len lay32 lay56 rfl rfl rfl (rfl) rfl (rfl) (hi1) ?_
  refine v_assign rfl ?_
  refine v_nil ?_
  refine q_n ?_
  refine w_seq ?_
  refine w_draw [0, 1, 3, 7, 15, 31, 63, 127, 255, 511, 1023, 63, 2111, 6207, 14399, 30783, 65535, 131071, 262143, 524287, 1048575, 2097151, 4194303, 8388607, 524287, 17301503, 50855935, 117964799, 252182527, 536870911, 1073741823, 2147483647, 4294967295, 8589934591, 17179869183, 34359738367, 4294967295, 137438953471, 274877906943, 549755813887, 1099511627775, 2199023255551, 4398046511103, 8796093022207, 17592186044415, 2199023255551, 70368744177663, 140737488355327, 281474976710655, 562949953421311, 1125899906842623, 2251799813685247, 4503599627370495, 9007199254740991, 1125899906842623, 19140298416324607, 55169095435288575, 127226689473216511, 271341877549072383, 559572253700784127, 1152921504606846975, 2305843009213693951, 4611686018427387903] [⟨0, 0, []⟩, ⟨1, 0, []⟩, ⟨2, 0, []⟩, ⟨3, 0, []⟩, ⟨4, 0, []⟩, ⟨5, 0, []⟩, ⟨6, 0, []⟩, ⟨7, 0, []⟩, ⟨8, 0, []⟩, ⟨9, 0, []⟩, ⟨10, 0, []⟩, ⟨11, 0, []⟩, ⟨12, 0, []⟩, ⟨13, 0, []⟩, ⟨14, 0, []⟩, ⟨15, 0, []⟩, ⟨16, 0, []⟩, ⟨17, 0, []⟩, ⟨18, 0, []⟩, ⟨19, 0, []⟩, ⟨20, 0, []⟩, ⟨21, 0, []⟩, ⟨22, 0, []⟩, ⟨23, 0, []⟩, ⟨24, 0, []⟩, ⟨25, 0, []⟩, ⟨26, 0, []⟩, ⟨27, 0, []⟩, ⟨28, 0, []⟩, ⟨29, 0, []⟩, ⟨30, 0, []⟩, ⟨31, 0, []⟩, ⟨32, 0, []⟩, ⟨33, 0, []⟩, ⟨34, 0, []⟩, ⟨35, 0, []⟩, ⟨36, 0, []⟩, ⟨37, 1, []⟩, ⟨38, 0, []⟩, ⟨39, 0, []⟩, ⟨40, 0, []⟩, ⟨41, 0, []⟩, ⟨42, 0, []⟩, ⟨43, 0, []⟩, ⟨44, 0, []⟩, ⟨45, 0, []⟩, ⟨46, 1, []⟩, ⟨47, 0, []⟩, ⟨48, 0, []⟩, ⟨49, 0, []⟩, ⟨50, 0, []⟩, ⟨51, 0, []⟩, ⟨52, 0, []⟩, ⟨53, 0, []⟩, ⟨54, 0, []⟩, ⟨55, 0, []⟩, ⟨56, 0, []⟩, ⟨57, 0, []⟩, ⟨58, 0, []⟩, ⟨59, 0, []⟩, ⟨60, 0, []⟩, ⟨61, 0, []⟩, ⟨62, 0, []⟩] rfl rfl ?_
  refine d_q rfl rfl rfl rfl rfl ?_
  refine v_move rfl ?_
  refine v_nil ?_
  refine d_q rfl rfl rfl rfl rfl ?_
  refine v_nil_vw rfl ?_
  refine v_nil ?_
  refine d_q rfl rfl rfl rfl rfl ?_
  refine v_fa_vw (off' := 0) lay56 rfl rfl rfl ?_
  refine v_nil ?_
  refine d_callb (cJnS t.2.2.1[i].1 [.sl true t.2.2.1[i].2.1.length 1 (flat int t.2.2.1[i].2.1), .sl true t.2.2.1[i].2.2.1.length 1 (flat int t.2.2.1[i].2.2.1), .v (.int .i64 t.2.2.1[i].2.2.2)] (hF.2.2.1 _ (List.getElem_mem hi1))) rfl rfl rfl rfl (.cons vw_vw .nil) (fun h3 => ?_) (fun h3 => ?_)
  rotate_left
  · have hjn := h3
    refine d_q rfl rfl rfl rfl rfl ?_
    refine v_not true rfl rfl ?_
    refine v_nil ?_
    refine d_q rfl rfl rfl rfl rfl ?_
    refine v_move rfl ?_
    refine v_nil ?_
    refine d_off rfl rfl ?_
    refine d_off rfl rfl ?_
    refine d_off rfl rfl ?_
    refine d_off rfl rfl ?_
    refine d_off rfl rfl ?_
    refine d_off rfl rfl ?_
    refine d_off rfl rfl ?_
    refine d_off rfl rfl ?_
    refine d_off rfl rfl ?_
    refine d_off rfl rfl ?_
    refine d_off rfl rfl ?_
    refine d_q rfl rfl rfl rfl rfl ?_
    refine v_pick_t (v := .v (.bool true)) rfl rfl ?_
    refine v_nil ?_
    refine d_q rfl rfl rfl rfl rfl ?_
    refine v_move rfl ?_
    refine v_nil ?_
    refine d_off rfl rfl ?_
    refine d_off rfl rfl ?_
    refine d_off rfl rfl ?_
    refine d_off rfl rfl ?_
    refine d_off rfl rfl ?_
    refine d_off rfl rfl ?_
    refine d_off rfl rfl ?_
    refine d_off rfl rfl ?_
    refine d_off rfl rfl ?_
    refine d_off rfl rfl ?_
    refine d_off rfl rfl ?_
    refine d_q rfl rfl rfl rfl rfl ?_
    refine v_pick_t (v := .v (.bool true)) rfl rfl ?_
    refine v_nil ?_
    refine d_q rfl rfl rfl rfl rfl ?_
    refine v_move rfl ?_
    refine v_nil ?_
    refine d_off rfl rfl ?_
    refine d_off rfl rfl ?_
    refine d_off rfl rfl ?_
    refine d_off rfl rfl ?_
    refine d_off rfl rfl ?_
    refine d_off rfl rfl ?_
    refine d_off rfl rfl ?_
    refine d_q rfl rfl rfl rfl rfl ?_
    refine v_pick_t (v := .v (.bool true)) rfl rfl ?_
    refine v_nil ?_
    refine d_q rfl rfl rfl rfl rfl ?_
    refine v_move rfl ?_
    refine v_nil ?_
    refine d_off rfl rfl ?_
    refine d_off rfl rfl ?_
    refine d_off rfl rfl ?_
    refine d_off rfl rfl ?_
    refine d_off rfl rfl ?_
    refine d_off rfl rfl ?_
    refine d_off rfl rfl ?_
    refine d_q rfl rfl rfl rfl rfl ?_
    refine v_pick_t (v := .v (.bool true)) rfl rfl ?_
    refine v_nil ?_
    refine d_q rfl rfl rfl rfl rfl ?_
    refine v_move rfl ?_
    refine v_nil ?_
    refine d_off rfl rfl ?_
    refine d_off rfl rfl ?_
    refine d_off rfl rfl ?_
    refine d_off rfl rfl ?_
    refine d_off rfl rfl ?_
    refine d_off rfl rfl ?_
    refine d_off rfl rfl ?_
    refine d_off rfl rfl ?_
    refine d_off rfl rfl ?_
    refine d_off rfl rfl ?_
    refine d_off rfl rfl ?_
    refine d_off rfl rfl ?_
    refine d_q rfl rfl rfl rfl rfl ?_
    refine v_pick_t (v := .v (.bool true)) rfl rfl ?_
    refine v_nil ?_
    refine d_nil ?_
    refine q_n ?_
    refine w_t rfl ?_
    refine w_seq ?_
    refine w_reg rfl ?_
    refine v_move rfl ?_
    refine v_move rfl ?_
    refine v_assign rfl ?_
    refine v_assign rfl ?_
    refine v_assign (c := .v (.bool false)) rfl ?_
    refine v_nil ?_
    refine q_n ?_
    refine w_ret (q_br (q_r (q_r (q_br (q_r ?_)))))
    refine r_r rfl ?_
    have he : ends t.2.2.2.1.length t.2.2.1 (List.replicate t.1.length false) (List.replicate t.1.length false) = (a, b, false) := by
      rw [← hp]
      exact ends_0 hi1 fun h => hjn h.1
    rw [he]
    exact a_tup (.cons (a_flat2 bo_sc bo_len rfl rfl ha.symm ha) (.cons (a_flat2 bo_sc bo_len rfl rfl hb.symm hb) (.cons tr_v .nil)))
  have hjn := h3
  refine d_q rfl rfl rfl rfl rfl ?_
  refine v_not false rfl rfl ?_
  refine v_nil ?_
  refine d_q rfl rfl rfl rfl rfl ?_
  refine v_move rfl ?_
  refine v_nil ?_
  refine d_q rfl rfl rfl rfl rfl ?_
  refine v_move rfl ?_
  refine v_nil ?_
  refine d_q rfl rfl rfl rfl rfl ?_
  refine v_nil_vw rfl ?_
  refine v_nil ?_
  refine d_q rfl rfl rfl rfl rfl ?_
  refine v_fa_vw (off' := 22) lay56 rfl rfl rfl ?_
  refine v_nil ?_
  refine d_q rfl rfl rfl rfl rfl ?_
  refine v_load_vw (.c (_)) lay54 rfl rfl rfl ?_
  refine v_nil ?_
  refine d_q rfl rfl rfl rfl rfl ?_
  refine v_len_sl lay54 rfl ?_
  refine v_nil ?_
  refine d_q rfl rfl rfl rfl rfl ?_
  refine v_move rfl ?_
  refine v_nil ?_
  refine d_q rfl rfl rfl rfl rfl ?_
  refine v_nil_vw rfl ?_
  refine v_nil ?_
  refine d_q rfl rfl rfl rfl rfl ?_
  refine v_fa_vw (off' := 0) lay56 rfl rfl rfl ?_
  refine v_nil ?_
  refine d_q rfl rfl rfl rfl rfl ?_
  refine v_fa_vw (off' := 0) lay53 rfl rfl rfl ?_
  refine v_nil ?_
  refine d_q rfl rfl rfl rfl rfl ?_
  refine v_load_vw (.c (.v _)) lay2 rfl rfl rfl ?_
  refine v_nil ?_
  refine d_q rfl rfl rfl rfl rfl ?_
  refine v_neq lay2 rfl rfl (fun h4 => ?_) (fun h4 => ?_)
  · have hin := h4
    refine v_nil ?_
    refine d_q rfl rfl rfl rfl rfl ?_
    refine v_pick_f rfl rfl ?_
    refine v_nil ?_
    refine d_q rfl rfl rfl rfl rfl ?_
    refine v_move rfl ?_
    refine v_nil ?_
    refine d_off rfl rfl ?_
    refine d_off rfl rfl ?_
    refine d_off rfl rfl ?_
    refine d_off rfl rfl ?_
    refine d_off rfl rfl ?_
    refine d_off rfl rfl ?_
    refine d_off rfl rfl ?_
    refine d_off rfl rfl ?_
    refine d_off rfl rfl ?_
    refine d_off rfl rfl ?_
    refine d_off rfl rfl ?_
    refine d_q rfl rfl rfl rfl rfl ?_
    refine v_pick_t (v := .v (.bool true)) rfl rfl ?_
    refine v_nil ?_
    refine d_q rfl rfl rfl rfl rfl ?_
    refine v_move rfl ?_
    refine v_nil ?_
    refine d_off rfl rfl ?_
    refine d_off rfl rfl ?_
    refine d_off rfl rfl ?_
    refine d_off rfl rfl ?_
    refine d_off rfl rfl ?_
    refine d_off rfl rfl ?_
    refine d_off rfl rfl ?_
    refine d_q rfl rfl rfl rfl rfl ?_
    refine v_pick_t (v := .v (.bool true)) rfl rfl ?_
    refine v_nil ?_
    refine d_q rfl rfl rfl rfl rfl ?_
    refine v_move rfl ?_
    refine v_nil ?_
    refine d_off rfl rfl ?_
    refine d_off rfl rfl ?_
    refine d_off rfl rfl ?_
    refine d_off rfl rfl ?_
    refine d_off rfl rfl ?_
    refine d_off rfl rfl ?_
    refine d_off rfl rfl ?_
    refine d_q rfl rfl rfl rfl rfl ?_
    refine v_pick_t (v := .v (.bool true)) rfl rfl ?_
    refine v_nil ?_
    refine d_q rfl rfl rfl rfl rfl ?_
    refine v_move rfl ?_
    refine v_nil ?_
    refine d_off rfl rfl ?_
    refine d_off rfl rfl ?_
    refine d_off rfl rfl ?_
    refine d_off rfl rfl ?_
    refine d_off rfl rfl ?_
    refine d_off rfl rfl ?_
    refine d_off rfl rfl ?_
    refine d_off rfl rfl ?_
    refine d_off rfl rfl ?_
    refine d_off rfl rfl ?_
    refine d_off rfl rfl ?_
    refine d_off rfl rfl ?_
    refine d_q rfl rfl rfl rfl rfl ?_
    refine v_pick_t (v := .v (.bool true)) rfl rfl ?_
    refine v_nil ?_
    refine d_nil ?_
    refine q_n ?_
    refine w_t rfl ?_
    refine w_seq ?_
    refine w_reg rfl ?_
    refine v_move rfl ?_
    refine v_move rfl ?_
    refine v_assign rfl ?_
    refine v_assign rfl ?_
    refine v_assign (c := .v (.bool false)) rfl ?_
    refine v_nil ?_
    refine q_n ?_
    refine w_ret (q_br (q_r (q_r (q_br (q_r ?_)))))
    refine r_r rfl ?_
    have he : ends t.2.2.2.1.length t.2.2.1 (List.replicate t.1.length false) (List.replicate t.1.length false) = (a, b, false) := by
      rw [← hp]
      exact ends_0 hi1 fun h => by have := h.2.1; omega
    rw [he]
    exact a_tup (.cons (a_flat2 bo_sc bo_len rfl rfl ha.symm ha) (.cons (a_flat2 bo_sc bo_len rfl rfl hb.symm hb) (.cons tr_v .nil)))
  have hin := h4
  refine v_nil ?_
  refine d_q rfl rfl rfl rfl rfl ?_
  refine v_pick_f rfl rfl ?_
  refine v_nil ?_
  refine d_q rfl rfl rfl rfl rfl ?_
  refine v_move rfl ?_
  refine v_nil ?_
  refine d_q rfl rfl rfl rfl rfl ?_
  refine v_move rfl ?_
  refine v_nil ?_
  refine d_q rfl rfl rfl rfl rfl ?_
  refine v_nil_vw rfl ?_
  refine v_nil ?_
  refine d_q rfl rfl rfl rfl rfl ?_
  refine v_fa_vw (off' := 23) lay56 rfl rfl rfl ?_
  refine v_nil ?_
  refine d_q rfl rfl rfl rfl rfl ?_
  refine v_load_vw (.c (_)) lay54 rfl rfl rfl ?_
  refine v_nil ?_
  refine d_q rfl rfl rfl rfl rfl ?_
  refine v_len_sl lay54 rfl ?_
  refine v_nil ?_
  refine d_q rfl rfl rfl rfl rfl ?_
  refine v_move rfl ?_
  refine v_nil ?_
  refine d_q rfl rfl rfl rfl rfl ?_
  refine v_nil_vw rfl ?_
  refine v_nil ?_
  refine d_q rfl rfl rfl rfl rfl ?_
  refine v_fa_vw (off' := 0) lay56 rfl rfl rfl ?_
  refine v_nil ?_
  refine d_q rfl rfl rfl rfl rfl ?_
  refine v_fa_vw (off' := 1) lay53 rfl rfl rfl ?_
  refine v_nil ?_
  refine d_q rfl rfl rfl rfl rfl ?_
  refine v_load_vw (.c (.v _)) lay2 rfl rfl rfl ?_
  refine v_nil ?_
  refine d_q rfl rfl rfl rfl rfl ?_
  refine v_neq lay2 rfl rfl (fun h5 => ?_) (fun h5 => ?_)
  · have hot := h5
    refine v_nil ?_
    refine d_q rfl rfl rfl rfl rfl ?_
    refine v_pick_f rfl rfl ?_
    refine v_nil ?_
    refine d_q rfl rfl rfl rfl rfl ?_
    refine v_move rfl ?_
    refine v_nil ?_
    refine d_off rfl rfl ?_
    refine d_off rfl rfl ?_
    refine d_off rfl rfl ?_
    refine d_off rfl rfl ?_
    refine d_off rfl rfl ?_
    refine d_off rfl rfl ?_
    refine d_off rfl rfl ?_
    refine d_q rfl rfl rfl rfl rfl ?_
    refine v_pick_t (v := .v (.bool true)) rfl rfl ?_
    refine v_nil ?_
    refine d_q rfl rfl rfl rfl rfl ?_
    refine v_move rfl ?_
    refine v_nil ?_
    refine d_off rfl rfl ?_
    refine d_off rfl rfl ?_
    refine d_off rfl rfl ?_
    refine d_off rfl rfl ?_
    refine d_off rfl rfl ?_
    refine d_off rfl rfl ?_
    refine d_off rfl rfl ?_
    refine d_q rfl rfl rfl rfl rfl ?_
    refine v_pick_t (v := .v (.bool true)) rfl rfl ?_
    refine v_nil ?_
    refine d_q rfl rfl rfl rfl rfl ?_
    refine v_move rfl ?_
    refine v_nil ?_
    refine d_off rfl rfl ?_
    refine d_off rfl rfl ?_
    refine d_off rfl rfl ?_
    refine d_off rfl rfl ?_
    refine d_off rfl rfl ?_
    refine d_off rfl rfl ?_
    refine d_off rfl rfl ?_
    refine d_off rfl rfl ?_
    refine d_off rfl rfl ?_
    refine d_off rfl rfl ?_
    refine d_off rfl rfl ?_
    refine d_off rfl rfl ?_
    refine d_q rfl rfl rfl rfl rfl ?_
    refine v_pick_t (v := .v (.bool true)) rfl rfl ?_
    refine v_nil ?_
    refine d_nil ?_
    refine q_n ?_
    refine w_t rfl ?_
    refine w_seq ?_
    refine w_reg rfl ?_
    refine v_move rfl ?_
    refine v_move rfl ?_
    refine v_assign rfl ?_
    refine v_assign rfl ?_
    refine v_assign (c := .v (.bool false)) rfl ?_
    refine v_nil ?_
    refine q_n ?_
    refine w_ret (q_br (q_r (q_r (q_br (q_r ?_)))))
    refine r_r rfl ?_
    have he : ends t.2.2.2.1.length t.2.2.1 (List.replicate t.1.length false) (List.replicate t.1.length false) = (a, b, false) := by
      rw [← hp]
      exact ends_0 hi1 fun h => by have := h.2.2; omega
    rw [he]
    exact a_tup (.cons (a_flat2 bo_sc bo_len rfl rfl ha.symm ha) (.cons (a_flat2 bo_sc bo_len rfl rfl hb.symm hb) (.cons tr_v .nil)))
  have hot := h5
  refine v_nil ?_
  refine d_q rfl rfl rfl rfl rfl ?_
  refine v_pick_f rfl rfl ?_
  refine v_nil ?_
  refine d_q rfl rfl rfl rfl rfl ?_
  refine v_move rfl ?_
  refine v_nil ?_
  refine d_q rfl rfl rfl rfl rfl ?_
  refine v_move rfl ?_
  refine v_nil ?_
  refine d_q rfl rfl rfl rfl rfl ?_
  refine v_nil_vw rfl ?_
  refine v_nil ?_
  refine d_q rfl rfl rfl rfl rfl ?_
  refine v_fa_vw (off' := 22) lay56 rfl rfl rfl ?_
  refine v_nil ?_
  refine d_q rfl rfl rfl rfl rfl ?_
  refine v_load_vw (.c (_)) lay54 rfl rfl rfl ?_
  refine v_nil ?_
  refine d_q rfl rfl rfl rfl rfl ?_
  refine v_move rfl ?_
  refine v_nil ?_
  refine dec_split (p := (usd t.2.2.1[i].2.1 a).1 = true) (fun h6 => ?_) (fun h6 => ?_)
  rotate_left
  · refine d_id ?_
    have hu1 := h6
    refine d_det (H' := [_, _]) (usd0 (by have := hB.2.2.2.1 _ (List.getElem_mem hi1); omega) ha (by have := hB.1; omega) (by simpa using h6)) rfl rfl rfl rfl again_nil ?_
    refine d_q rfl rfl rfl rfl rfl ?_
    refine v_not true rfl rfl ?_
    refine v_nil ?_
    refine d_q rfl rfl rfl rfl rfl ?_
    refine v_pick_f rfl rfl ?_
    refine v_nil ?_
    refine d_q rfl rfl rfl rfl rfl ?_
    refine v_move rfl ?_
    refine v_nil ?_
    refine d_off rfl rfl ?_
    refine d_off rfl rfl ?_
    refine d_off rfl rfl ?_
    refine d_off rfl rfl ?_
    refine d_off rfl rfl ?_
    refine d_off rfl rfl ?_
    refine d_off rfl rfl ?_
    refine d_q rfl rfl rfl rfl rfl ?_
    refine v_pick_t (v := .v (.bool true)) rfl rfl ?_
    refine v_nil ?_
    refine d_q rfl rfl rfl rfl rfl ?_
    refine v_move rfl ?_
    refine v_nil ?_
    refine d_off rfl rfl ?_
    refine d_off rfl rfl ?_
    refine d_off rfl rfl ?_
    refine d_off rfl rfl ?_
    refine d_off rfl rfl ?_
    refine d_off rfl rfl ?_
    refine d_off rfl rfl ?_
    refine d_off rfl rfl ?_
    refine d_off rfl rfl ?_
    refine d_off rfl rfl ?_
    refine d_off rfl rfl ?_
    refine d_off rfl rfl ?_
    refine d_q rfl rfl rfl rfl rfl ?_
    refine v_pick_t (v := .v (.bool true)) rfl rfl ?_
    refine v_nil ?_
    refine d_nil ?_
    refine q_n ?_
    refine w_t rfl ?_
    refine w_seq ?_
    refine w_reg rfl ?_
    refine v_move rfl ?_
    refine v_move rfl ?_
    refine v_assign rfl ?_
    refine v_assign rfl ?_
    refine v_assign (c := .v (.bool false)) rfl ?_
    refine v_nil ?_
    refine q_n ?_
    refine w_ret (q_br (q_r (q_r (q_br (q_r ?_)))))
    refine r_r rfl ?_
    have he : ends t.2.2.2.1.length t.2.2.1 (List.replicate t.1.length false) (List.replicate t.1.length false) = ((usd t.2.2.1[i].2.1 a).2, b, false) := by
      rw [← hp]
      exact ends_1 hi1 ⟨hjn, by omega, by omega⟩ hu1
    rw [he]
    exact a_tup (.cons (a_flat2 bo_sc bo_len rfl rfl (by rw [usd_len]; exact ha.symm) (by rw [usd_len]; exact ha)) (.cons (a_flat2 bo_sc bo_len rfl rfl hb.symm hb) (.cons tr_v .nil)))
  refine d_id ?_
  have hu1 := h6
  refine d_det (H' := [_, _]) (usd0 (by have := hB.2.2.2.1 _ (List.getElem_mem hi1); omega) ha (by have := hB.1; omega) h6) rfl rfl rfl rfl again_nil ?_
  refine d_q rfl rfl rfl rfl rfl ?_
  refine v_not false rfl rfl ?_
  refine v_nil ?_
  refine d_q rfl rfl rfl rfl rfl ?_
  refine v_pick_f rfl rfl ?_
  refine v_nil ?_
  refine d_q rfl rfl rfl rfl rfl ?_
  refine v_move rfl ?_
  refine v_nil ?_
  refine d_q rfl rfl rfl rfl rfl ?_
  refine v_move rfl ?_
  refine v_nil ?_
  refine d_q rfl rfl rfl rfl rfl ?_
  refine v_nil_vw rfl ?_
  refine v_nil ?_
  refine d_q rfl rfl rfl rfl rfl ?_
  refine v_fa_vw (off' := 23) lay56 rfl rfl rfl ?_
  refine v_nil ?_
  refine d_q rfl rfl rfl rfl rfl ?_
  refine v_load_vw (.c (_)) lay54 rfl rfl rfl ?_
  refine v_nil ?_
  refine d_q rfl rfl rfl rfl rfl ?_
  refine v_move rfl ?_
  refine v_nil ?_
  refine dec_split (p := (usd t.2.2.1[i].2.2.1 b).1 = true) (fun h7 => ?_) (fun h7 => ?_)
  rotate_left
  · refine d_id ?_
    have hu2 := h7
    refine d_det (H' := [_, _]) (usd1 (by have := hB.2.2.2.1 _ (List.getElem_mem hi1); omega) hb (by have := hB.1; omega) (by simpa using h7)) rfl rfl rfl rfl again_nil ?_
    refine d_q rfl rfl rfl rfl rfl ?_
    refine v_not true rfl rfl ?_
    refine v_nil ?_
    refine d_q rfl rfl rfl rfl rfl ?_
    refine v_pick_f rfl rfl ?_
    refine v_nil ?_
    refine d_q rfl rfl rfl rfl rfl ?_
    refine v_move rfl ?_
    refine v_nil ?_
    refine d_off rfl rfl ?_
    refine d_off rfl rfl ?_
    refine d_off rfl rfl ?_
    refine d_off rfl rfl ?_
    refine d_off rfl rfl ?_
    refine d_off rfl rfl ?_
    refine d_off rfl rfl ?_
    refine d_off rfl rfl ?_
    refine d_off rfl rfl ?_
    refine d_off rfl rfl ?_
    refine d_off rfl rfl ?_
    refine d_off rfl rfl ?_
    refine d_q rfl rfl rfl rfl rfl ?_
    refine v_pick_t (v := .v (.bool true)) rfl rfl ?_
    refine v_nil ?_
    refine d_nil ?_
    refine q_n ?_
    refine w_t rfl ?_
    refine w_seq ?_
    refine w_reg rfl ?_
    refine v_move rfl ?_
    refine v_move rfl ?_
    refine v_assign rfl ?_
    refine v_assign rfl ?_
    refine v_assign (c := .v (.bool false)) rfl ?_
    refine v_nil ?_
    refine q_n ?_
    refine w_ret (q_br (q_r (q_r (q_br (q_r ?_)))))
    refine r_r rfl ?_
    have he : ends t.2.2.2.1.length t.2.2.1 (List.replicate t.1.length false) (List.replicate t.1.length false) = ((usd t.2.2.1[i].2.1 a).2, (usd t.2.2.1[i].2.2.1 b).2, false) := by
      rw [← hp]
      exact ends_2 hi1 ⟨hjn, by omega, by omega⟩ hu1 hu2
    rw [he]
    exact a_tup (.cons (a_flat2 bo_sc bo_len rfl rfl (by rw [usd_len]; exact ha.symm) (by rw [usd_len]; exact ha)) (.cons (a_flat2 bo_sc bo_len rfl rfl (by rw [usd_len]; exact hb.symm) (by rw [usd_len]; exact hb)) (.cons tr_v .nil)))
  refine d_id ?_
  have hu2 := h7
  refine d_det (H' := [_, _]) (usd1 (by have := hB.2.2.2.1 _ (List.getElem_mem hi1); omega) hb (by have := hB.1; omega) h7) rfl rfl rfl rfl again_nil ?_
  refine d_q rfl rfl rfl rfl rfl ?_
  refine v_not false rfl rfl ?_
  refine v_nil ?_
  refine d_q rfl rfl rfl rfl rfl ?_
  refine v_pick_f rfl rfl ?_
  refine v_nil ?_
  refine d_q rfl rfl rfl rfl rfl ?_
  refine v_move rfl ?_
  refine v_nil ?_
  refine d_q rfl rfl rfl rfl rfl ?_
  refine v_move rfl ?_
  refine v_nil ?_
  refine d_q rfl rfl rfl rfl rfl ?_
  refine v_nil_vw rfl ?_
  refine v_nil ?_
  refine d_q rfl rfl rfl rfl rfl ?_
  refine v_fa_vw (off' := 24) lay56 rfl rfl rfl ?_
  refine v_nil ?_
  refine d_q rfl rfl rfl rfl rfl ?_
  refine v_load_vw (.c (.v _)) lay2 rfl rfl rfl ?_
  refine v_nil ?_
  refine d_q rfl rfl rfl rfl rfl ?_
  refine v_move rfl ?_
  refine v_nil ?_
  refine d_q rfl rfl rfl rfl rfl ?_
  refine v_nil_vw rfl ?_
  refine v_nil ?_
  refine d_q rfl rfl rfl rfl rfl ?_
  refine v_fa_vw (off' := 3) lay35 rfl rfl rfl ?_
  refine v_nil ?_
  refine d_q rfl rfl rfl rfl rfl ?_
  refine v_load_vw (.c (_)) lay33 rfl rfl rfl ?_
  refine v_nil ?_
  refine d_q rfl rfl rfl rfl rfl ?_
  refine v_len_sl lay33 rfl ?_
  refine v_nil ?_
  refine d_q rfl rfl rfl rfl rfl ?_
  refine v_sub lay2 rfl rfl (i64r (by have q1 := hB.2.2.2.2.1; have q2 := hB.2.2.1; omega)) ?_
  refine v_nil ?_
  refine d_callb (cIn _ _ _) rfl rfl rfl rfl (.cons vw_v (.cons vw_v (.cons vw_v .nil))) (fun h8 => ?_) (fun h8 => ?_)
  · have hpl := h8
    refine d_q rfl rfl rfl rfl rfl ?_
    refine v_not false rfl rfl ?_
    refine v_nil ?_
    refine d_q rfl rfl rfl rfl rfl ?_
    refine v_pick_f rfl rfl ?_
    refine v_nil ?_
    refine d_nil ?_
    refine q_n ?_
    refine w_f rfl ?_
    refine w_skip ?_
    refine q_bn ?_
    refine q_n ?_
    refine w_reg rfl ?_
    refine v_move rfl ?_
    refine v_add lay3 rfl rfl (i64r (by have q1 := hB.2.2.2.2.1; have q2 := hB.2.2.1; omega)) ?_
    refine v_assign rfl ?_
    refine v_nil ?_
    refine q_n ?_
    rw [ends_4 hi1 ⟨hjn, by omega, by omega⟩ hu1 hu2 hpl] at hp
    refine ⟨_, _, _, ?_, ⟨i + 1, _, _, rfl, by omega, hp, by rw [usd_len]; exact ha, by rw [usd_len]; exact hb, rfl, rfl⟩, by omega⟩
    exact turn [some 0, some 1] rfl rfl rfl ⟨⟨_, rfl, trc_flat bo_sc rfl⟩, ⟨_, rfl, trc_flat bo_sc rfl⟩, trivial⟩ ⟨tr_vw, tr_mu rfl, tr_mu rfl, tr_v, trivial⟩
  have hpl := h8
  refine d_q rfl rfl rfl rfl rfl ?_
  refine v_not true rfl rfl ?_
  refine v_nil ?_
  refine d_q rfl rfl rfl rfl rfl ?_
  refine v_pick_f rfl rfl ?_
  refine v_nil ?_
  refine d_nil ?_
  refine q_n ?_
  refine w_t rfl ?_
  refine w_seq ?_
  refine w_reg rfl ?_
  refine v_move rfl ?_
  refine v_move rfl ?_
  refine v_assign rfl ?_
  refine v_assign rfl ?_
  refine v_assign (c := .v (.bool false)) rfl ?_
  refine v_nil ?_
  refine q_n ?_
  refine w_ret (q_br (q_r (q_r (q_br (q_r ?_)))))
  refine r_r rfl ?_
  have he : ends t.2.2.2.1.length t.2.2.1 (List.replicate t.1.length false) (List.replicate t.1.length false) = ((usd t.2.2.1[i].2.1 a).2, (usd t.2.2.1[i].2.2.1 b).2, false) := by
    rw [← hp]
    exact ends_3 hi1 ⟨hjn, by omega, by omega⟩ hu1 hu2 hpl
  rw [he]
  exact a_tup (.cons (a_flat2 bo_sc bo_len rfl rfl (by rw [usd_len]; exact ha.symm) (by rw [usd_len]; exact ha)) (.cons (a_flat2 bo_sc bo_len rfl rfl (by rw [usd_len]; exact hb.symm) (by rw [usd_len]; exact hb)) (.cons tr_v .nil)))
end Go.VL
namespace Go.VL
open Go.RowKit
set_option maxRecDepth 20000
set_option maxHeartbeats 8000000
/-- What the joints of a town tell. -/
abbrev endT (t : Tw) : List Bool × List Bool × Bool := ends t.2.2.2.1.length t.2.2.1 (List.replicate t.1.length false) (List.replicate t.1.length false)
/-- A road of a town, and what is offered to it. -/
def rOkT (t : Tw) (i : Nat) : Prop := roadOk (t.1.getD i zR) ∧ amtB (t.2.1.getD i none) = true ∧ ((endT t).2.1.getD i false = true → feq (t.2.1.getD i none))
instance (t : Tw) (i : Nat) : Decidable (rOkT t i) := by unfold rOkT; infer_instance
def tBnd (t : Tw) : Prop := (1 ≤ (t.1.length : Int) ∧ (t.1.length : Int) ≤ 8) ∧ t.2.1.length = t.1.length ∧ t.2.2.1.length ≤ 4 ∧ t.2.2.2.1.length ≤ 6
instance (t : Tw) : Decidable (tBnd t) := by unfold tBnd; infer_instance
/-- A town that is valid, as the reference looks at it. -/
def townOk (t : Tw) : Prop := tBnd t ∧ ((endT t).2.2 = true ∧ (∀ i, i < t.1.length → rOkT t i) ∧ ∀ p ∈ t.2.2.2.1, okP p.1 p.2.1 p.2.2) ∧ (0 ≤ t.2.2.2.2.1 ∧ t.2.2.2.2.1 ≤ 1000000000) ∧ amtB t.2.2.2.2.2.1 = true ∧ amtB t.2.2.2.2.2.2 = true
instance (t : Tw) : Decidable (townOk t) := by unfold townOk; infer_instance
theorem ends_len {np : Nat} : ∀ {js : List Jo} {a b : List Bool}, (ends np js a b).2.1.length = b.length
  | [], a, b => rfl
  | j :: r, a, b => by
    unfold ends
    split
    · split
      · split
        · split
          · rw [ends_len, usd_len]
          · exact usd_len
        · exact usd_len
      · rfl
    · rfl
theorem endT_len (t : Tw) : (endT t).2.1.length = t.1.length := by rw [ends_len, List.length_replicate]
theorem gd {α : Type} {xs : List α} {i : Nat} {d : α} (h : i < xs.length) : xs.getD i d = xs[i] := by
  rw [List.getD_eq_getElem?_getD, List.getElem?_eq_getElem h]
  rfl
theorem rok_of {t : Tw} {i : Nat} (h1 : i < t.1.length) (h2 : i < t.2.1.length) (h3 : i < (endT t).2.1.length) (ha : roadOk t.1[i]) (hb : amtB t.2.1[i] = true) (hc : (endT t).2.1[i] = true → feq t.2.1[i]) : rOkT t i := by
  unfold rOkT
  rw [gd h1, gd h2, gd h3]
  exact ⟨ha, hb, hc⟩
theorem rok_no {t : Tw} {i : Nat} (h1 : i < t.1.length) (h2 : i < t.2.1.length) (h3 : i < (endT t).2.1.length) (h : ¬ (roadOk t.1[i] ∧ amtB t.2.1[i] = true ∧ ((endT t).2.1[i] = true → feq t.2.1[i]))) : ¬ townOk t := fun ho => by
  have := ho.2.1.2.1 i h1
  unfold rOkT at this
  rw [gd h1, gd h2, gd h3] at this
  exact h this
theorem cTwS (t : Tw) (hB : tB (2 ^ 20) t) (hF : tF t) : PureC X 43 [.c (.vw false (twf true t) 0)] (cB (decide (townOk t))) := by
  refine PureC.of_body (drawD_ok X) (fun _ _ => Go.Proofs.Tryz.call43 _ _) Go.Proofs.Tryz.func43 rfl (n := 137) rfl ?_
  refine w_seq ?_
  refine w_reg rfl ?_
  refine v_assign (c := .v (.bool false)) rfl ?_
  refine v_nil ?_
  refine q_n ?_
  refine w_seq ?_
  refine w_seq ?_
  refine w_draw [0, 1, 3, 7, 15, 31, 63, 127, 255, 511, 1023, 2047, 4095, 255, 8447, 24831, 57599, 123135, 262143, 524287, 1048575, 2097151, 4194303, 8388607, 16777215, 33554431, 67108863, 134217727, 268435455, 536870911, 1073741823, 2147483647, 4294967295, 8589934591, 17179869183, 34359738367] [⟨0, 0, []⟩, ⟨1, 0, []⟩, ⟨2, 0, []⟩, ⟨3, 0, []⟩, ⟨4, 0, []⟩, ⟨5, 0, []⟩, ⟨6, 0, []⟩, ⟨7, 0, []⟩, ⟨8, 0, []⟩, ⟨9, 0, []⟩, ⟨10, 0, []⟩, ⟨11, 0, []⟩, ⟨12, 0, []⟩, ⟨13, 0, []⟩, ⟨14, 0, []⟩, ⟨15, 0, []⟩, ⟨16, 0, []⟩, ⟨17, 0, []⟩, ⟨18, 0, []⟩, ⟨19, 0, []⟩, ⟨20, 0, []⟩, ⟨21, 0, []⟩, ⟨22, 0, []⟩, ⟨23, 0, []⟩, ⟨24, 0, []⟩, ⟨25, 0, []⟩, ⟨26, 0, []⟩, ⟨27, 0, []⟩, ⟨28, 0, []⟩, ⟨29, 0, []⟩, ⟨30, 0, []⟩, ⟨31, 0, []⟩, ⟨32, 0, []⟩, ⟨33, 0, []⟩, ⟨34, 0, []⟩, ⟨35, 0, []⟩] rfl rfl ?_
  refine d_q rfl rfl rfl rfl rfl ?_
  refine v_move rfl ?_
  refine v_nil ?_
  refine d_q rfl rfl rfl rfl rfl ?_
  refine v_nil_vw rfl ?_
  refine v_nil ?_
  refine d_q rfl rfl rfl rfl rfl ?_
  refine v_fa_vw (off' := 0) lay35 rfl rfl rfl ?_
  refine v_nil ?_
  refine d_q rfl rfl rfl rfl rfl ?_
  refine v_load_vw (.c (_)) lay31 rfl rfl rfl ?_
  refine v_nil ?_
  refine d_q rfl rfl rfl rfl rfl ?_
  refine v_len_sl lay31 rfl ?_
  refine v_nil ?_
  refine d_callb (cIn _ _ _) rfl rfl rfl rfl (.cons vw_v (.cons vw_v (.cons vw_v .nil))) (fun h1 => ?_) (fun h1 => ?_)
  rotate_left
  · have hbn : ¬ tBnd t := fun hb => by unfold tBnd at hb; omega
    refine d_q rfl rfl rfl rfl rfl ?_
    refine v_not true rfl rfl ?_
    refine v_nil ?_
    refine d_q rfl rfl rfl rfl rfl ?_
    refine v_move rfl ?_
    refine v_nil ?_
    refine d_off rfl rfl ?_
    refine d_off rfl rfl ?_
    refine d_off rfl rfl ?_
    refine d_off rfl rfl ?_
    refine d_off rfl rfl ?_
    refine d_off rfl rfl ?_
    refine d_off rfl rfl ?_
    refine d_off rfl rfl ?_
    refine d_off rfl rfl ?_
    refine d_off rfl rfl ?_
    refine d_off rfl rfl ?_
    refine d_q rfl rfl rfl rfl rfl ?_
    refine v_pick_t (v := .v (.bool true)) rfl rfl ?_
    refine v_nil ?_
    refine d_q rfl rfl rfl rfl rfl ?_
    refine v_move rfl ?_
    refine v_nil ?_
    refine d_off rfl rfl ?_
    refine d_off rfl rfl ?_
    refine d_off rfl rfl ?_
    refine d_off rfl rfl ?_
    refine d_off rfl rfl ?_
    refine d_off rfl rfl ?_
    refine d_q rfl rfl rfl rfl rfl ?_
    refine v_pick_t (v := .v (.bool true)) rfl rfl ?_
    refine v_nil ?_
    refine d_q rfl rfl rfl rfl rfl ?_
    refine v_move rfl ?_
    refine v_nil ?_
    refine d_off rfl rfl ?_
    refine d_off rfl rfl ?_
    refine d_off rfl rfl ?_
    refine d_off rfl rfl ?_
    refine d_off rfl rfl ?_
    refine d_off rfl rfl ?_
    refine d_q rfl rfl rfl rfl rfl ?_
    refine v_pick_t (v := .v (.bool true)) rfl rfl ?_
    refine v_nil ?_
    refine d_nil ?_
    refine q_n ?_
    refine w_t rfl ?_
    refine w_seq ?_
    refine w_reg rfl ?_
    refine v_assign (c := .v (.bool false)) rfl ?_
    refine v_nil ?_
    refine q_n ?_
    refine w_ret (q_r ?_)
    refine r_r rfl ?_
    exact a_b (by simp only [Bool.false_eq_true, false_iff]; exact fun ho => hbn ho.1)
  refine d_q rfl rfl rfl rfl rfl ?_
  refine v_not false rfl rfl ?_
  refine v_nil ?_
  refine d_q rfl rfl rfl rfl rfl ?_
  refine v_move rfl ?_
  refine v_nil ?_
  refine d_q rfl rfl rfl rfl rfl ?_
  refine v_move rfl ?_
  refine v_nil ?_
  refine d_q rfl rfl rfl rfl rfl ?_
  refine v_nil_vw rfl ?_
  refine v_nil ?_
  refine d_q rfl rfl rfl rfl rfl ?_
  refine v_fa_vw (off' := 1) lay35 rfl rfl rfl ?_
  refine v_nil ?_
  refine d_q rfl rfl rfl rfl rfl ?_
  refine v_load_vw (.c (_)) lay23 rfl rfl rfl ?_
  refine v_nil ?_
  refine d_q rfl rfl rfl rfl rfl ?_
  refine v_len_sl lay23 rfl ?_
  refine v_nil ?_
  refine d_q rfl rfl rfl rfl rfl ?_
  refine v_move rfl ?_
  refine v_nil ?_
  refine d_q rfl rfl rfl rfl rfl ?_
  refine v_nil_vw rfl ?_
  refine v_nil ?_
  refine d_q rfl rfl rfl rfl rfl ?_
  refine v_fa_vw (off' := 0) lay35 rfl rfl rfl ?_
  refine v_nil ?_
  refine d_q rfl rfl rfl rfl rfl ?_
  refine v_load_vw (.c (_)) lay31 rfl rfl rfl ?_
  refine v_nil ?_
  refine d_q rfl rfl rfl rfl rfl ?_
  refine v_len_sl lay31 rfl ?_
  refine v_nil ?_
  refine d_q rfl rfl rfl rfl rfl ?_
  refine v_neq lay3 rfl rfl (fun h2 => ?_) (fun h2 => ?_)
  · have hbn : ¬ tBnd t := fun hb => by unfold tBnd at hb; omega
    refine v_nil ?_
    refine d_q rfl rfl rfl rfl rfl ?_
    refine v_pick_f rfl rfl ?_
    refine v_nil ?_
    refine d_q rfl rfl rfl rfl rfl ?_
    refine v_move rfl ?_
    refine v_nil ?_
    refine d_off rfl rfl ?_
    refine d_off rfl rfl ?_
    refine d_off rfl rfl ?_
    refine d_off rfl rfl ?_
    refine d_off rfl rfl ?_
    refine d_off rfl rfl ?_
    refine d_q rfl rfl rfl rfl rfl ?_
    refine v_pick_t (v := .v (.bool true)) rfl rfl ?_
    refine v_nil ?_
    refine d_q rfl rfl rfl rfl rfl ?_
    refine v_move rfl ?_
    refine v_nil ?_
    refine d_off rfl rfl ?_
    refine d_off rfl rfl ?_
    refine d_off rfl rfl ?_
    refine d_off rfl rfl ?_
    refine d_off rfl rfl ?_
    refine d_off rfl rfl ?_
    refine d_q rfl rfl rfl rfl rfl ?_
    refine v_pick_t (v := .v (.bool true)) rfl rfl ?_
    refine v_nil ?_
    refine d_nil ?_
    refine q_n ?_
    refine w_t rfl ?_
    refine w_seq ?_
    refine w_reg rfl ?_
    refine v_assign (c := .v (.bool false)) rfl ?_
    refine v_nil ?_
    refine q_n ?_
    refine w_ret (q_r ?_)
    refine r_r rfl ?_
    exact a_b (by simp only [Bool.false_eq_true, false_iff]; exact fun ho => hbn ho.1)
  refine v_nil ?_
  refine d_q rfl rfl rfl rfl rfl ?_
  refine v_pick_f rfl rfl ?_
  refine v_nil ?_
  refine d_q rfl rfl rfl rfl rfl ?_
  refine v_move rfl ?_
  refine v_nil ?_
  refine d_q rfl rfl rfl rfl rfl ?_
  refine v_move rfl ?_
  refine v_nil ?_
  refine d_q rfl rfl rfl rfl rfl ?_
  refine v_nil_vw rfl ?_
  refine v_nil ?_
  refine d_q rfl rfl rfl rfl rfl ?_
  refine v_fa_vw (off' := 2) lay35 rfl rfl rfl ?_
  refine v_nil ?_
  refine d_q rfl rfl rfl rfl rfl ?_
  refine v_load_vw (.c (_)) lay32 rfl rfl rfl ?_
  refine v_nil ?_
  refine d_q rfl rfl rfl rfl rfl ?_
  refine v_len_sl lay32 rfl ?_
  refine v_nil ?_
  refine d_q rfl rfl rfl rfl rfl ?_
  refine v_gtr lay3 rfl rfl (fun h3 => ?_) (fun h3 => ?_)
  · have hbn : ¬ tBnd t := fun hb => by unfold tBnd at hb; omega
    refine v_nil ?_
    refine d_q rfl rfl rfl rfl rfl ?_
    refine v_pick_f rfl rfl ?_
    refine v_nil ?_
    refine d_q rfl rfl rfl rfl rfl ?_
    refine v_move rfl ?_
    refine v_nil ?_
    refine d_off rfl rfl ?_
    refine d_off rfl rfl ?_
    refine d_off rfl rfl ?_
    refine d_off rfl rfl ?_
    refine d_off rfl rfl ?_
    refine d_off rfl rfl ?_
    refine d_q rfl rfl rfl rfl rfl ?_
    refine v_pick_t (v := .v (.bool true)) rfl rfl ?_
    refine v_nil ?_
    refine d_nil ?_
    refine q_n ?_
    refine w_t rfl ?_
    refine w_seq ?_
    refine w_reg rfl ?_
    refine v_assign (c := .v (.bool false)) rfl ?_
    refine v_nil ?_
    refine q_n ?_
    refine w_ret (q_r ?_)
    refine r_r rfl ?_
    exact a_b (by simp only [Bool.false_eq_true, false_iff]; exact fun ho => hbn ho.1)
  refine v_nil ?_
  refine d_q rfl rfl rfl rfl rfl ?_
  refine v_pick_f rfl rfl ?_
  refine v_nil ?_
  refine d_q rfl rfl rfl rfl rfl ?_
  refine v_move rfl ?_
  refine v_nil ?_
  refine d_q rfl rfl rfl rfl rfl ?_
  refine v_move rfl ?_
  refine v_nil ?_
  refine d_q rfl rfl rfl rfl rfl ?_
  refine v_nil_vw rfl ?_
  refine v_nil ?_
  refine d_q rfl rfl rfl rfl rfl ?_
  refine v_fa_vw (off' := 3) lay35 rfl rfl rfl ?_
  refine v_nil ?_
  refine d_q rfl rfl rfl rfl rfl ?_
  refine v_load_vw (.c (_)) lay33 rfl rfl rfl ?_
  refine v_nil ?_
  refine d_q rfl rfl rfl rfl rfl ?_
  refine v_len_sl lay33 rfl ?_
  refine v_nil ?_
  refine d_q rfl rfl rfl rfl rfl ?_
  refine v_gtr lay3 rfl rfl (fun h4 => ?_) (fun h4 => ?_)
  · have hbn : ¬ tBnd t := fun hb => by unfold tBnd at hb; omega
    refine v_nil ?_
    refine d_q rfl rfl rfl rfl rfl ?_
    refine v_pick_f rfl rfl ?_
    refine v_nil ?_
    refine d_nil ?_
    refine q_n ?_
    refine w_t rfl ?_
    refine w_seq ?_
    refine w_reg rfl ?_
    refine v_assign (c := .v (.bool false)) rfl ?_
    refine v_nil ?_
    refine q_n ?_
    refine w_ret (q_r ?_)
    refine r_r rfl ?_
    exact a_b (by simp only [Bool.false_eq_true, false_iff]; exact fun ho => hbn ho.1)
  have hbn : tBnd t := ⟨by omega, by omega, by omega, by omega⟩
  refine v_nil ?_
  refine d_q rfl rfl rfl rfl rfl ?_
  refine v_pick_f rfl rfl ?_
  refine v_nil ?_
  refine d_nil ?_
  refine q_n ?_
  refine w_f rfl ?_
  refine w_skip ?_
  refine q_n ?_
  refine w_seq ?_
  refine w_reg rfl ?_
  refine v_move rfl ?_
  refine v_call (cEnds t hB hF) rfl rfl rfl (.cons vw_vw .nil) ?_
  refine v_move_t rfl ?_
  refine v_extract_c rfl rfl ?_
  refine v_extract_c rfl rfl ?_
  refine v_extract_c rfl rfl ?_
  refine v_assign rfl ?_
  refine v_assign rfl ?_
  refine v_assign rfl ?_
  refine v_nil ?_
  refine q_n ?_
  refine w_seq ?_
  refine w_seq ?_
  refine w_reg rfl ?_
  refine v_assign (c := .v (.int .i64 0)) rfl ?_
  refine v_nil ?_
  refine q_n ?_
  refine w_block ?_
  refine w_loop (fun k sl H => ∃ (i : Nat) (acc : Bool), k = t.1.length - i ∧ i ≤ t.1.length ∧ (acc = true → (endT t).2.2 = true ∧ ∀ q, q < i → rOkT t q) ∧ (acc = false → ¬ townOk t) ∧ sl = sls [(0, .c (.vw false (twf true t) 0)), (4, .c (bls true (endT t).2.1)), (5, cB acc), (6, cI i)] ∧ H = []) ?_ ?_
  · refine ⟨_, _, _, ?_, 0, (endT t).2.2, rfl, Nat.zero_le _, fun h => ⟨h, fun q hq => by omega⟩, (fun h ho => by have := ho.2.1.1; rw [h] at this; cases this), rfl, rfl⟩
    exact turn0 ⟨tr_vw, tr_sl, tr_v, tr_v, trivial⟩
  rintro k sl H ⟨i, acc, rfl, hi, hA, hN, rfl, rfl⟩
  rcases acc with _ | _
  · skip
    refine w_seq ?_
    refine w_seq ?_
    refine w_reg rfl ?_
    refine v_move rfl ?_
    refine v_move rfl ?_
    refine v_nil_vw rfl ?_
    refine v_fa_vw (off' := 0) lay35 rfl rfl rfl ?_
    refine v_load_vw (.c (_)) lay31 rfl rfl rfl ?_
    refine v_len_sl lay31 rfl ?_
    refine v_lss lay3 rfl rfl (fun h5 => ?_) (fun h5 => ?_)
    rotate_left
    · refine v_move rfl ?_
      refine v_guard_off rfl rfl rfl ?_
      refine v_pick_f (v := .v (.bool false)) rfl rfl ?_
      refine v_nil ?_
      refine q_n ?_
      refine w_f rfl ?_
      refine w_exit ?_
      refine q_e ?_
      refine q_e ?_
      refine q_hit ?_
      refine q_n ?_
      refine w_seq ?_
      refine w_seq ?_
      refine w_reg rfl ?_
      refine v_assign (c := .v (.int .i64 0)) rfl ?_
      refine v_nil ?_
      refine q_n ?_
      refine w_block ?_
      refine w_loop (fun k sl H => ∃ (i : Nat) (acc : Bool), k = t.2.2.2.1.length - i ∧ i ≤ t.2.2.2.1.length ∧ (acc = true → ((endT t).2.2 = true ∧ ∀ q, q < t.1.length → rOkT t q) ∧ ∀ p ∈ t.2.2.2.1.take i, okP p.1 p.2.1 p.2.2) ∧ (acc = false → ¬ townOk t) ∧ sl = sls [(0, .c (.vw false (twf true t) 0)), (5, cB acc), (7, cI i)] ∧ H = []) ?_ ?_
      · refine ⟨_, _, _, ?_, 0, false, rfl, Nat.zero_le _, (fun h => by cases h), (fun _ => hN rfl), rfl, rfl⟩
        exact turn0 ⟨tr_vw, tr_v, tr_v, trivial⟩
      rintro k sl H ⟨i, acc, rfl, hi, hA, hN, rfl, rfl⟩
      rcases acc with _ | _
      · skip
        refine w_seq ?_
        refine w_seq ?_
        refine w_reg rfl ?_
        refine v_move rfl ?_
        refine v_move rfl ?_
        refine v_nil_vw rfl ?_
        refine v_fa_vw (off' := 3) lay35 rfl rfl rfl ?_
        refine v_load_vw (.c (_)) lay33 rfl rfl rfl ?_
        refine v_len_sl lay33 rfl ?_
        refine v_lss lay3 rfl rfl (fun h13 => ?_) (fun h13 => ?_)
        rotate_left
        · refine v_move rfl ?_
          refine v_guard_off rfl rfl rfl ?_
          refine v_pick_f (v := .v (.bool false)) rfl rfl ?_
          refine v_nil ?_
          refine q_n ?_
          refine w_f rfl ?_
          refine w_exit ?_
          refine q_e ?_
          refine q_e ?_
          refine q_hit ?_
          refine q_n ?_
          refine w_seq ?_
          refine w_reg rfl ?_
          refine v_move rfl ?_
          refine v_move rfl ?_
          refine v_guard_off rfl rfl rfl ?_
          refine v_guard_off rfl rfl rfl ?_
          refine v_guard_off rfl rfl rfl ?_
          refine v_guard_off rfl rfl rfl ?_
          refine v_guard_off rfl rfl rfl ?_
          refine v_pick_f (v := .v (.bool false)) rfl rfl ?_
          refine v_move rfl ?_
          refine v_guard_off rfl rfl rfl ?_
          refine v_guard_off rfl rfl rfl ?_
          refine v_guard_off rfl rfl rfl ?_
          refine v_guard_off rfl rfl rfl ?_
          refine v_guard_off rfl rfl rfl ?_
          refine v_pick_f (v := .v (.bool false)) rfl rfl ?_
          refine v_move rfl ?_
          refine v_guard_off rfl rfl rfl ?_
          refine v_guard_off rfl rfl rfl ?_
          refine v_guard_off rfl rfl rfl ?_
          refine v_guard_off rfl rfl rfl ?_
          refine v_guard_off rfl rfl rfl ?_
          refine v_pick_f (v := .v (.bool false)) rfl rfl ?_
          refine v_assign rfl ?_
          refine v_nil ?_
          refine q_n ?_
          refine w_ret ?_
          refine r_r rfl ?_
          exact a_b (by simp only [Bool.false_eq_true, false_iff]; exact hN rfl)
        have hi1 : i < t.2.2.2.1.length := by omega
        refine v_move rfl ?_
        refine v_guard_on rfl rfl ?_
        refine v_move rfl ?_
        refine v_pick_t rfl rfl ?_
        refine v_nil ?_
        refine q_n ?_
        refine w_f rfl ?_
        refine w_exit ?_
        refine q_e ?_
        refine q_e ?_
        refine q_hit ?_
        refine q_n ?_
        refine w_seq ?_
        refine w_reg rfl ?_
        refine v_move rfl ?_
        refine v_move rfl ?_
        refine v_guard_off rfl rfl rfl ?_
        refine v_guard_off rfl rfl rfl ?_
        refine v_guard_off rfl rfl rfl ?_
        refine v_guard_off rfl rfl rfl ?_
        refine v_guard_off rfl rfl rfl ?_
        refine v_pick_f (v := .v (.bool false)) rfl rfl ?_
        refine v_move rfl ?_
        refine v_guard_off rfl rfl rfl ?_
        refine v_guard_off rfl rfl rfl ?_
        refine v_guard_off rfl rfl rfl ?_
        refine v_guard_off rfl rfl rfl ?_
        refine v_guard_off rfl rfl rfl ?_
        refine v_pick_f (v := .v (.bool false)) rfl rfl ?_
        refine v_move rfl ?_
        refine v_guard_off rfl rfl rfl ?_
        refine v_guard_off rfl rfl rfl ?_
        refine v_guard_off rfl rfl rfl ?_
        refine v_guard_off rfl rfl rfl ?_
        refine v_guard_off rfl rfl rfl ?_
        refine v_pick_f (v := .v (.bool false)) rfl rfl ?_
        refine v_assign rfl ?_
        refine v_nil ?_
        refine q_n ?_
        refine w_ret ?_
        refine r_r rfl ?_
        exact a_b (by simp only [Bool.false_eq_true, false_iff]; exact hN rfl)
      · skip
        refine w_seq ?_
        refine w_seq ?_
        refine w_reg rfl ?_
        refine v_move rfl ?_
        refine v_move rfl ?_
        refine v_nil_vw rfl ?_
        refine v_fa_vw (off' := 3) lay35 rfl rfl rfl ?_
        refine v_load_vw (.c (_)) lay33 rfl rfl rfl ?_
        refine v_len_sl lay33 rfl ?_
        refine v_lss lay3 rfl rfl (fun h14 => ?_) (fun h14 => ?_)
        · have hi1 : i < t.2.2.2.1.length := by omega
          refine v_move rfl ?_
          refine v_guard_on rfl rfl ?_
          refine v_move rfl ?_
          refine v_pick_t rfl rfl ?_
          refine v_nil ?_
          refine q_n ?_
          refine w_t rfl ?_
          refine w_skip ?_
          refine q_n ?_
          refine w_seq ?_
          refine w_block ?_
          refine w_reg rfl ?_
          refine v_move rfl ?_
          refine v_nil_vw rfl ?_
          refine v_fa_vw (off' := 3) lay35 rfl rfl rfl ?_
          refine v_load_vw (.c (_)) lay33 rfl rfl rfl ?_
          refine v_move rfl ?_
          refine v_idx_e (k := 3) (i) plc_len lay33 lay68 rfl rfl rfl (rfl) rfl (rfl) (hi1) ?_
          refine v_callb (cPlS _ _ _ (by have := hB.2.2.2.2.2 _ (List.getElem_mem hi1); omega)) rfl rfl (.cons vw_vw .nil) (fun h16 => ?_) (fun h16 => ?_)
          · have hpk := h16
            refine v_assign rfl ?_
            refine v_nil ?_
            refine q_bn ?_
            refine q_n ?_
            refine w_reg rfl ?_
            refine v_move rfl ?_
            refine v_add lay3 rfl rfl (i64r (by have q1 := hB.2.2.2.2.1; have q2 := hB.1; omega)) ?_
            refine v_assign rfl ?_
            refine v_nil ?_
            refine q_n ?_
            refine ⟨_, _, _, ?_, ⟨i + 1, true, rfl, by omega, fun _ => ⟨(hA rfl).1, all_step hi1 (hA rfl).2 hpk⟩, (fun h => by cases h), rfl, rfl⟩, by omega⟩
            exact turn0 ⟨tr_vw, tr_v, tr_v, trivial⟩
          have hpk := h16
          refine v_assign rfl ?_
          refine v_nil ?_
          refine q_bn ?_
          refine q_n ?_
          refine w_reg rfl ?_
          refine v_move rfl ?_
          refine v_add lay3 rfl rfl (i64r (by have q1 := hB.2.2.2.2.1; have q2 := hB.1; omega)) ?_
          refine v_assign rfl ?_
          refine v_nil ?_
          refine q_n ?_
          refine ⟨_, _, _, ?_, ⟨i + 1, false, rfl, by omega, (fun h => by cases h), fun _ ho => hpk (ho.2.1.2.2 _ (List.getElem_mem hi1)), rfl, rfl⟩, by omega⟩
          exact turn0 ⟨tr_vw, tr_v, tr_v, trivial⟩
        refine v_move rfl ?_
        refine v_guard_off rfl rfl rfl ?_
        refine v_pick_f (v := .v (.bool false)) rfl rfl ?_
        refine v_nil ?_
        refine q_n ?_
        refine w_f rfl ?_
        refine w_exit ?_
        refine q_e ?_
        refine q_e ?_
        refine q_hit ?_
        refine q_n ?_
        refine w_seq ?_
        refine w_reg rfl ?_
        refine v_move rfl ?_
        refine v_move rfl ?_
        refine v_guard_on rfl rfl ?_
        refine v_move rfl ?_
        refine v_guard_on rfl rfl ?_
        refine v_nil_vw rfl ?_
        refine v_guard_on rfl rfl ?_
        refine v_fa_vw (off' := 4) lay35 rfl rfl rfl ?_
        refine v_guard_on rfl rfl ?_
        refine v_load_vw (.c (.v _)) lay2 rfl rfl rfl ?_
        refine v_guard_on rfl rfl ?_
        refine v_callb (cIn _ _ _) rfl rfl (.cons vw_v (.cons vw_v (.cons vw_v .nil))) (fun h17 => ?_) (fun h17 => ?_)
        rotate_left
        · have htk := h17
          refine v_pick_t rfl rfl ?_
          refine v_move rfl ?_
          refine v_guard_off rfl rfl rfl ?_
          refine v_guard_off rfl rfl rfl ?_
          refine v_guard_off rfl rfl rfl ?_
          refine v_guard_off rfl rfl rfl ?_
          refine v_guard_off rfl rfl rfl ?_
          refine v_pick_f (v := .v (.bool false)) rfl rfl ?_
          refine v_move rfl ?_
          refine v_guard_off rfl rfl rfl ?_
          refine v_guard_off rfl rfl rfl ?_
          refine v_guard_off rfl rfl rfl ?_
          refine v_guard_off rfl rfl rfl ?_
          refine v_guard_off rfl rfl rfl ?_
          refine v_pick_f (v := .v (.bool false)) rfl rfl ?_
          refine v_assign rfl ?_
          refine v_nil ?_
          refine q_n ?_
          refine w_ret ?_
          refine r_r rfl ?_
          exact a_b (by simp only [Bool.false_eq_true, false_iff]; exact fun ho => htk ho.2.2.1)
        have htk := h17
        refine v_pick_t rfl rfl ?_
        refine v_move rfl ?_
        refine v_guard_on rfl rfl ?_
        refine v_move rfl ?_
        refine v_guard_on rfl rfl ?_
        refine v_nil_vw rfl ?_
        refine v_guard_on rfl rfl ?_
        refine v_fa_vw (off' := 5) lay35 rfl rfl rfl ?_
        refine v_guard_on rfl rfl ?_
        refine v_load_vw (.c (.f _ _)) lay26 rfl rfl rfl ?_
        refine v_guard_on rfl rfl ?_
        refine v_callb (cAmS _) rfl rfl (.cons vw_f .nil) (fun h18 => ?_) (fun h18 => ?_)
        rotate_left
        · have hca := h18
          refine v_pick_t rfl rfl ?_
          refine v_move rfl ?_
          refine v_guard_off rfl rfl rfl ?_
          refine v_guard_off rfl rfl rfl ?_
          refine v_guard_off rfl rfl rfl ?_
          refine v_guard_off rfl rfl rfl ?_
          refine v_guard_off rfl rfl rfl ?_
          refine v_pick_f (v := .v (.bool false)) rfl rfl ?_
          refine v_assign rfl ?_
          refine v_nil ?_
          refine q_n ?_
          refine w_ret ?_
          refine r_r rfl ?_
          exact a_b (by simp only [Bool.false_eq_true, false_iff]; exact fun ho => hca ho.2.2.2.1)
        have hca := h18
        refine v_pick_t rfl rfl ?_
        refine v_move rfl ?_
        refine v_guard_on rfl rfl ?_
        refine v_move rfl ?_
        refine v_guard_on rfl rfl ?_
        refine v_nil_vw rfl ?_
        refine v_guard_on rfl rfl ?_
        refine v_fa_vw (off' := 6) lay35 rfl rfl rfl ?_
        refine v_guard_on rfl rfl ?_
        refine v_load_vw (.c (.f _ _)) lay26 rfl rfl rfl ?_
        refine v_guard_on rfl rfl ?_
        refine v_callb (cAmS _) rfl rfl (.cons vw_f .nil) (fun h19 => ?_) (fun h19 => ?_)
        rotate_left
        · have hwe := h19
          refine v_pick_t rfl rfl ?_
          refine v_assign rfl ?_
          refine v_nil ?_
          refine q_n ?_
          refine w_ret ?_
          refine r_r rfl ?_
          exact a_b (by simp only [Bool.false_eq_true, false_iff]; exact fun ho => hwe ho.2.2.2.2)
        have hwe := h19
        refine v_pick_t rfl rfl ?_
        refine v_assign rfl ?_
        refine v_nil ?_
        refine q_n ?_
        refine w_ret ?_
        refine r_r rfl ?_
        obtain ⟨⟨q1, q2⟩, q3⟩ := hA rfl
        obtain rfl : i = t.2.2.2.1.length := by omega
        rw [List.take_length] at q3
        exact a_b (by simp only [true_iff]; exact ⟨hbn, ⟨q1, q2, q3⟩, htk, hca, hwe⟩)
    have i1 : i < t.1.length := by omega
    have hi1 := i1
    have i2 : i < t.2.1.length := by have := hbn.2.1; omega
    have i3 : i < (endT t).2.1.length := by rw [endT_len]; exact i1
    refine v_move rfl ?_
    refine v_guard_on rfl rfl ?_
    refine v_move rfl ?_
    refine v_pick_t rfl rfl ?_
    refine v_nil ?_
    refine q_n ?_
    refine w_f rfl ?_
    refine w_exit ?_
    refine q_e ?_
    refine q_e ?_
    refine q_hit ?_
    refine q_n ?_
    refine w_seq ?_
    refine w_seq ?_
    refine w_reg rfl ?_
    refine v_assign (c := .v (.int .i64 0)) rfl ?_
    refine v_nil ?_
    refine q_n ?_
    refine w_block ?_
    refine w_loop (fun k sl H => ∃ (i : Nat) (acc : Bool), k = t.2.2.2.1.length - i ∧ i ≤ t.2.2.2.1.length ∧ (acc = true → ((endT t).2.2 = true ∧ ∀ q, q < t.1.length → rOkT t q) ∧ ∀ p ∈ t.2.2.2.1.take i, okP p.1 p.2.1 p.2.2) ∧ (acc = false → ¬ townOk t) ∧ sl = sls [(0, .c (.vw false (twf true t) 0)), (5, cB acc), (7, cI i)] ∧ H = []) ?_ ?_
    · refine ⟨_, _, _, ?_, 0, false, rfl, Nat.zero_le _, (fun h => by cases h), (fun _ => hN rfl), rfl, rfl⟩
      exact turn0 ⟨tr_vw, tr_v, tr_v, trivial⟩
    rintro k sl H ⟨i, acc, rfl, hi, hA, hN, rfl, rfl⟩
    rcases acc with _ | _
    · skip
      refine w_seq ?_
      refine w_seq ?_
      refine w_reg rfl ?_
      refine v_move rfl ?_
      refine v_move rfl ?_
      refine v_nil_vw rfl ?_
      refine v_fa_vw (off' := 3) lay35 rfl rfl rfl ?_
      refine v_load_vw (.c (_)) lay33 rfl rfl rfl ?_
      refine v_len_sl lay33 rfl ?_
      refine v_lss lay3 rfl rfl (fun h6 => ?_) (fun h6 => ?_)
      rotate_left
      · refine v_move rfl ?_
        refine v_guard_off rfl rfl rfl ?_
        refine v_pick_f (v := .v (.bool false)) rfl rfl ?_
        refine v_nil ?_
        refine q_n ?_
        refine w_f rfl ?_
        refine w_exit ?_
        refine q_e ?_
        refine q_e ?_
        refine q_hit ?_
        refine q_n ?_
        refine w_seq ?_
        refine w_reg rfl ?_
        refine v_move rfl ?_
        refine v_move rfl ?_
        refine v_guard_off rfl rfl rfl ?_
        refine v_guard_off rfl rfl rfl ?_
        refine v_guard_off rfl rfl rfl ?_
        refine v_guard_off rfl rfl rfl ?_
        refine v_guard_off rfl rfl rfl ?_
        refine v_pick_f (v := .v (.bool false)) rfl rfl ?_
        refine v_move rfl ?_
        refine v_guard_off rfl rfl rfl ?_
        refine v_guard_off rfl rfl rfl ?_
        refine v_guard_off rfl rfl rfl ?_
        refine v_guard_off rfl rfl rfl ?_
        refine v_guard_off rfl rfl rfl ?_
        refine v_pick_f (v := .v (.bool false)) rfl rfl ?_
        refine v_move rfl ?_
        refine v_guard_off rfl rfl rfl ?_
        refine v_guard_off rfl rfl rfl ?_
        refine v_guard_off rfl rfl rfl ?_
        refine v_guard_off rfl rfl rfl ?_
        refine v_guard_off rfl rfl rfl ?_
        refine v_pick_f (v := .v (.bool false)) rfl rfl ?_
        refine v_assign rfl ?_
        refine v_nil ?_
        refine q_n ?_
        refine w_ret ?_
        refine r_r rfl ?_
        exact a_b (by simp only [Bool.false_eq_true, false_iff]; exact hN rfl)
      have hi1 : i < t.2.2.2.1.length := by omega
      refine v_move rfl ?_
      refine v_guard_on rfl rfl ?_
      refine v_move rfl ?_
      refine v_pick_t rfl rfl ?_
      refine v_nil ?_
      refine q_n ?_
      refine w_f rfl ?_
      refine w_exit ?_
      refine q_e ?_
      refine q_e ?_
      refine q_hit ?_
      refine q_n ?_
      refine w_seq ?_
      refine w_reg rfl ?_
      refine v_move rfl ?_
      refine v_move rfl ?_
      refine v_guard_off rfl rfl rfl ?_
      refine v_guard_off rfl rfl rfl ?_
      refine v_guard_off rfl rfl rfl ?_
      refine v_guard_off rfl rfl rfl ?_
      refine v_guard_off rfl rfl rfl ?_
      refine v_pick_f (v := .v (.bool false)) rfl rfl ?_
      refine v_move rfl ?_
      refine v_guard_off rfl rfl rfl ?_
      refine v_guard_off rfl rfl rfl ?_
      refine v_guard_off rfl rfl rfl ?_
      refine v_guard_off rfl rfl rfl ?_
      refine v_guard_off rfl rfl rfl ?_
      refine v_pick_f (v := .v (.bool false)) rfl rfl ?_
      refine v_move rfl ?_
      refine v_guard_off rfl rfl rfl ?_
      refine v_guard_off rfl rfl rfl ?_
      refine v_guard_off rfl rfl rfl ?_
      refine v_guard_off rfl rfl rfl ?_
      refine v_guard_off rfl rfl rfl ?_
      refine v_pick_f (v := .v (.bool false)) rfl rfl ?_
      refine v_assign rfl ?_
      refine v_nil ?_
      refine q_n ?_
      refine w_ret ?_
      refine r_r rfl ?_
      exact a_b (by simp only [Bool.false_eq_true, false_iff]; exact hN rfl)
    · skip
      refine w_seq ?_
      refine w_seq ?_
      refine w_reg rfl ?_
      refine v_move rfl ?_
      refine v_move rfl ?_
      refine v_nil_vw rfl ?_
      refine v_fa_vw (off' := 3) lay35 rfl rfl rfl ?_
      refine v_load_vw (.c (_)) lay33 rfl rfl rfl ?_
      refine v_len_sl lay33 rfl ?_
      refine v_lss lay3 rfl rfl (fun h7 => ?_) (fun h7 => ?_)
      · have hi1 : i < t.2.2.2.1.length := by omega
        refine v_move rfl ?_
        refine v_guard_on rfl rfl ?_
        refine v_move rfl ?_
        refine v_pick_t rfl rfl ?_
        refine v_nil ?_
        refine q_n ?_
        refine w_t rfl ?_
        refine w_skip ?_
        refine q_n ?_
        refine w_seq ?_
        refine w_block ?_
        refine w_reg rfl ?_
        refine v_move rfl ?_
        refine v_nil_vw rfl ?_
        refine v_fa_vw (off' := 3) lay35 rfl rfl rfl ?_
        refine v_load_vw (.c (_)) lay33 rfl rfl rfl ?_
        refine v_move rfl ?_
        refine v_idx_e (k := 3) (i) plc_len lay33 lay68 rfl rfl rfl (rfl) rfl (rfl) (hi1) ?_
        refine v_callb (cPlS _ _ _ (by have := hB.2.2.2.2.2 _ (List.getElem_mem hi1); omega)) rfl rfl (.cons vw_vw .nil) (fun h9 => ?_) (fun h9 => ?_)
        · have hpk := h9
          refine v_assign rfl ?_
          refine v_nil ?_
          refine q_bn ?_
          refine q_n ?_
          refine w_reg rfl ?_
          refine v_move rfl ?_
          refine v_add lay3 rfl rfl (i64r (by have q1 := hB.2.2.2.2.1; have q2 := hB.1; omega)) ?_
          refine v_assign rfl ?_
          refine v_nil ?_
          refine q_n ?_
          refine ⟨_, _, _, ?_, ⟨i + 1, true, rfl, by omega, fun _ => ⟨(hA rfl).1, all_step hi1 (hA rfl).2 hpk⟩, (fun h => by cases h), rfl, rfl⟩, by omega⟩
          exact turn0 ⟨tr_vw, tr_v, tr_v, trivial⟩
        have hpk := h9
        refine v_assign rfl ?_
        refine v_nil ?_
        refine q_bn ?_
        refine q_n ?_
        refine w_reg rfl ?_
        refine v_move rfl ?_
        refine v_add lay3 rfl rfl (i64r (by have q1 := hB.2.2.2.2.1; have q2 := hB.1; omega)) ?_
        refine v_assign rfl ?_
        refine v_nil ?_
        refine q_n ?_
        refine ⟨_, _, _, ?_, ⟨i + 1, false, rfl, by omega, (fun h => by cases h), fun _ ho => hpk (ho.2.1.2.2 _ (List.getElem_mem hi1)), rfl, rfl⟩, by omega⟩
        exact turn0 ⟨tr_vw, tr_v, tr_v, trivial⟩
      refine v_move rfl ?_
      refine v_guard_off rfl rfl rfl ?_
      refine v_pick_f (v := .v (.bool false)) rfl rfl ?_
      refine v_nil ?_
      refine q_n ?_
      refine w_f rfl ?_
      refine w_exit ?_
      refine q_e ?_
      refine q_e ?_
      refine q_hit ?_
      refine q_n ?_
      refine w_seq ?_
      refine w_reg rfl ?_
      refine v_move rfl ?_
      refine v_move rfl ?_
      refine v_guard_on rfl rfl ?_
      refine v_move rfl ?_
      refine v_guard_on rfl rfl ?_
      refine v_nil_vw rfl ?_
      refine v_guard_on rfl rfl ?_
      refine v_fa_vw (off' := 4) lay35 rfl rfl rfl ?_
      refine v_guard_on rfl rfl ?_
      refine v_load_vw (.c (.v _)) lay2 rfl rfl rfl ?_
      refine v_guard_on rfl rfl ?_
      refine v_callb (cIn _ _ _) rfl rfl (.cons vw_v (.cons vw_v (.cons vw_v .nil))) (fun h10 => ?_) (fun h10 => ?_)
      rotate_left
      · have htk := h10
        refine v_pick_t rfl rfl ?_
        refine v_move rfl ?_
        refine v_guard_off rfl rfl rfl ?_
        refine v_guard_off rfl rfl rfl ?_
        refine v_guard_off rfl rfl rfl ?_
        refine v_guard_off rfl rfl rfl ?_
        refine v_guard_off rfl rfl rfl ?_
        refine v_pick_f (v := .v (.bool false)) rfl rfl ?_
        refine v_move rfl ?_
        refine v_guard_off rfl rfl rfl ?_
        refine v_guard_off rfl rfl rfl ?_
        refine v_guard_off rfl rfl rfl ?_
        refine v_guard_off rfl rfl rfl ?_
        refine v_guard_off rfl rfl rfl ?_
        refine v_pick_f (v := .v (.bool false)) rfl rfl ?_
        refine v_assign rfl ?_
        refine v_nil ?_
        refine q_n ?_
        refine w_ret ?_
        refine r_r rfl ?_
        exact a_b (by simp only [Bool.false_eq_true, false_iff]; exact fun ho => htk ho.2.2.1)
      have htk := h10
      refine v_pick_t rfl rfl ?_
      refine v_move rfl ?_
      refine v_guard_on rfl rfl ?_
      refine v_move rfl ?_
      refine v_guard_on rfl rfl ?_
      refine v_nil_vw rfl ?_
      refine v_guard_on rfl rfl ?_
      refine v_fa_vw (off' := 5) lay35 rfl rfl rfl ?_
      refine v_guard_on rfl rfl ?_
      refine v_load_vw (.c (.f _ _)) lay26 rfl rfl rfl ?_
      refine v_guard_on rfl rfl ?_
      refine v_callb (cAmS _) rfl rfl (.cons vw_f .nil) (fun h11 => ?_) (fun h11 => ?_)
      rotate_left
      · have hca := h11
        refine v_pick_t rfl rfl ?_
        refine v_move rfl ?_
        refine v_guard_off rfl rfl rfl ?_
        refine v_guard_off rfl rfl rfl ?_
        refine v_guard_off rfl rfl rfl ?_
        refine v_guard_off rfl rfl rfl ?_
        refine v_guard_off rfl rfl rfl ?_
        refine v_pick_f (v := .v (.bool false)) rfl rfl ?_
        refine v_assign rfl ?_
        refine v_nil ?_
        refine q_n ?_
        refine w_ret ?_
        refine r_r rfl ?_
        exact a_b (by simp only [Bool.false_eq_true, false_iff]; exact fun ho => hca ho.2.2.2.1)
      have hca := h11
      refine v_pick_t rfl rfl ?_
      refine v_move rfl ?_
      refine v_guard_on rfl rfl ?_
      refine v_move rfl ?_
      refine v_guard_on rfl rfl ?_
      refine v_nil_vw rfl ?_
      refine v_guard_on rfl rfl ?_
      refine v_fa_vw (off' := 6) lay35 rfl rfl rfl ?_
      refine v_guard_on rfl rfl ?_
      refine v_load_vw (.c (.f _ _)) lay26 rfl rfl rfl ?_
      refine v_guard_on rfl rfl ?_
      refine v_callb (cAmS _) rfl rfl (.cons vw_f .nil) (fun h12 => ?_) (fun h12 => ?_)
      rotate_left
      · have hwe := h12
        refine v_pick_t rfl rfl ?_
        refine v_assign rfl ?_
        refine v_nil ?_
        refine q_n ?_
        refine w_ret ?_
        refine r_r rfl ?_
        exact a_b (by simp only [Bool.false_eq_true, false_iff]; exact fun ho => hwe ho.2.2.2.2)
      have hwe := h12
      refine v_pick_t rfl rfl ?_
      refine v_assign rfl ?_
      refine v_nil ?_
      refine q_n ?_
      refine w_ret ?_
      refine r_r rfl ?_
      obtain ⟨⟨q1, q2⟩, q3⟩ := hA rfl
      obtain rfl : i = t.2.2.2.1.length := by omega
      rw [List.take_length] at q3
      exact a_b (by simp only [true_iff]; exact ⟨hbn, ⟨q1, q2, q3⟩, htk, hca, hwe⟩)
  · skip
    refine w_seq ?_
    refine w_seq ?_
    refine w_reg rfl ?_
    refine v_move rfl ?_
    refine v_move rfl ?_
    refine v_nil_vw rfl ?_
    refine v_fa_vw (off' := 0) lay35 rfl rfl rfl ?_
    refine v_load_vw (.c (_)) lay31 rfl rfl rfl ?_
    refine v_len_sl lay31 rfl ?_
    refine v_lss lay3 rfl rfl (fun h20 => ?_) (fun h20 => ?_)
    · have i1 : i < t.1.length := by omega
      have hi1 := i1
      have i2 : i < t.2.1.length := by have := hbn.2.1; omega
      have i3 : i < (endT t).2.1.length := by rw [endT_len]; exact i1
      refine v_move rfl ?_
      refine v_guard_on rfl rfl ?_
      refine v_move rfl ?_
      refine v_pick_t rfl rfl ?_
      refine v_nil ?_
      refine q_n ?_
      refine w_t rfl ?_
      refine w_skip ?_
      refine q_n ?_
      refine w_seq ?_
      refine w_block ?_
      refine w_reg rfl ?_
      refine v_move rfl ?_
      refine v_nil_vw rfl ?_
      refine v_fa_vw (off' := 0) lay35 rfl rfl rfl ?_
      refine v_load_vw (.c (_)) lay31 rfl rfl rfl ?_
      refine v_move rfl ?_
      refine v_idx_e (k := 19) (i) rdc_len lay31 lay73 rfl rfl rfl (rfl) rfl (rfl) (i1) ?_
      refine v_callb (cRdS _ (hF.1 _ (List.getElem_mem hi1))) rfl rfl (.cons vw_vw .nil) (fun h22 => ?_) (fun h22 => ?_)
      rotate_left
      · have hro := h22
        refine v_move rfl ?_
        refine v_guard_off rfl rfl rfl ?_
        refine v_guard_off rfl rfl rfl ?_
        refine v_guard_off rfl rfl rfl ?_
        refine v_guard_off rfl rfl rfl ?_
        refine v_guard_off rfl rfl rfl ?_
        refine v_guard_off rfl rfl rfl ?_
        refine v_guard_off rfl rfl rfl ?_
        refine v_guard_off rfl rfl rfl ?_
        refine v_pick_f (v := .v (.bool false)) rfl rfl ?_
        refine v_move rfl ?_
        refine v_guard_off rfl rfl rfl ?_
        refine v_guard_off rfl rfl rfl ?_
        refine v_guard_off rfl rfl rfl ?_
        refine v_guard_off rfl rfl rfl ?_
        refine v_guard_off rfl rfl rfl ?_
        refine v_guard_off rfl rfl rfl ?_
        refine v_guard_un rfl rfl ?_
        refine v_guard_un rfl rfl ?_
        refine v_guard_un rfl rfl ?_
        refine v_guard_un rfl rfl ?_
        refine v_guard_un rfl rfl ?_
        refine v_guard_un rfl rfl ?_
        refine v_guard_un rfl rfl ?_
        refine v_guard_un rfl rfl ?_
        refine v_guard_off rfl rfl rfl ?_
        refine v_pick_f (v := .v (.bool false)) rfl rfl ?_
        refine v_assign rfl ?_
        refine v_nil ?_
        refine q_bn ?_
        refine q_n ?_
        refine w_reg rfl ?_
        refine v_move rfl ?_
        refine v_add lay3 rfl rfl (i64r (by have q1 := hB.2.2.2.2.1; have q2 := hB.1; omega)) ?_
        refine v_assign rfl ?_
        refine v_nil ?_
        refine q_n ?_
        refine ⟨_, _, _, ?_, ⟨i + 1, false, rfl, by omega, (fun h => by cases h), fun _ => rok_no i1 i2 i3 (fun h => by first | exact hro h.1 | exact ham h.2.1 | exact hfe (h.2.2 hou)), rfl, rfl⟩, by omega⟩
        exact turn0 ⟨tr_vw, tr_sl, tr_v, tr_v, trivial⟩
      have hro := h22
      refine v_move rfl ?_
      refine v_guard_on rfl rfl ?_
      refine v_move rfl ?_
      refine v_guard_on rfl rfl ?_
      refine v_nil_vw rfl ?_
      refine v_guard_on rfl rfl ?_
      refine v_fa_vw (off' := 1) lay35 rfl rfl rfl ?_
      refine v_guard_on rfl rfl ?_
      refine v_load_vw (.c (_)) lay23 rfl rfl rfl ?_
      refine v_guard_on rfl rfl ?_
      refine v_move rfl ?_
      refine v_guard_on rfl rfl ?_
      refine v_idx_e (k := 1) (i) fe_len lay23 lay26 rfl rfl rfl (rfl) rfl (rfl) (i2) ?_
      refine v_guard_on rfl rfl ?_
      refine v_load_vw (.c (.f _ _)) lay26 rfl rfl rfl ?_
      refine v_guard_on rfl rfl ?_
      refine v_callb (cAmS _) rfl rfl (.cons vw_f .nil) (fun h24 => ?_) (fun h24 => ?_)
      rotate_left
      · have ham := h24
        refine v_pick_t rfl rfl ?_
        refine v_move rfl ?_
        refine v_guard_off rfl rfl rfl ?_
        refine v_guard_off rfl rfl rfl ?_
        refine v_guard_off rfl rfl rfl ?_
        refine v_guard_off rfl rfl rfl ?_
        refine v_guard_off rfl rfl rfl ?_
        refine v_guard_off rfl rfl rfl ?_
        refine v_guard_un rfl rfl ?_
        refine v_guard_un rfl rfl ?_
        refine v_guard_un rfl rfl ?_
        refine v_guard_un rfl rfl ?_
        refine v_guard_un rfl rfl ?_
        refine v_guard_un rfl rfl ?_
        refine v_guard_un rfl rfl ?_
        refine v_guard_un rfl rfl ?_
        refine v_guard_off rfl rfl rfl ?_
        refine v_pick_f (v := .v (.bool false)) rfl rfl ?_
        refine v_assign rfl ?_
        refine v_nil ?_
        refine q_bn ?_
        refine q_n ?_
        refine w_reg rfl ?_
        refine v_move rfl ?_
        refine v_add lay3 rfl rfl (i64r (by have q1 := hB.2.2.2.2.1; have q2 := hB.1; omega)) ?_
        refine v_assign rfl ?_
        refine v_nil ?_
        refine q_n ?_
        refine ⟨_, _, _, ?_, ⟨i + 1, false, rfl, by omega, (fun h => by cases h), fun _ => rok_no i1 i2 i3 (fun h => by first | exact hro h.1 | exact ham h.2.1 | exact hfe (h.2.2 hou)), rfl, rfl⟩, by omega⟩
        exact turn0 ⟨tr_vw, tr_sl, tr_v, tr_v, trivial⟩
      have ham := h24
      refine v_pick_t rfl rfl ?_
      refine v_move rfl ?_
      refine v_guard_on rfl rfl ?_
      refine v_move rfl ?_
      refine v_guard_on rfl rfl ?_
      refine v_move rfl ?_
      refine v_guard_on rfl rfl ?_
      refine v_idx_e (k := 1) (i) bo_len lay147 lay4 rfl rfl rfl (rfl) rfl (rfl) (i3) ?_
      refine v_guard_on rfl rfl ?_
      refine v_load_vwb lay4 rfl rfl rfl (fun h26 => ?_) (fun h26 => ?_)
      rotate_left
      · have hou := h26
        refine v_guard_on rfl rfl ?_
        refine v_not true rfl rfl ?_
        refine v_guard_on rfl rfl ?_
        refine v_move rfl ?_
        refine v_guard_off rfl rfl rfl ?_
        refine v_guard_off rfl rfl rfl ?_
        refine v_guard_off rfl rfl rfl ?_
        refine v_guard_off rfl rfl rfl ?_
        refine v_guard_off rfl rfl rfl ?_
        refine v_guard_off rfl rfl rfl ?_
        refine v_guard_off rfl rfl rfl ?_
        refine v_guard_off rfl rfl rfl ?_
        refine v_guard_on rfl rfl ?_
        refine v_pick_t (v := .v (.bool true)) rfl rfl ?_
        refine v_pick_t rfl rfl ?_
        refine v_assign rfl ?_
        refine v_nil ?_
        refine q_bn ?_
        refine q_n ?_
        refine w_reg rfl ?_
        refine v_move rfl ?_
        refine v_add lay3 rfl rfl (i64r (by have q1 := hB.2.2.2.2.1; have q2 := hB.1; omega)) ?_
        refine v_assign rfl ?_
        refine v_nil ?_
        refine q_n ?_
        refine ⟨_, _, _, ?_, ⟨i + 1, true, rfl, by omega, fun _ => ⟨(hA rfl).1, fun q hq => ?_⟩, (fun h => by cases h), rfl, rfl⟩, by omega⟩
        · exact turn0 ⟨tr_vw, tr_sl, tr_v, tr_v, trivial⟩
        · rcases Nat.lt_or_eq_of_le (Nat.le_of_lt_succ hq) with h | rfl
          · exact (hA rfl).2 q h
          · exact rok_of i1 i2 i3 hro ham (fun h => by first | exact hfe | (rw [hou] at h; cases h))
      have hou := h26
      refine v_guard_on rfl rfl ?_
      refine v_not false rfl rfl ?_
      refine v_guard_on rfl rfl ?_
      refine v_move rfl ?_
      refine v_guard_on rfl rfl ?_
      refine v_move rfl ?_
      refine v_guard_on rfl rfl ?_
      refine v_nil_vw rfl ?_
      refine v_guard_on rfl rfl ?_
      refine v_fa_vw (off' := 1) lay35 rfl rfl rfl ?_
      refine v_guard_on rfl rfl ?_
      refine v_load_vw (.c (_)) lay23 rfl rfl rfl ?_
      refine v_guard_on rfl rfl ?_
      refine v_move rfl ?_
      refine v_guard_on rfl rfl ?_
      refine v_idx_e (k := 1) (i) fe_len lay23 lay26 rfl rfl rfl (rfl) rfl (rfl) (i2) ?_
      refine v_guard_on rfl rfl ?_
      refine v_load_vw (.c (.f _ _)) lay26 rfl rfl rfl ?_
      refine v_guard_on rfl rfl ?_
      refine v_binb lay26 rfl rfl rfl (fun h28 => ?_) (fun h28 => ?_)
      rotate_left
      · have hfe : ¬ feq t.2.1[i] := fun h => absurd (h28.symm.trans h) (by decide)
        refine v_guard_on rfl rfl ?_
        refine v_pick_f rfl rfl ?_
        refine v_pick_t rfl rfl ?_
        refine v_assign rfl ?_
        refine v_nil ?_
        refine q_bn ?_
        refine q_n ?_
        refine w_reg rfl ?_
        refine v_move rfl ?_
        refine v_add lay3 rfl rfl (i64r (by have q1 := hB.2.2.2.2.1; have q2 := hB.1; omega)) ?_
        refine v_assign rfl ?_
        refine v_nil ?_
        refine q_n ?_
        refine ⟨_, _, _, ?_, ⟨i + 1, false, rfl, by omega, (fun h => by cases h), fun _ => rok_no i1 i2 i3 (fun h => by first | exact hro h.1 | exact ham h.2.1 | exact hfe (h.2.2 hou)), rfl, rfl⟩, by omega⟩
        exact turn0 ⟨tr_vw, tr_sl, tr_v, tr_v, trivial⟩
      have hfe : feq t.2.1[i] := h28
      refine v_guard_on rfl rfl ?_
      refine v_pick_f rfl rfl ?_
      refine v_pick_t rfl rfl ?_
      refine v_assign rfl ?_
      refine v_nil ?_
      refine q_bn ?_
      refine q_n ?_
      refine w_reg rfl ?_
      refine v_move rfl ?_
      refine v_add lay3 rfl rfl (i64r (by have q1 := hB.2.2.2.2.1; have q2 := hB.1; omega)) ?_
      refine v_assign rfl ?_
      refine v_nil ?_
      refine q_n ?_
      refine ⟨_, _, _, ?_, ⟨i + 1, true, rfl, by omega, fun _ => ⟨(hA rfl).1, fun q hq => ?_⟩, (fun h => by cases h), rfl, rfl⟩, by omega⟩
      · exact turn0 ⟨tr_vw, tr_sl, tr_v, tr_v, trivial⟩
      · rcases Nat.lt_or_eq_of_le (Nat.le_of_lt_succ hq) with h | rfl
        · exact (hA rfl).2 q h
        · exact rok_of i1 i2 i3 hro ham (fun h => by first | exact hfe | (rw [hou] at h; cases h))
    refine v_move rfl ?_
    refine v_guard_off rfl rfl rfl ?_
    refine v_pick_f (v := .v (.bool false)) rfl rfl ?_
    refine v_nil ?_
    refine q_n ?_
    refine w_f rfl ?_
    refine w_exit ?_
    refine q_e ?_
    refine q_e ?_
    refine q_hit ?_
    refine q_n ?_
    refine w_seq ?_
    refine w_seq ?_
    refine w_reg rfl ?_
    refine v_assign (c := .v (.int .i64 0)) rfl ?_
    refine v_nil ?_
    refine q_n ?_
    refine w_block ?_
    refine w_loop (fun k sl H => ∃ (i : Nat) (acc : Bool), k = t.2.2.2.1.length - i ∧ i ≤ t.2.2.2.1.length ∧ (acc = true → ((endT t).2.2 = true ∧ ∀ q, q < t.1.length → rOkT t q) ∧ ∀ p ∈ t.2.2.2.1.take i, okP p.1 p.2.1 p.2.2) ∧ (acc = false → ¬ townOk t) ∧ sl = sls [(0, .c (.vw false (twf true t) 0)), (5, cB acc), (7, cI i)] ∧ H = []) ?_ ?_
    · refine ⟨_, _, _, ?_, 0, true, rfl, Nat.zero_le _, (fun _ => ⟨⟨(hA rfl).1, fun q hq => (hA rfl).2 q (by omega)⟩, by simp⟩), (fun h => by cases h), rfl, rfl⟩
      exact turn0 ⟨tr_vw, tr_v, tr_v, trivial⟩
    rintro k sl H ⟨i, acc, rfl, hi, hA, hN, rfl, rfl⟩
    rcases acc with _ | _
    · skip
      refine w_seq ?_
      refine w_seq ?_
      refine w_reg rfl ?_
      refine v_move rfl ?_
      refine v_move rfl ?_
      refine v_nil_vw rfl ?_
      refine v_fa_vw (off' := 3) lay35 rfl rfl rfl ?_
      refine v_load_vw (.c (_)) lay33 rfl rfl rfl ?_
      refine v_len_sl lay33 rfl ?_
      refine v_lss lay3 rfl rfl (fun h29 => ?_) (fun h29 => ?_)
      rotate_left
      · refine v_move rfl ?_
        refine v_guard_off rfl rfl rfl ?_
        refine v_pick_f (v := .v (.bool false)) rfl rfl ?_
        refine v_nil ?_
        refine q_n ?_
        refine w_f rfl ?_
        refine w_exit ?_
        refine q_e ?_
        refine q_e ?_
        refine q_hit ?_
        refine q_n ?_
        refine w_seq ?_
        refine w_reg rfl ?_
        refine v_move rfl ?_
        refine v_move rfl ?_
        refine v_guard_off rfl rfl rfl ?_
        refine v_guard_off rfl rfl rfl ?_
        refine v_guard_off rfl rfl rfl ?_
        refine v_guard_off rfl rfl rfl ?_
        refine v_guard_off rfl rfl rfl ?_
        refine v_pick_f (v := .v (.bool false)) rfl rfl ?_
        refine v_move rfl ?_
        refine v_guard_off rfl rfl rfl ?_
        refine v_guard_off rfl rfl rfl ?_
        refine v_guard_off rfl rfl rfl ?_
        refine v_guard_off rfl rfl rfl ?_
        refine v_guard_off rfl rfl rfl ?_
        refine v_pick_f (v := .v (.bool false)) rfl rfl ?_
        refine v_move rfl ?_
        refine v_guard_off rfl rfl rfl ?_
        refine v_guard_off rfl rfl rfl ?_
        refine v_guard_off rfl rfl rfl ?_
        refine v_guard_off rfl rfl rfl ?_
        refine v_guard_off rfl rfl rfl ?_
        refine v_pick_f (v := .v (.bool false)) rfl rfl ?_
        refine v_assign rfl ?_
        refine v_nil ?_
        refine q_n ?_
        refine w_ret ?_
        refine r_r rfl ?_
        exact a_b (by simp only [Bool.false_eq_true, false_iff]; exact hN rfl)
      have hi1 : i < t.2.2.2.1.length := by omega
      refine v_move rfl ?_
      refine v_guard_on rfl rfl ?_
      refine v_move rfl ?_
      refine v_pick_t rfl rfl ?_
      refine v_nil ?_
      refine q_n ?_
      refine w_f rfl ?_
      refine w_exit ?_
      refine q_e ?_
      refine q_e ?_
      refine q_hit ?_
      refine q_n ?_
      refine w_seq ?_
      refine w_reg rfl ?_
      refine v_move rfl ?_
      refine v_move rfl ?_
      refine v_guard_off rfl rfl rfl ?_
      refine v_guard_off rfl rfl rfl ?_
      refine v_guard_off rfl rfl rfl ?_
      refine v_guard_off rfl rfl rfl ?_
      refine v_guard_off rfl rfl rfl ?_
      refine v_pick_f (v := .v (.bool false)) rfl rfl ?_
      refine v_move rfl ?_
      refine v_guard_off rfl rfl rfl ?_
      refine v_guard_off rfl rfl rfl ?_
      refine v_guard_off rfl rfl rfl ?_
      refine v_guard_off rfl rfl rfl ?_
      refine v_guard_off rfl rfl rfl ?_
      refine v_pick_f (v := .v (.bool false)) rfl rfl ?_
      refine v_move rfl ?_
      refine v_guard_off rfl rfl rfl ?_
      refine v_guard_off rfl rfl rfl ?_
      refine v_guard_off rfl rfl rfl ?_
      refine v_guard_off rfl rfl rfl ?_
      refine v_guard_off rfl rfl rfl ?_
      refine v_pick_f (v := .v (.bool false)) rfl rfl ?_
      refine v_assign rfl ?_
      refine v_nil ?_
      refine q_n ?_
      refine w_ret ?_
      refine r_r rfl ?_
      exact a_b (by simp only [Bool.false_eq_true, false_iff]; exact hN rfl)
    · skip
      refine w_seq ?_
      refine w_seq ?_
      refine w_reg rfl ?_
      refine v_move rfl ?_
      refine v_move rfl ?_
      refine v_nil_vw rfl ?_
      refine v_fa_vw (off' := 3) lay35 rfl rfl rfl ?_
      refine v_load_vw (.c (_)) lay33 rfl rfl rfl ?_
      refine v_len_sl lay33 rfl ?_
      refine v_lss lay3 rfl rfl (fun h30 => ?_) (fun h30 => ?_)
      · have hi1 : i < t.2.2.2.1.length := by omega
        refine v_move rfl ?_
        refine v_guard_on rfl rfl ?_
        refine v_move rfl ?_
        refine v_pick_t rfl rfl ?_
        refine v_nil ?_
        refine q_n ?_
        refine w_t rfl ?_
        refine w_skip ?_
        refine q_n ?_
        refine w_seq ?_
        refine w_block ?_
        refine w_reg rfl ?_
        refine v_move rfl ?_
        refine v_nil_vw rfl ?_
        refine v_fa_vw (off' := 3) lay35 rfl rfl rfl ?_
        refine v_load_vw (.c (_)) lay33 rfl rfl rfl ?_
        refine v_move rfl ?_
        refine v_idx_e (k := 3) (i) plc_len lay33 lay68 rfl rfl rfl (rfl) rfl (rfl) (hi1) ?_
        refine v_callb (cPlS _ _ _ (by have := hB.2.2.2.2.2 _ (List.getElem_mem hi1); omega)) rfl rfl (.cons vw_vw .nil) (fun h32 => ?_) (fun h32 => ?_)
        · have hpk := h32
          refine v_assign rfl ?_
          refine v_nil ?_
          refine q_bn ?_
          refine q_n ?_
          refine w_reg rfl ?_
          refine v_move rfl ?_
          refine v_add lay3 rfl rfl (i64r (by have q1 := hB.2.2.2.2.1; have q2 := hB.1; omega)) ?_
          refine v_assign rfl ?_
          refine v_nil ?_
          refine q_n ?_
          refine ⟨_, _, _, ?_, ⟨i + 1, true, rfl, by omega, fun _ => ⟨(hA rfl).1, all_step hi1 (hA rfl).2 hpk⟩, (fun h => by cases h), rfl, rfl⟩, by omega⟩
          exact turn0 ⟨tr_vw, tr_v, tr_v, trivial⟩
        have hpk := h32
        refine v_assign rfl ?_
        refine v_nil ?_
        refine q_bn ?_
        refine q_n ?_
        refine w_reg rfl ?_
        refine v_move rfl ?_
        refine v_add lay3 rfl rfl (i64r (by have q1 := hB.2.2.2.2.1; have q2 := hB.1; omega)) ?_
        refine v_assign rfl ?_
        refine v_nil ?_
        refine q_n ?_
        refine ⟨_, _, _, ?_, ⟨i + 1, false, rfl, by omega, (fun h => by cases h), fun _ ho => hpk (ho.2.1.2.2 _ (List.getElem_mem hi1)), rfl, rfl⟩, by omega⟩
        exact turn0 ⟨tr_vw, tr_v, tr_v, trivial⟩
      refine v_move rfl ?_
      refine v_guard_off rfl rfl rfl ?_
      refine v_pick_f (v := .v (.bool false)) rfl rfl ?_
      refine v_nil ?_
      refine q_n ?_
      refine w_f rfl ?_
      refine w_exit ?_
      refine q_e ?_
      refine q_e ?_
      refine q_hit ?_
      refine q_n ?_
      refine w_seq ?_
      refine w_reg rfl ?_
      refine v_move rfl ?_
      refine v_move rfl ?_
      refine v_guard_on rfl rfl ?_
      refine v_move rfl ?_
      refine v_guard_on rfl rfl ?_
      refine v_nil_vw rfl ?_
      refine v_guard_on rfl rfl ?_
      refine v_fa_vw (off' := 4) lay35 rfl rfl rfl ?_
      refine v_guard_on rfl rfl ?_
      refine v_load_vw (.c (.v _)) lay2 rfl rfl rfl ?_
      refine v_guard_on rfl rfl ?_
      refine v_callb (cIn _ _ _) rfl rfl (.cons vw_v (.cons vw_v (.cons vw_v .nil))) (fun h33 => ?_) (fun h33 => ?_)
      rotate_left
      · have htk := h33
        refine v_pick_t rfl rfl ?_
        refine v_move rfl ?_
        refine v_guard_off rfl rfl rfl ?_
        refine v_guard_off rfl rfl rfl ?_
        refine v_guard_off rfl rfl rfl ?_
        refine v_guard_off rfl rfl rfl ?_
        refine v_guard_off rfl rfl rfl ?_
        refine v_pick_f (v := .v (.bool false)) rfl rfl ?_
        refine v_move rfl ?_
        refine v_guard_off rfl rfl rfl ?_
        refine v_guard_off rfl rfl rfl ?_
        refine v_guard_off rfl rfl rfl ?_
        refine v_guard_off rfl rfl rfl ?_
        refine v_guard_off rfl rfl rfl ?_
        refine v_pick_f (v := .v (.bool false)) rfl rfl ?_
        refine v_assign rfl ?_
        refine v_nil ?_
        refine q_n ?_
        refine w_ret ?_
        refine r_r rfl ?_
        exact a_b (by simp only [Bool.false_eq_true, false_iff]; exact fun ho => htk ho.2.2.1)
      have htk := h33
      refine v_pick_t rfl rfl ?_
      refine v_move rfl ?_
      refine v_guard_on rfl rfl ?_
      refine v_move rfl ?_
      refine v_guard_on rfl rfl ?_
      refine v_nil_vw rfl ?_
      refine v_guard_on rfl rfl ?_
      refine v_fa_vw (off' := 5) lay35 rfl rfl rfl ?_
      refine v_guard_on rfl rfl ?_
      refine v_load_vw (.c (.f _ _)) lay26 rfl rfl rfl ?_
      refine v_guard_on rfl rfl ?_
      refine v_callb (cAmS _) rfl rfl (.cons vw_f .nil) (fun h34 => ?_) (fun h34 => ?_)
      rotate_left
      · have hca := h34
        refine v_pick_t rfl rfl ?_
        refine v_move rfl ?_
        refine v_guard_off rfl rfl rfl ?_
        refine v_guard_off rfl rfl rfl ?_
        refine v_guard_off rfl rfl rfl ?_
        refine v_guard_off rfl rfl rfl ?_
        refine v_guard_off rfl rfl rfl ?_
        refine v_pick_f (v := .v (.bool false)) rfl rfl ?_
        refine v_assign rfl ?_
        refine v_nil ?_
        refine q_n ?_
        refine w_ret ?_
        refine r_r rfl ?_
        exact a_b (by simp only [Bool.false_eq_true, false_iff]; exact fun ho => hca ho.2.2.2.1)
      have hca := h34
      refine v_pick_t rfl rfl ?_
      refine v_move rfl ?_
      refine v_guard_on rfl rfl ?_
      refine v_move rfl ?_
      refine v_guard_on rfl rfl ?_
      refine v_nil_vw rfl ?_
      refine v_guard_on rfl rfl ?_
      refine v_fa_vw (off' := 6) lay35 rfl rfl rfl ?_
      refine v_guard_on rfl rfl ?_
      refine v_load_vw (.c (.f _ _)) lay26 rfl rfl rfl ?_
      refine v_guard_on rfl rfl ?_
      refine v_callb (cAmS _) rfl rfl (.cons vw_f .nil) (fun h35 => ?_) (fun h35 => ?_)
      rotate_left
      · have hwe := h35
        refine v_pick_t rfl rfl ?_
        refine v_assign rfl ?_
        refine v_nil ?_
        refine q_n ?_
        refine w_ret ?_
        refine r_r rfl ?_
        exact a_b (by simp only [Bool.false_eq_true, false_iff]; exact fun ho => hwe ho.2.2.2.2)
      have hwe := h35
      refine v_pick_t rfl rfl ?_
      refine v_assign rfl ?_
      refine v_nil ?_
      refine q_n ?_
      refine w_ret ?_
      refine r_r rfl ?_
      obtain ⟨⟨q1, q2⟩, q3⟩ := hA rfl
      obtain rfl : i = t.2.2.2.1.length := by omega
      rw [List.take_length] at q3
      exact a_b (by simp only [true_iff]; exact ⟨hbn, ⟨q1, q2, q3⟩, htk, hca, hwe⟩)
theorem cVtS (t : Tw) (hB : tB (2 ^ 20) t) (hF : tF t) : PureC X 12 [.agg (twf false t)] (cB (decide (townOk t))) := by
  refine PureC.of_body (drawD_ok X) (fun _ _ => Go.Proofs.Tryz.call12 _ _) Go.Proofs.Tryz.func12 rfl (n := 4) rfl ?_
  refine w_seq ?_
  refine w_reg rfl ?_
  refine v_box (m := 0) (H' := [_]) lay35 rfl rfl rfl ?_
  refine v_assign (c := .v (.bool false)) rfl ?_
  refine v_nil ?_
  refine q_n ?_
  refine w_seq ?_
  refine w_reg rfl ?_
  refine v_callb (cTwS _ (by assumption) (by assumption)) rfl rfl (.cons (vw_pt rfl (.cons (.sl (fun h => by cases h)) (.cons (.sl (fun h => by cases h)) (.cons (.sl (fun h => by cases h)) (.cons (.sl (fun h => by cases h)) (.cons .v (.cons .f (.cons .f .nil)))))))) .nil) (fun h1 => ?_) (fun h1 => ?_)
  · refine v_assign rfl ?_
    refine v_nil ?_
    refine q_n ?_
    refine w_ret ?_
    refine r_r rfl ?_
    exact a_b (by simp_all)
  refine v_assign rfl ?_
  refine v_nil ?_
  refine q_n ?_
  refine w_ret ?_
  refine r_r rfl ?_
  exact a_b (by simp_all)
end Go.VL
namespace Go.VL
open Go.RowKit
set_option maxRecDepth 20000
set_option maxHeartbeats 8000000
theorem cAR1 (r : Rd) (hr : rW r) : PureC X 108 [.agg (rdc r)] (cB (decide (¬ roadOk r))) := by
  refine PureC.of_body (drawD_ok X) (fun _ _ => Go.Proofs.Tryz.call108 _ _) Go.Proofs.Tryz.func108 rfl (n := 6) rfl ?_
  refine w_seq ?_
  refine w_reg rfl ?_
  refine v_box (m := 0) (H' := [_]) lay73 rfl rfl rfl ?_
  refine v_assign (c := .v (.bool false)) rfl ?_
  refine v_nil ?_
  refine q_n ?_
  refine w_seq ?_
  refine w_reg rfl ?_
  refine v_load_pt (.agg [_, _, _, _, _, _, _, _, _, _, _, _, _, _, _, _, _, _, _]) lay73 rfl rfl rfl rfl ?_
  refine v_callb (cRdI _ hr) rfl rfl (.cons (vw_agg (.cons vw_f (.cons vw_f (.cons vw_f (.cons vw_f (.cons vw_f (.cons vw_f (.cons vw_f (.cons vw_f (.cons vw_f (.cons vw_f (.cons vw_f (.cons vw_f (.cons vw_f (.cons vw_f (.cons vw_f (.cons vw_f (.cons vw_f (.cons vw_f (.cons vw_f .nil)))))))))))))))))))) .nil) (fun h1 => ?_) (fun h1 => ?_)
  rotate_left
  · refine v_not true rfl rfl ?_
    refine v_assign rfl ?_
    refine v_nil ?_
    refine q_n ?_
    refine w_ret ?_
    refine r_r rfl ?_
    exact a_b (by simp_all)
  refine v_not false rfl rfl ?_
  refine v_assign rfl ?_
  refine v_nil ?_
  refine q_n ?_
  refine w_ret ?_
  refine r_r rfl ?_
  exact a_b (by simp_all)
theorem cIFr (g : FuncId) (pr : Rd → Prop) [DecidablePred pr] (xs : List Rd) (hx : xs.length ≤ 2 ^ 40) (hF : ∀ x ∈ xs, PureC X g [.agg (rdc x)] (cB (decide (pr x)))) : PureC X 173 [.c (.sl false xs.length 19 (flat rdc xs)), .c (.fn g [])] (cI (fix pr xs)) := by
  refine PureC.of_body (drawD_ok X) (fun _ _ => Go.Proofs.Tryz.call173 _ _) Go.Proofs.Tryz.func173 rfl (n := 19) rfl ?_
  refine w_seq ?_
  refine w_reg rfl ?_
  refine v_assign (c := .v (.int .i64 0)) rfl ?_
  refine v_nil ?_
  refine q_n ?_
  refine w_seq ?_
  refine w_seq ?_
  refine w_reg rfl ?_
  refine v_move rfl ?_
  refine v_len_sl lay31 rfl ?_
  refine v_move (c := .v (.int .i64 0)) rfl ?_
  refine v_nil ?_
  refine q_n ?_
  refine w_block ?_
  refine w_loop (fun k sl H => ∃ i : Nat, k = xs.length - i ∧ i ≤ xs.length ∧ (∀ x ∈ xs.take i, ¬ pr x) ∧ sl = sls [(0, .c (.sl false xs.length 19 (flat rdc xs))), (1, .c (.fn g [])), (7, cI xs.length), (8, cI i)] ∧ H = []) ?_ ?_
  · refine ⟨_, _, _, ?_, 0, rfl, Nat.zero_le _, by simp, rfl, rfl⟩
    exact turn0 ⟨tr_sl, tr_fn0, tr_v, tr_v, trivial⟩
  rintro k sl H ⟨i, rfl, hi, hp, rfl, rfl⟩
  refine w_seq ?_
  refine w_reg rfl ?_
  refine v_lss lay3 rfl rfl (fun h1 => ?_) (fun h1 => ?_)
  rotate_left
  · refine v_nil ?_
    refine q_n ?_
    refine w_seq ?_
    refine w_f rfl ?_
    refine w_exit ?_
    refine q_e ?_
    refine q_e ?_
    refine q_hit ?_
    refine q_n ?_
    refine w_seq ?_
    refine w_reg rfl ?_
    refine v_assign (c := .v (.int .i64 (-1))) rfl ?_
    refine v_nil ?_
    refine q_n ?_
    refine w_ret ?_
    refine r_r rfl ?_
    obtain rfl : i = xs.length := by omega
    rw [List.take_length] at hp
    exact a_i (fix_none hp).symm
  have hj : i < xs.length := by omega
  refine v_nil ?_
  refine q_n ?_
  refine w_seq ?_
  refine w_t rfl ?_
  refine w_skip ?_
  refine q_n ?_
  refine w_seq ?_
  refine w_block ?_
  refine w_seq ?_
  refine w_reg rfl ?_
  refine v_move rfl ?_
  refine v_assign rfl ?_
  refine v_nil ?_
  refine q_n ?_
  refine w_seq ?_
  refine w_reg rfl ?_
  refine v_move rfl ?_
  refine v_move rfl ?_
  refine v_move rfl ?_
  refine v_idx_e (k := 19) (i) rdc_len lay31 lay73 rfl rfl rfl (rfl) rfl (rfl) ((by omega : i < xs.length)) ?_
  refine v_load_vw (.agg [.f _ _, .f _ _, .f _ _, .f _ _, .f _ _, .f _ _, .f _ _, .f _ _, .f _ _, .f _ _, .f _ _, .f _ _, .f _ _, .f _ _, .f _ _, .f _ _, .f _ _, .f _ _, .f _ _]) lay73 rfl rfl rfl ?_
  refine v_callb (hF _ (List.getElem_mem hj)) rfl rfl (.cons (vw_agg (.cons vw_f (.cons vw_f (.cons vw_f (.cons vw_f (.cons vw_f (.cons vw_f (.cons vw_f (.cons vw_f (.cons vw_f (.cons vw_f (.cons vw_f (.cons vw_f (.cons vw_f (.cons vw_f (.cons vw_f (.cons vw_f (.cons vw_f (.cons vw_f (.cons vw_f .nil)))))))))))))))))))) .nil) (fun h3 => ?_) (fun h3 => ?_)
  · refine v_nil ?_
    refine q_n ?_
    refine w_t rfl ?_
    refine w_seq ?_
    refine w_reg rfl ?_
    refine v_move rfl ?_
    refine v_assign rfl ?_
    refine v_nil ?_
    refine q_n ?_
    refine w_ret (q_br (q_r (q_r (q_br (q_r ?_)))))
    refine r_r rfl ?_
    exact a_i (fix_hit hj hp h3).symm
  refine v_nil ?_
  refine q_n ?_
  refine w_f rfl ?_
  refine w_skip ?_
  refine q_bn ?_
  refine q_n ?_
  refine w_reg rfl ?_
  refine v_add lay3 rfl rfl (i64r (by omega)) ?_
  refine v_move rfl ?_
  refine v_nil ?_
  refine q_n ?_
  refine ⟨_, _, _, ?_, ⟨i + 1, rfl, by omega, all_step hj hp h3, rfl, rfl⟩, by omega⟩
  exact turn0 ⟨tr_sl, tr_fn0, tr_v, tr_v, trivial⟩
theorem cCFr (g : FuncId) (pr : Rd → Prop) [DecidablePred pr] (xs : List Rd) (hx : xs.length ≤ 2 ^ 40) (hF : ∀ x ∈ xs, PureC X g [.agg (rdc x)] (cB (decide (pr x)))) : PureC X 107 [.c (.sl false xs.length 19 (flat rdc xs)), .c (.fn g [])] (cB (decide (∃ x ∈ xs, pr x))) := by
  refine PureC.of_body (drawD_ok X) (fun _ _ => Go.Proofs.Tryz.call107 _ _) Go.Proofs.Tryz.func107 rfl (n := 9) rfl ?_
  refine w_seq ?_
  refine w_reg rfl ?_
  refine v_assign (c := .v (.bool false)) rfl ?_
  refine v_nil ?_
  refine q_n ?_
  refine w_seq ?_
  refine w_reg rfl ?_
  refine v_move rfl ?_
  refine v_move rfl ?_
  refine v_call (cIFr _ _ _ hx hF) rfl rfl rfl (.cons vw_sl (.cons (vw_fn .nil) .nil)) ?_
  refine v_geq lay3 rfl rfl (fun h1 => ?_) (fun h1 => ?_)
  · refine v_assign rfl ?_
    refine v_nil ?_
    refine q_n ?_
    refine w_ret ?_
    refine r_r rfl ?_
    exact a_b (by simp only [true_iff]; exact (fix_ge _ _).1 h1)
  refine v_assign rfl ?_
  refine v_nil ?_
  refine q_n ?_
  refine w_ret ?_
  refine r_r rfl ?_
  exact a_b (by simp only [Bool.false_eq_true, false_iff]; exact fun h => h1 ((fix_ge _ _).2 h))
theorem cAR (rs : List Rd) (hx : rs.length ≤ 2 ^ 40) (hW : ∀ r ∈ rs, rW r) : PureC X 49 [.c (rds false rs)] (cB (decide (∀ r ∈ rs, roadOk r))) := by
  refine PureC.of_body (drawD_ok X) (fun _ _ => Go.Proofs.Tryz.call49 _ _) Go.Proofs.Tryz.func49 rfl (n := 6) rfl ?_
  refine w_seq ?_
  refine w_reg rfl ?_
  refine v_assign (c := .v (.bool false)) rfl ?_
  refine v_nil ?_
  refine q_n ?_
  refine w_seq ?_
  refine w_reg rfl ?_
  refine v_move rfl ?_
  refine v_callb (cCFr 108 (fun r => ¬ roadOk r) _ hx (fun r hr => cAR1 r (hW r hr))) rfl rfl (.cons vw_sl (.cons (vw_fn .nil) .nil)) (fun h1 => ?_) (fun h1 => ?_)
  rotate_left
  · refine v_not true rfl rfl ?_
    refine v_assign rfl ?_
    refine v_nil ?_
    refine q_n ?_
    refine w_ret ?_
    refine r_r rfl ?_
    exact a_b (by simp only [true_iff]; exact fun r hr => Decidable.byContradiction fun hn => h1 ⟨r, hr, hn⟩)
  refine v_not false rfl rfl ?_
  refine v_assign rfl ?_
  refine v_nil ?_
  refine q_n ?_
  refine w_ret ?_
  refine r_r rfl ?_
  exact a_b (by simp only [Bool.false_eq_true, false_iff]; exact fun h => by obtain ⟨r, hr, hn⟩ := h1; exact hn (h r hr))
theorem cVt1 (p : Pln) (hx : p.1.length ≤ 2 ^ 40) : PureC X 54 [.agg (plf p)] (cB (decide (¬ okP p.1 p.2.1 p.2.2))) := by
  refine PureC.of_body (drawD_ok X) (fun _ _ => Go.Proofs.Tryz.call54 _ _) Go.Proofs.Tryz.func54 rfl (n := 6) rfl ?_
  refine w_seq ?_
  refine w_reg rfl ?_
  refine v_box (m := 0) (H' := [_]) lay68 rfl rfl rfl ?_
  refine v_assign (c := .v (.bool false)) rfl ?_
  refine v_nil ?_
  refine q_n ?_
  refine w_seq ?_
  refine w_reg rfl ?_
  refine v_load_pt (.agg [_, _, _]) lay68 rfl rfl rfl rfl ?_
  refine v_callb (cPlI _ _ _ hx) rfl rfl (.cons (vw_agg (.cons vw_sl (.cons vw_v (.cons vw_v .nil)))) .nil) (fun h1 => ?_) (fun h1 => ?_)
  rotate_left
  · refine v_not true rfl rfl ?_
    refine v_assign rfl ?_
    refine v_nil ?_
    refine q_n ?_
    refine w_ret ?_
    refine r_r rfl ?_
    exact a_b (by simp_all)
  refine v_not false rfl rfl ?_
  refine v_assign rfl ?_
  refine v_nil ?_
  refine q_n ?_
  refine w_ret ?_
  refine r_r rfl ?_
  exact a_b (by simp_all)
theorem cIFp (g : FuncId) (pr : Pln → Prop) [DecidablePred pr] (xs : List Pln) (hx : xs.length ≤ 2 ^ 40) (hF : ∀ x ∈ xs, PureC X g [.agg (plf x)] (cB (decide (pr x)))) : PureC X 118 [.c (.sl false xs.length 3 (flat plc xs)), .c (.fn g [])] (cI (fix pr xs)) := by
  refine PureC.of_body (drawD_ok X) (fun _ _ => Go.Proofs.Tryz.call118 _ _) Go.Proofs.Tryz.func118 rfl (n := 19) rfl ?_
  refine w_seq ?_
  refine w_reg rfl ?_
  refine v_assign (c := .v (.int .i64 0)) rfl ?_
  refine v_nil ?_
  refine q_n ?_
  refine w_seq ?_
  refine w_seq ?_
  refine w_reg rfl ?_
  refine v_move rfl ?_
  refine v_len_sl lay33 rfl ?_
  refine v_move (c := .v (.int .i64 0)) rfl ?_
  refine v_nil ?_
  refine q_n ?_
  refine w_block ?_
  refine w_loop (fun k sl H => ∃ i : Nat, k = xs.length - i ∧ i ≤ xs.length ∧ (∀ x ∈ xs.take i, ¬ pr x) ∧ sl = sls [(0, .c (.sl false xs.length 3 (flat plc xs))), (1, .c (.fn g [])), (7, cI xs.length), (8, cI i)] ∧ H = []) ?_ ?_
  · refine ⟨_, _, _, ?_, 0, rfl, Nat.zero_le _, by simp, rfl, rfl⟩
    exact turn0 ⟨tr_sl, tr_fn0, tr_v, tr_v, trivial⟩
  rintro k sl H ⟨i, rfl, hi, hp, rfl, rfl⟩
  refine w_seq ?_
  refine w_reg rfl ?_
  refine v_lss lay3 rfl rfl (fun h1 => ?_) (fun h1 => ?_)
  rotate_left
  · refine v_nil ?_
    refine q_n ?_
    refine w_seq ?_
    refine w_f rfl ?_
    refine w_exit ?_
    refine q_e ?_
    refine q_e ?_
    refine q_hit ?_
    refine q_n ?_
    refine w_seq ?_
    refine w_reg rfl ?_
    refine v_assign (c := .v (.int .i64 (-1))) rfl ?_
    refine v_nil ?_
    refine q_n ?_
    refine w_ret ?_
    refine r_r rfl ?_
    obtain rfl : i = xs.length := by omega
    rw [List.take_length] at hp
    exact a_i (fix_none hp).symm
  have hj : i < xs.length := by omega
  refine v_nil ?_
  refine q_n ?_
  refine w_seq ?_
  refine w_t rfl ?_
  refine w_skip ?_
  refine q_n ?_
  refine w_seq ?_
  refine w_block ?_
  refine w_seq ?_
  refine w_reg rfl ?_
  refine v_move rfl ?_
  refine v_assign rfl ?_
  refine v_nil ?_
  refine q_n ?_
  refine w_seq ?_
  refine w_reg rfl ?_
  refine v_move rfl ?_
  refine v_move rfl ?_
  refine v_move rfl ?_
  refine v_idx_e (k := 3) (i) plc_len lay33 lay68 rfl rfl rfl (rfl) rfl (rfl) ((by omega : i < xs.length)) ?_
  refine v_load_vw (.agg [_, .v _, .v _]) lay68 rfl rfl rfl ?_
  refine v_callb (hF _ (List.getElem_mem hj)) rfl rfl (.cons (vw_agg (.cons vw_sl (.cons vw_v (.cons vw_v .nil)))) .nil) (fun h3 => ?_) (fun h3 => ?_)
  · refine v_nil ?_
    refine q_n ?_
    refine w_t rfl ?_
    refine w_seq ?_
    refine w_reg rfl ?_
    refine v_move rfl ?_
    refine v_assign rfl ?_
    refine v_nil ?_
    refine q_n ?_
    refine w_ret (q_br (q_r (q_r (q_br (q_r ?_)))))
    refine r_r rfl ?_
    exact a_i (fix_hit hj hp h3).symm
  refine v_nil ?_
  refine q_n ?_
  refine w_f rfl ?_
  refine w_skip ?_
  refine q_bn ?_
  refine q_n ?_
  refine w_reg rfl ?_
  refine v_add lay3 rfl rfl (i64r (by omega)) ?_
  refine v_move rfl ?_
  refine v_nil ?_
  refine q_n ?_
  refine ⟨_, _, _, ?_, ⟨i + 1, rfl, by omega, all_step hj hp h3, rfl, rfl⟩, by omega⟩
  exact turn0 ⟨tr_sl, tr_fn0, tr_v, tr_v, trivial⟩
theorem cCFp (g : FuncId) (pr : Pln → Prop) [DecidablePred pr] (xs : List Pln) (hx : xs.length ≤ 2 ^ 40) (hF : ∀ x ∈ xs, PureC X g [.agg (plf x)] (cB (decide (pr x)))) : PureC X 53 [.c (.sl false xs.length 3 (flat plc xs)), .c (.fn g [])] (cB (decide (∃ x ∈ xs, pr x))) := by
  refine PureC.of_body (drawD_ok X) (fun _ _ => Go.Proofs.Tryz.call53 _ _) Go.Proofs.Tryz.func53 rfl (n := 9) rfl ?_
  refine w_seq ?_
  refine w_reg rfl ?_
  refine v_assign (c := .v (.bool false)) rfl ?_
  refine v_nil ?_
  refine q_n ?_
  refine w_seq ?_
  refine w_reg rfl ?_
  refine v_move rfl ?_
  refine v_move rfl ?_
  refine v_call (cIFp _ _ _ hx hF) rfl rfl rfl (.cons vw_sl (.cons (vw_fn .nil) .nil)) ?_
  refine v_geq lay3 rfl rfl (fun h1 => ?_) (fun h1 => ?_)
  · refine v_assign rfl ?_
    refine v_nil ?_
    refine q_n ?_
    refine w_ret ?_
    refine r_r rfl ?_
    exact a_b (by simp only [true_iff]; exact (fix_ge _ _).1 h1)
  refine v_assign rfl ?_
  refine v_nil ?_
  refine q_n ?_
  refine w_ret ?_
  refine r_r rfl ?_
  exact a_b (by simp only [Bool.false_eq_true, false_iff]; exact fun h => h1 ((fix_ge _ _).2 h))
theorem cAA1 (x : Option Nat) (hx : Sg x) : PureC X 123 [.c (.f .f32 x)] (cB (decide (¬ amtB x = true))) := by
  refine PureC.of_body (drawD_ok X) (fun _ _ => Go.Proofs.Tryz.call123 _ _) Go.Proofs.Tryz.func123 rfl (n := 6) rfl ?_
  refine w_seq ?_
  refine w_reg rfl ?_
  refine v_assign (c := .v (.bool false)) rfl ?_
  refine v_nil ?_
  refine q_n ?_
  refine w_seq ?_
  refine w_reg rfl ?_
  refine v_move rfl ?_
  refine v_callb (cAmI _ hx) rfl rfl (.cons vw_f .nil) (fun h1 => ?_) (fun h1 => ?_)
  rotate_left
  · refine v_not true rfl rfl ?_
    refine v_assign rfl ?_
    refine v_nil ?_
    refine q_n ?_
    refine w_ret ?_
    refine r_r rfl ?_
    exact a_b (by simp_all)
  refine v_not false rfl rfl ?_
  refine v_assign rfl ?_
  refine v_nil ?_
  refine q_n ?_
  refine w_ret ?_
  refine r_r rfl ?_
  exact a_b (by simp_all)
theorem cIFf (g : FuncId) (pr : (Option Nat) → Prop) [DecidablePred pr] (xs : List (Option Nat)) (hx : xs.length ≤ 2 ^ 40) (hF : ∀ x ∈ xs, PureC X g [.c (.f .f32 x)] (cB (decide (pr x)))) : PureC X 183 [.c (.sl false xs.length 1 (flat fe xs)), .c (.fn g [])] (cI (fix pr xs)) := by
  refine PureC.of_body (drawD_ok X) (fun _ _ => Go.Proofs.Tryz.call183 _ _) Go.Proofs.Tryz.func183 rfl (n := 19) rfl ?_
  refine w_seq ?_
  refine w_reg rfl ?_
  refine v_assign (c := .v (.int .i64 0)) rfl ?_
  refine v_nil ?_
  refine q_n ?_
  refine w_seq ?_
  refine w_seq ?_
  refine w_reg rfl ?_
  refine v_move rfl ?_
  refine v_len_sl lay23 rfl ?_
  refine v_move (c := .v (.int .i64 0)) rfl ?_
  refine v_nil ?_
  refine q_n ?_
  refine w_block ?_
  refine w_loop (fun k sl H => ∃ i : Nat, k = xs.length - i ∧ i ≤ xs.length ∧ (∀ x ∈ xs.take i, ¬ pr x) ∧ sl = sls [(0, .c (.sl false xs.length 1 (flat fe xs))), (1, .c (.fn g [])), (7, cI xs.length), (8, cI i)] ∧ H = []) ?_ ?_
  · refine ⟨_, _, _, ?_, 0, rfl, Nat.zero_le _, by simp, rfl, rfl⟩
    exact turn0 ⟨tr_sl, tr_fn0, tr_v, tr_v, trivial⟩
  rintro k sl H ⟨i, rfl, hi, hp, rfl, rfl⟩
  refine w_seq ?_
  refine w_reg rfl ?_
  refine v_lss lay3 rfl rfl (fun h1 => ?_) (fun h1 => ?_)
  rotate_left
  · refine v_nil ?_
    refine q_n ?_
    refine w_seq ?_
    refine w_f rfl ?_
    refine w_exit ?_
    refine q_e ?_
    refine q_e ?_
    refine q_hit ?_
    refine q_n ?_
    refine w_seq ?_
    refine w_reg rfl ?_
    refine v_assign (c := .v (.int .i64 (-1))) rfl ?_
    refine v_nil ?_
    refine q_n ?_
    refine w_ret ?_
    refine r_r rfl ?_
    obtain rfl : i = xs.length := by omega
    rw [List.take_length] at hp
    exact a_i (fix_none hp).symm
  have hj : i < xs.length := by omega
  refine v_nil ?_
  refine q_n ?_
  refine w_seq ?_
  refine w_t rfl ?_
  refine w_skip ?_
  refine q_n ?_
  refine w_seq ?_
  refine w_block ?_
  refine w_seq ?_
  refine w_reg rfl ?_
  refine v_move rfl ?_
  refine v_assign rfl ?_
  refine v_nil ?_
  refine q_n ?_
  refine w_seq ?_
  refine w_reg rfl ?_
  refine v_move rfl ?_
  refine v_move rfl ?_
  refine v_move rfl ?_
  refine v_idx_e (k := 1) (i) fe_len lay23 lay26 rfl rfl rfl (rfl) rfl (rfl) ((by omega : i < xs.length)) ?_
  refine v_load_vw (.c (.f _ _)) lay26 rfl rfl rfl ?_
  refine v_callb (hF _ (List.getElem_mem hj)) rfl rfl (.cons vw_f .nil) (fun h3 => ?_) (fun h3 => ?_)
  · refine v_nil ?_
    refine q_n ?_
    refine w_t rfl ?_
    refine w_seq ?_
    refine w_reg rfl ?_
    refine v_move rfl ?_
    refine v_assign rfl ?_
    refine v_nil ?_
    refine q_n ?_
    refine w_ret (q_br (q_r (q_r (q_br (q_r ?_)))))
    refine r_r rfl ?_
    exact a_i (fix_hit hj hp h3).symm
  refine v_nil ?_
  refine q_n ?_
  refine w_f rfl ?_
  refine w_skip ?_
  refine q_bn ?_
  refine q_n ?_
  refine w_reg rfl ?_
  refine v_add lay3 rfl rfl (i64r (by omega)) ?_
  refine v_move rfl ?_
  refine v_nil ?_
  refine q_n ?_
  refine ⟨_, _, _, ?_, ⟨i + 1, rfl, by omega, all_step hj hp h3, rfl, rfl⟩, by omega⟩
  exact turn0 ⟨tr_sl, tr_fn0, tr_v, tr_v, trivial⟩
theorem cCFf (g : FuncId) (pr : (Option Nat) → Prop) [DecidablePred pr] (xs : List (Option Nat)) (hx : xs.length ≤ 2 ^ 40) (hF : ∀ x ∈ xs, PureC X g [.c (.f .f32 x)] (cB (decide (pr x)))) : PureC X 122 [.c (.sl false xs.length 1 (flat fe xs)), .c (.fn g [])] (cB (decide (∃ x ∈ xs, pr x))) := by
  refine PureC.of_body (drawD_ok X) (fun _ _ => Go.Proofs.Tryz.call122 _ _) Go.Proofs.Tryz.func122 rfl (n := 9) rfl ?_
  refine w_seq ?_
  refine w_reg rfl ?_
  refine v_assign (c := .v (.bool false)) rfl ?_
  refine v_nil ?_
  refine q_n ?_
  refine w_seq ?_
  refine w_reg rfl ?_
  refine v_move rfl ?_
  refine v_move rfl ?_
  refine v_call (cIFf _ _ _ hx hF) rfl rfl rfl (.cons vw_sl (.cons (vw_fn .nil) .nil)) ?_
  refine v_geq lay3 rfl rfl (fun h1 => ?_) (fun h1 => ?_)
  · refine v_assign rfl ?_
    refine v_nil ?_
    refine q_n ?_
    refine w_ret ?_
    refine r_r rfl ?_
    exact a_b (by simp only [true_iff]; exact (fix_ge _ _).1 h1)
  refine v_assign rfl ?_
  refine v_nil ?_
  refine q_n ?_
  refine w_ret ?_
  refine r_r rfl ?_
  exact a_b (by simp only [Bool.false_eq_true, false_iff]; exact fun h => h1 ((fix_ge _ _).2 h))
theorem cAA (xs : List (Option Nat)) (hx : xs.length ≤ 2 ^ 40) (hW : ∀ x ∈ xs, Sg x) : PureC X 57 [.c (flo false xs)] (cB (decide (∀ x ∈ xs, amtB x = true))) := by
  refine PureC.of_body (drawD_ok X) (fun _ _ => Go.Proofs.Tryz.call57 _ _) Go.Proofs.Tryz.func57 rfl (n := 6) rfl ?_
  refine w_seq ?_
  refine w_reg rfl ?_
  refine v_assign (c := .v (.bool false)) rfl ?_
  refine v_nil ?_
  refine q_n ?_
  refine w_seq ?_
  refine w_reg rfl ?_
  refine v_move rfl ?_
  refine v_callb (cCFf 123 (fun x => ¬ amtB x = true) _ hx (fun x hr => cAA1 x (hW x hr))) rfl rfl (.cons vw_sl (.cons (vw_fn .nil) .nil)) (fun h1 => ?_) (fun h1 => ?_)
  rotate_left
  · refine v_not true rfl rfl ?_
    refine v_assign rfl ?_
    refine v_nil ?_
    refine q_n ?_
    refine w_ret ?_
    refine r_r rfl ?_
    exact a_b (by simp only [true_iff]; exact fun r hr => Decidable.byContradiction fun hn => h1 ⟨r, hr, hn⟩)
  refine v_not false rfl rfl ?_
  refine v_assign rfl ?_
  refine v_nil ?_
  refine q_n ?_
  refine w_ret ?_
  refine r_r rfl ?_
  exact a_b (by simp only [Bool.false_eq_true, false_iff]; exact fun h => by obtain ⟨r, hr, hn⟩ := h1; exact hn (h r hr))
theorem cIsRd (t : Tw) (n : Int) (hB : tB (2 ^ 20) t) : PureC X 178 [.agg (twf false t), cI n] (cB (decide (0 ≤ n ∧ n ≤ (t.1.length : Int) - 1))) := by
  refine PureC.of_body (drawD_ok X) (fun _ _ => Go.Proofs.Tryz.call178 _ _) Go.Proofs.Tryz.func178 rfl (n := 10) rfl ?_
  have hq := hB.1
  refine w_seq ?_
  refine w_reg rfl ?_
  refine v_box (m := 0) (H' := [_]) lay35 rfl rfl rfl ?_
  refine v_assign (c := .v (.bool false)) rfl ?_
  refine v_nil ?_
  refine q_n ?_
  refine w_seq ?_
  refine w_reg rfl ?_
  refine v_move rfl ?_
  refine v_fa_pt (off' := 0) lay35 rfl rfl rfl ?_
  refine v_load_pt (.c _) lay31 rfl rfl rfl rfl ?_
  refine v_len_sl lay31 rfl ?_
  refine v_callb (cPlace _ _ (by omega)) rfl rfl (.cons vw_v (.cons vw_v .nil)) (fun h1 => ?_) (fun h1 => ?_)
  · refine v_assign rfl ?_
    refine v_nil ?_
    refine q_n ?_
    refine w_ret ?_
    refine r_r rfl ?_
    exact a_b (by simp_all)
  refine v_assign rfl ?_
  refine v_nil ?_
  refine q_n ?_
  refine w_ret ?_
  refine r_r rfl ?_
  exact a_b (by simp_all)
theorem cTick (n : Int) : PureC X 56 [cI n] (cB (decide (0 ≤ n ∧ n ≤ 1000000000))) := by
  refine PureC.of_body (drawD_ok X) (fun _ _ => Go.Proofs.Tryz.call56 _ _) Go.Proofs.Tryz.func56 rfl (n := 5) rfl ?_
  refine w_seq ?_
  refine w_reg rfl ?_
  refine v_assign (c := .v (.bool false)) rfl ?_
  refine v_nil ?_
  refine q_n ?_
  refine w_seq ?_
  refine w_reg rfl ?_
  refine v_move rfl ?_
  refine v_callb (cInR _ _ _) rfl rfl (.cons vw_v (.cons vw_v (.cons vw_v .nil))) (fun h1 => ?_) (fun h1 => ?_)
  · refine v_assign rfl ?_
    refine v_nil ?_
    refine q_n ?_
    refine w_ret ?_
    refine r_r rfl ?_
    exact a_b (by simp_all)
  refine v_assign rfl ?_
  refine v_nil ?_
  refine q_n ?_
  refine w_ret ?_
  refine r_r rfl ?_
  exact a_b (by simp_all)
end Go.VL
namespace Go.VL
open Go.RowKit
set_option maxRecDepth 20000
set_option maxHeartbeats 8000000
/-- All are roads, and no two the same. -/
def unl (n : Nat) (xs : List Int) : Prop := ∀ i, (h : i < xs.length) → (0 ≤ xs[i] ∧ xs[i] ≤ (n : Int) - 1) ∧ ¬ xs[i] ∈ xs.take i
instance (n : Nat) (xs : List Int) : Decidable (unl n xs) := by unfold unl; infer_instance
theorem cIdx (xs : List Int) (v : Int) (hx : xs.length ≤ 2 ^ 40) : PureC X 181 [.c (ints false xs), cI v] (cI (fix (fun x => x = v) xs)) := by
  refine PureC.of_body (drawD_ok X) (fun _ _ => Go.Proofs.Tryz.call181 _ _) Go.Proofs.Tryz.func181 rfl (n := 19) rfl ?_
  refine w_seq ?_
  refine w_reg rfl ?_
  refine v_assign (c := .v (.int .i64 0)) rfl ?_
  refine v_nil ?_
  refine q_n ?_
  refine w_seq ?_
  refine w_seq ?_
  refine w_reg rfl ?_
  refine v_move rfl ?_
  refine v_len_sl lay54 rfl ?_
  refine v_move (c := .v (.int .i64 0)) rfl ?_
  refine v_nil ?_
  refine q_n ?_
  refine w_block ?_
  refine w_loop (fun k sl H => ∃ i : Nat, k = xs.length - i ∧ i ≤ xs.length ∧ (∀ x ∈ xs.take i, ¬ x = v) ∧ sl = sls [(0, .c (ints false xs)), (1, cI v), (7, cI xs.length), (8, cI i)] ∧ H = []) ?_ ?_
  · refine ⟨_, _, _, ?_, 0, rfl, Nat.zero_le _, by simp, rfl, rfl⟩
    exact turn0 ⟨tr_sl, tr_v, tr_v, tr_v, trivial⟩
  rintro k sl H ⟨i, rfl, hi, hp, rfl, rfl⟩
  refine w_seq ?_
  refine w_reg rfl ?_
  refine v_lss lay3 rfl rfl (fun h1 => ?_) (fun h1 => ?_)
  rotate_left
  · refine v_nil ?_
    refine q_n ?_
    refine w_seq ?_
    refine w_f rfl ?_
    refine w_exit ?_
    refine q_e ?_
    refine q_e ?_
    refine q_hit ?_
    refine q_n ?_
    refine w_seq ?_
    refine w_reg rfl ?_
    refine v_assign (c := .v (.int .i64 (-1))) rfl ?_
    refine v_nil ?_
    refine q_n ?_
    refine w_ret ?_
    refine r_r rfl ?_
    obtain rfl : i = xs.length := by omega
    rw [List.take_length] at hp
    exact a_i (fix_none hp).symm
  have hj : i < xs.length := by omega
  refine v_nil ?_
  refine q_n ?_
  refine w_seq ?_
  refine w_t rfl ?_
  refine w_skip ?_
  refine q_n ?_
  refine w_seq ?_
  refine w_block ?_
  refine w_seq ?_
  refine w_reg rfl ?_
  refine v_move rfl ?_
  refine v_assign rfl ?_
  refine v_nil ?_
  refine q_n ?_
  refine w_seq ?_
  refine w_reg rfl ?_
  refine v_move rfl ?_
  refine v_move rfl ?_
  refine v_move rfl ?_
  refine v_idx_e (k := 1) (i) int_len lay54 lay2 rfl rfl rfl (rfl) rfl (rfl) (hj) ?_
  refine v_load_vw (.c (.v _)) lay2 rfl rfl rfl ?_
  refine v_eql lay2 rfl rfl (fun h3 => ?_) (fun h3 => ?_)
  · have heq := h3
    refine v_nil ?_
    refine q_n ?_
    refine w_t rfl ?_
    refine w_seq ?_
    refine w_reg rfl ?_
    refine v_move rfl ?_
    refine v_assign rfl ?_
    refine v_nil ?_
    refine q_n ?_
    refine w_ret (q_br (q_r (q_r (q_br (q_r ?_)))))
    refine r_r rfl ?_
    exact a_i (fix_hit hj hp heq.symm).symm
  have heq := h3
  refine v_nil ?_
  refine q_n ?_
  refine w_f rfl ?_
  refine w_skip ?_
  refine q_bn ?_
  refine q_n ?_
  refine w_reg rfl ?_
  refine v_add lay3 rfl rfl (i64r (by omega)) ?_
  refine v_move rfl ?_
  refine v_nil ?_
  refine q_n ?_
  refine ⟨_, _, _, ?_, ⟨i + 1, rfl, by omega, all_step hj hp (fun e => heq e.symm), rfl, rfl⟩, by omega⟩
  exact turn0 ⟨tr_sl, tr_v, tr_v, tr_v, trivial⟩
theorem cCont (xs : List Int) (v : Int) (hx : xs.length ≤ 2 ^ 40) : PureC X 117 [.c (ints false xs), cI v] (cB (decide (v ∈ xs))) := by
  refine PureC.of_body (drawD_ok X) (fun _ _ => Go.Proofs.Tryz.call117 _ _) Go.Proofs.Tryz.func117 rfl (n := 9) rfl ?_
  refine w_seq ?_
  refine w_reg rfl ?_
  refine v_assign (c := .v (.bool false)) rfl ?_
  refine v_nil ?_
  refine q_n ?_
  refine w_seq ?_
  refine w_reg rfl ?_
  refine v_move rfl ?_
  refine v_move rfl ?_
  refine v_call (cIdx _ _ hx) rfl rfl rfl (.cons vw_sl (.cons vw_v .nil)) ?_
  refine v_geq lay3 rfl rfl (fun h1 => ?_) (fun h1 => ?_)
  · refine v_assign rfl ?_
    refine v_nil ?_
    refine q_n ?_
    refine w_ret ?_
    refine r_r rfl ?_
    exact a_b (by simp only [true_iff]; obtain ⟨x, q1, q2⟩ := (fix_ge _ _).1 h1; exact q2 ▸ q1)
  refine v_assign rfl ?_
  refine v_nil ?_
  refine q_n ?_
  refine w_ret ?_
  refine r_r rfl ?_
  exact a_b (by simp only [Bool.false_eq_true, false_iff]; exact fun h => h1 ((fix_ge _ _).2 ⟨v, h, rfl⟩))
theorem cContN {xs : List Int} {v : Int} {n : Nat} (hn : n = xs.length) (hx : xs.length ≤ 2 ^ 40) : PureC X 117 [.c (.sl false n 1 (flat int xs)), cI v] (cB (decide (v ∈ xs))) := by
  subst hn
  exact cCont xs v hx
theorem cUnl (t : Tw) (xs : List Int) (hB : tB (2 ^ 20) t) (hx : xs.length ≤ 2 ^ 40) : PureC X 112 [.agg (twf false t), .c (ints false xs)] (cB (decide (unl t.1.length xs))) := by
  refine PureC.of_body (drawD_ok X) (fun _ _ => Go.Proofs.Tryz.call112 _ _) Go.Proofs.Tryz.func112 rfl (n := 26) rfl ?_
  refine w_seq ?_
  refine w_reg rfl ?_
  refine v_box (m := 0) (H' := [_]) lay35 rfl rfl rfl ?_
  refine v_assign (c := .v (.bool false)) rfl ?_
  refine v_nil ?_
  refine q_n ?_
  refine w_seq ?_
  refine w_seq ?_
  refine w_reg rfl ?_
  refine v_move rfl ?_
  refine v_len_sl lay54 rfl ?_
  refine v_move (c := .v (.int .i64 0)) rfl ?_
  refine v_nil ?_
  refine q_n ?_
  refine w_block ?_
  refine w_loop (fun k sl H => ∃ i : Nat, k = xs.length - i ∧ i ≤ xs.length ∧ (∀ q, q < i → (h : q < xs.length) → (0 ≤ xs[q] ∧ xs[q] ≤ (t.1.length : Int) - 1) ∧ ¬ xs[q] ∈ xs.take q) ∧ sl = sls [(1, .c (ints false xs)), (2, .c (.pt 0 0)), (7, .c (ints false xs)), (8, cI xs.length), (9, cI i)] ∧ H = [⟨twf false t, 35, true⟩]) ?_ ?_
  · refine ⟨_, _, _, ?_, 0, rfl, Nat.zero_le _, fun q hq => by omega, rfl, rfl⟩
    exact turn [some 0] rfl rfl rfl ⟨⟨_, rfl, .cons tr_sl (.cons tr_sl (.cons tr_sl (.cons tr_sl (.cons tr_v (.cons tr_f (.cons tr_f .nil))))))⟩, trivial⟩ ⟨tr_sl, tr_pt rfl, tr_sl, tr_v, tr_v, trivial⟩
  rintro k sl H ⟨i, rfl, hi, hp, rfl, rfl⟩
  refine w_seq ?_
  refine w_reg rfl ?_
  refine v_lss lay3 rfl rfl (fun h1 => ?_) (fun h1 => ?_)
  rotate_left
  · refine v_nil ?_
    refine q_n ?_
    refine w_seq ?_
    refine w_f rfl ?_
    refine w_exit ?_
    refine q_e ?_
    refine q_e ?_
    refine q_hit ?_
    refine q_n ?_
    refine w_seq ?_
    refine w_reg rfl ?_
    refine v_assign (c := .v (.bool true)) rfl ?_
    refine v_nil ?_
    refine q_n ?_
    refine w_ret ?_
    refine r_r rfl ?_
    exact a_b (by simp only [true_iff]; exact fun q h => hp q (by omega) h)
  have hj : i < xs.length := by omega
  refine v_nil ?_
  refine q_n ?_
  refine w_seq ?_
  refine w_t rfl ?_
  refine w_skip ?_
  refine q_n ?_
  refine w_seq ?_
  refine w_block ?_
  refine w_seq ?_
  refine w_reg rfl ?_
  refine v_move rfl ?_
  refine v_idx_e (k := 1) (i) int_len lay54 lay2 rfl rfl rfl (rfl) rfl (rfl) (hj) ?_
  refine v_load_vw (.c (.v _)) lay2 rfl rfl rfl ?_
  refine v_assign rfl ?_
  refine v_assign rfl ?_
  refine v_nil ?_
  refine q_n ?_
  refine w_seq ?_
  refine w_reg rfl ?_
  refine v_load_pt (.agg [_, _, _, _, _, _, _]) lay35 rfl rfl rfl rfl ?_
  refine v_move rfl ?_
  refine v_callb (cIsRd _ _ (by assumption)) rfl rfl (.cons (vw_agg (.cons vw_sl (.cons vw_sl (.cons vw_sl (.cons vw_sl (.cons vw_v (.cons vw_f (.cons vw_f .nil)))))))) (.cons vw_v .nil)) (fun h3 => ?_) (fun h3 => ?_)
  rotate_left
  · have hrd := h3
    refine v_not true rfl rfl ?_
    refine v_move rfl ?_
    refine v_guard_off rfl rfl rfl ?_
    refine v_guard_off rfl rfl rfl ?_
    refine v_guard_off rfl rfl rfl ?_
    refine v_guard_off rfl rfl rfl ?_
    refine v_guard_off rfl rfl rfl ?_
    refine v_pick_t (v := .v (.bool true)) rfl rfl ?_
    refine v_nil ?_
    refine q_n ?_
    refine w_t rfl ?_
    refine w_seq ?_
    refine w_reg rfl ?_
    refine v_assign (c := .v (.bool false)) rfl ?_
    refine v_nil ?_
    refine q_n ?_
    refine w_ret (q_br (q_r (q_r (q_br (q_r ?_)))))
    refine r_r rfl ?_
    exact a_b (by simp only [Bool.false_eq_true, false_iff]; exact fun hu => hrd (hu i hj).1)
  have hrd := h3
  refine v_not false rfl rfl ?_
  refine v_move rfl ?_
  refine v_guard_on rfl rfl ?_
  refine v_move rfl ?_
  refine v_guard_on rfl rfl ?_
  refine v_move rfl ?_
  refine v_guard_on rfl rfl ?_
  refine v_slice_sl (0) (i) int_len lay54 lay2 rfl rfl rfl rfl rfl (rfl) (rfl) (⟨Nat.zero_le _, hi⟩) ?_
  refine v_guard_on rfl rfl ?_
  refine v_move rfl ?_
  refine v_guard_on rfl rfl ?_
  refine v_callb (cContN (by simp; try omega) (by simp; try omega)) rfl rfl (.cons vw_sl (.cons vw_v .nil)) (fun h4 => ?_) (fun h4 => ?_)
  · have hmm := h4
    rw [List.drop_zero, Nat.sub_zero] at hmm
    refine v_pick_f rfl rfl ?_
    refine v_nil ?_
    refine q_n ?_
    refine w_t rfl ?_
    refine w_seq ?_
    refine w_reg rfl ?_
    refine v_assign (c := .v (.bool false)) rfl ?_
    refine v_nil ?_
    refine q_n ?_
    refine w_ret (q_br (q_r (q_r (q_br (q_r ?_)))))
    refine r_r rfl ?_
    exact a_b (by simp only [Bool.false_eq_true, false_iff]; exact fun hu => (hu i hj).2 hmm)
  have hmm := h4
  rw [List.drop_zero, Nat.sub_zero] at hmm
  refine v_pick_f rfl rfl ?_
  refine v_nil ?_
  refine q_n ?_
  refine w_f rfl ?_
  refine w_skip ?_
  refine q_bn ?_
  refine q_n ?_
  refine w_reg rfl ?_
  refine v_add lay3 rfl rfl (i64r (by omega)) ?_
  refine v_move rfl ?_
  refine v_nil ?_
  refine q_n ?_
  refine ⟨_, _, _, ?_, ⟨i + 1, rfl, by omega, fun q hq h => ?_, rfl, rfl⟩, by omega⟩
  · exact turn [some 0] rfl rfl rfl ⟨⟨_, rfl, .cons tr_sl (.cons tr_sl (.cons tr_sl (.cons tr_sl (.cons tr_v (.cons tr_f (.cons tr_f .nil))))))⟩, trivial⟩ ⟨tr_sl, tr_pt rfl, tr_sl, tr_v, tr_v, trivial⟩
  · rcases Nat.lt_or_eq_of_le (Nat.le_of_lt_succ hq) with h2 | rfl
    · exact hp q h2 h
    · exact ⟨hrd, hmm⟩
end Go.VL
namespace Go.VL
open Go.RowKit
set_option maxRecDepth 20000
set_option maxHeartbeats 8000000
theorem cisOut1 (j : Jo) (n : Int) (hx : j.2.2.1.length ≤ 2 ^ 40) : PureC X 116 [.agg (jof false j), .c (.vw false [.v (.int .i64 n)] 0)] (cB (decide (n ∈ j.2.2.1))) := by
  refine PureC.of_body (drawD_ok X) (fun _ _ => Go.Proofs.Tryz.call116 _ _) Go.Proofs.Tryz.func116 rfl (n := 8) rfl ?_
  refine w_seq ?_
  refine w_reg rfl ?_
  refine v_box (m := 0) (H' := [_]) lay56 rfl rfl rfl ?_
  refine v_assign (c := .v (.bool false)) rfl ?_
  refine v_nil ?_
  refine q_n ?_
  refine w_seq ?_
  refine w_reg rfl ?_
  refine v_fa_pt (off' := 23) lay56 rfl rfl rfl ?_
  refine v_load_pt (.c _) lay54 rfl rfl rfl rfl ?_
  refine v_load_vw (.c (.v _)) lay2 rfl rfl rfl ?_
  refine v_callb (cContN rfl (by assumption)) rfl rfl (.cons vw_sl (.cons vw_v .nil)) (fun h1 => ?_) (fun h1 => ?_)
  · refine v_assign rfl ?_
    refine v_nil ?_
    refine q_n ?_
    refine w_ret ?_
    refine r_r rfl ?_
    exact a_b (by simp_all)
  refine v_assign rfl ?_
  refine v_nil ?_
  refine q_n ?_
  refine w_ret ?_
  refine r_r rfl ?_
  exact a_b (by simp_all)
theorem cisIn1 (j : Jo) (n : Int) (hx : j.2.1.length ≤ 2 ^ 40) : PureC X 209 [.agg (jof false j), .c (.vw false [.v (.int .i64 n)] 0)] (cB (decide (n ∈ j.2.1))) := by
  refine PureC.of_body (drawD_ok X) (fun _ _ => Go.Proofs.Tryz.call209 _ _) Go.Proofs.Tryz.func209 rfl (n := 8) rfl ?_
  refine w_seq ?_
  refine w_reg rfl ?_
  refine v_box (m := 0) (H' := [_]) lay56 rfl rfl rfl ?_
  refine v_assign (c := .v (.bool false)) rfl ?_
  refine v_nil ?_
  refine q_n ?_
  refine w_seq ?_
  refine w_reg rfl ?_
  refine v_fa_pt (off' := 22) lay56 rfl rfl rfl ?_
  refine v_load_pt (.c _) lay54 rfl rfl rfl rfl ?_
  refine v_load_vw (.c (.v _)) lay2 rfl rfl rfl ?_
  refine v_callb (cContN rfl (by assumption)) rfl rfl (.cons vw_sl (.cons vw_v .nil)) (fun h1 => ?_) (fun h1 => ?_)
  · refine v_assign rfl ?_
    refine v_nil ?_
    refine q_n ?_
    refine w_ret ?_
    refine r_r rfl ?_
    exact a_b (by simp_all)
  refine v_assign rfl ?_
  refine v_nil ?_
  refine q_n ?_
  refine w_ret ?_
  refine r_r rfl ?_
  exact a_b (by simp_all)
theorem cIFj (g : FuncId) (cs : List C) (pr : Jo → Prop) [DecidablePred pr] (xs : List Jo) (hx : xs.length ≤ 2 ^ 40) (hF : ∀ x ∈ xs, PureC X g [.agg (jof false x), .c (.vw false cs 0)] (cB (decide (pr x)))) : PureC X 180 [.c (.sl false xs.length 25 (flat joc xs)), .c (.fn g [.vw false cs 0])] (cI (fix pr xs)) := by
  refine PureC.of_body (drawD_ok X) (fun _ _ => Go.Proofs.Tryz.call180 _ _) Go.Proofs.Tryz.func180 rfl (n := 19) rfl ?_
  refine w_seq ?_
  refine w_reg rfl ?_
  refine v_assign (c := .v (.int .i64 0)) rfl ?_
  refine v_nil ?_
  refine q_n ?_
  refine w_seq ?_
  refine w_seq ?_
  refine w_reg rfl ?_
  refine v_move rfl ?_
  refine v_len_sl lay32 rfl ?_
  refine v_move (c := .v (.int .i64 0)) rfl ?_
  refine v_nil ?_
  refine q_n ?_
  refine w_block ?_
  refine w_loop (fun k sl H => ∃ i : Nat, k = xs.length - i ∧ i ≤ xs.length ∧ (∀ x ∈ xs.take i, ¬ pr x) ∧ sl = sls [(0, .c (.sl false xs.length 25 (flat joc xs))), (1, .c (.fn g [.vw false cs 0])), (7, cI xs.length), (8, cI i)] ∧ H = []) ?_ ?_
  · refine ⟨_, _, _, ?_, 0, rfl, Nat.zero_le _, by simp, rfl, rfl⟩
    exact turn0 ⟨tr_sl, tr_fn1, tr_v, tr_v, trivial⟩
  rintro k sl H ⟨i, rfl, hi, hp, rfl, rfl⟩
  refine w_seq ?_
  refine w_reg rfl ?_
  refine v_lss lay3 rfl rfl (fun h1 => ?_) (fun h1 => ?_)
  rotate_left
  · refine v_nil ?_
    refine q_n ?_
    refine w_seq ?_
    refine w_f rfl ?_
    refine w_exit ?_
    refine q_e ?_
    refine q_e ?_
    refine q_hit ?_
    refine q_n ?_
    refine w_seq ?_
    refine w_reg rfl ?_
    refine v_assign (c := .v (.int .i64 (-1))) rfl ?_
    refine v_nil ?_
    refine q_n ?_
    refine w_ret ?_
    refine r_r rfl ?_
    obtain rfl : i = xs.length := by omega
    rw [List.take_length] at hp
    exact a_i (fix_none hp).symm
  have hj : i < xs.length := by omega
  refine v_nil ?_
  refine q_n ?_
  refine w_seq ?_
  refine w_t rfl ?_
  refine w_skip ?_
  refine q_n ?_
  refine w_seq ?_
  refine w_block ?_
  refine w_seq ?_
  refine w_reg rfl ?_
  refine v_move rfl ?_
  refine v_assign rfl ?_
  refine v_nil ?_
  refine q_n ?_
  refine w_seq ?_
  refine w_reg rfl ?_
  refine v_move rfl ?_
  refine v_move rfl ?_
  refine v_move rfl ?_
  refine v_idx_e (k := 25) (i) joc_len lay32 lay56 rfl rfl rfl (rfl) rfl (rfl) ((by omega : i < xs.length)) ?_
  refine v_load_vw (.agg [.v _, .v _, .f _ _, .f _ _, .f _ _, .f _ _, .f _ _, .f _ _, .f _ _, .f _ _, .f _ _, .f _ _, .f _ _, .f _ _, .f _ _, .f _ _, .f _ _, .f _ _, .f _ _, .f _ _, .f _ _, .f _ _, _, _, .v _]) lay56 rfl rfl rfl ?_
  refine v_callb (hF _ (List.getElem_mem hj)) rfl rfl (.cons (vw_agg (.cons vw_v (.cons vw_v (.cons vw_f (.cons vw_f (.cons vw_f (.cons vw_f (.cons vw_f (.cons vw_f (.cons vw_f (.cons vw_f (.cons vw_f (.cons vw_f (.cons vw_f (.cons vw_f (.cons vw_f (.cons vw_f (.cons vw_f (.cons vw_f (.cons vw_f (.cons vw_f (.cons vw_f (.cons vw_f (.cons vw_sl (.cons vw_sl (.cons vw_v .nil)))))))))))))))))))))))))) (.cons vw_vw .nil)) (fun h3 => ?_) (fun h3 => ?_)
  · refine v_nil ?_
    refine q_n ?_
    refine w_t rfl ?_
    refine w_seq ?_
    refine w_reg rfl ?_
    refine v_move rfl ?_
    refine v_assign rfl ?_
    refine v_nil ?_
    refine q_n ?_
    refine w_ret (q_br (q_r (q_r (q_br (q_r ?_)))))
    refine r_r rfl ?_
    exact a_i (fix_hit hj hp h3).symm
  refine v_nil ?_
  refine q_n ?_
  refine w_f rfl ?_
  refine w_skip ?_
  refine q_bn ?_
  refine q_n ?_
  refine w_reg rfl ?_
  refine v_add lay3 rfl rfl (i64r (by omega)) ?_
  refine v_move rfl ?_
  refine v_nil ?_
  refine q_n ?_
  refine ⟨_, _, _, ?_, ⟨i + 1, rfl, by omega, all_step hj hp h3, rfl, rfl⟩, by omega⟩
  exact turn0 ⟨tr_sl, tr_fn1, tr_v, tr_v, trivial⟩
theorem cCFj (g : FuncId) (cs : List C) (pr : Jo → Prop) [DecidablePred pr] (xs : List Jo) (hx : xs.length ≤ 2 ^ 40) (hF : ∀ x ∈ xs, PureC X g [.agg (jof false x), .c (.vw false cs 0)] (cB (decide (pr x)))) : PureC X 115 [.c (.sl false xs.length 25 (flat joc xs)), .c (.fn g [.vw false cs 0])] (cB (decide (∃ x ∈ xs, pr x))) := by
  refine PureC.of_body (drawD_ok X) (fun _ _ => Go.Proofs.Tryz.call115 _ _) Go.Proofs.Tryz.func115 rfl (n := 9) rfl ?_
  refine w_seq ?_
  refine w_reg rfl ?_
  refine v_assign (c := .v (.bool false)) rfl ?_
  refine v_nil ?_
  refine q_n ?_
  refine w_seq ?_
  refine w_reg rfl ?_
  refine v_move rfl ?_
  refine v_move rfl ?_
  refine v_call (cIFj _ cs _ _ hx hF) rfl rfl rfl (.cons vw_sl (.cons (vw_fn (.cons vw_vw .nil)) .nil)) ?_
  refine v_geq lay3 rfl rfl (fun h1 => ?_) (fun h1 => ?_)
  · refine v_assign rfl ?_
    refine v_nil ?_
    refine q_n ?_
    refine w_ret ?_
    refine r_r rfl ?_
    exact a_b (by simp only [true_iff]; exact (fix_ge _ _).1 h1)
  refine v_assign rfl ?_
  refine v_nil ?_
  refine q_n ?_
  refine w_ret ?_
  refine r_r rfl ?_
  exact a_b (by simp only [Bool.false_eq_true, false_iff]; exact fun h => h1 ((fix_ge _ _).2 h))
theorem cIsOut (t : Tw) (n : Int) (hB : tB (2 ^ 20) t) : PureC X 52 [.agg (twf false t), cI n] (cB (decide (∃ j ∈ t.2.2.1, n ∈ j.2.2.1))) := by
  refine PureC.of_body (drawD_ok X) (fun _ _ => Go.Proofs.Tryz.call52 _ _) Go.Proofs.Tryz.func52 rfl (n := 9) rfl ?_
  refine w_seq ?_
  refine w_reg rfl ?_
  refine v_box (m := 0) (H' := [_]) lay35 rfl rfl rfl ?_
  refine v_box (m := 1) (H' := [_, _]) lay2 rfl rfl rfl ?_
  refine v_assign (c := .v (.bool false)) rfl ?_
  refine v_nil ?_
  refine q_n ?_
  refine w_seq ?_
  refine w_reg rfl ?_
  refine v_fa_pt (off' := 2) lay35 rfl rfl rfl ?_
  refine v_load_pt (.c _) lay32 rfl rfl rfl rfl ?_
  refine v_fn rfl ?_
  refine v_callb (cCFj 116 [.v (.int .i64 n)] (fun j => n ∈ j.2.2.1) _ (by have := hB.2.2.1; omega) (fun j hj => cisOut1 j n (by have := hB.2.2.2.1 j hj; omega))) rfl rfl (.cons vw_sl (.cons (vw_fn (.cons (vw_pt rfl (.cons .v .nil)) .nil)) .nil)) (fun h1 => ?_) (fun h1 => ?_)
  · refine v_assign rfl ?_
    refine v_nil ?_
    refine q_n ?_
    refine w_ret ?_
    refine r_r rfl ?_
    exact a_b (by simp only [true_iff]; exact h1)
  refine v_assign rfl ?_
  refine v_nil ?_
  refine q_n ?_
  refine w_ret ?_
  refine r_r rfl ?_
  exact a_b (by simp only [Bool.false_eq_true, false_iff]; exact h1)
theorem cIsIn (t : Tw) (n : Int) (hB : tB (2 ^ 20) t) : PureC X 157 [.agg (twf false t), cI n] (cB (decide (∃ j ∈ t.2.2.1, n ∈ j.2.1))) := by
  refine PureC.of_body (drawD_ok X) (fun _ _ => Go.Proofs.Tryz.call157 _ _) Go.Proofs.Tryz.func157 rfl (n := 9) rfl ?_
  refine w_seq ?_
  refine w_reg rfl ?_
  refine v_box (m := 0) (H' := [_]) lay35 rfl rfl rfl ?_
  refine v_box (m := 1) (H' := [_, _]) lay2 rfl rfl rfl ?_
  refine v_assign (c := .v (.bool false)) rfl ?_
  refine v_nil ?_
  refine q_n ?_
  refine w_seq ?_
  refine w_reg rfl ?_
  refine v_fa_pt (off' := 2) lay35 rfl rfl rfl ?_
  refine v_load_pt (.c _) lay32 rfl rfl rfl rfl ?_
  refine v_fn rfl ?_
  refine v_callb (cCFj 209 [.v (.int .i64 n)] (fun j => n ∈ j.2.1) _ (by have := hB.2.2.1; omega) (fun j hj => cisIn1 j n (by have := hB.2.2.2.1 j hj; omega))) rfl rfl (.cons vw_sl (.cons (vw_fn (.cons (vw_pt rfl (.cons .v .nil)) .nil)) .nil)) (fun h1 => ?_) (fun h1 => ?_)
  · refine v_assign rfl ?_
    refine v_nil ?_
    refine q_n ?_
    refine w_ret ?_
    refine r_r rfl ?_
    exact a_b (by simp only [true_iff]; exact h1)
  refine v_assign rfl ?_
  refine v_nil ?_
  refine q_n ?_
  refine w_ret ?_
  refine r_r rfl ?_
  exact a_b (by simp only [Bool.false_eq_true, false_iff]; exact h1)
end Go.VL
namespace Go.VL
open Go.RowKit
set_option maxRecDepth 20000
set_option maxHeartbeats 8000000
def insA (js : List Jo) : List Int := js.flatMap fun j => j.2.1
def outsA (js : List Jo) : List Int := js.flatMap fun j => j.2.2.1
def jAll (np : Nat) (js : List Jo) : Prop := ∀ j ∈ js, jPre j ∧ (-1 ≤ j.2.2.2 ∧ j.2.2.2 ≤ (np : Int) - 1)
instance (np : Nat) (js : List Jo) : Decidable (jAll np js) := by unfold jAll; infer_instance
theorem insA_step {js : List Jo} {i : Nat} (h : i < js.length) : insA (js.take (i + 1)) = insA (js.take i) ++ js[i].2.1 := by
  unfold insA
  rw [List.take_succ_eq_append_getElem h, List.flatMap_append]
  simp only [List.flatMap_cons, List.flatMap_nil, List.append_nil]
theorem outsA_step {js : List Jo} {i : Nat} (h : i < js.length) : outsA (js.take (i + 1)) = outsA (js.take i) ++ js[i].2.2.1 := by
  unfold outsA
  rw [List.take_succ_eq_append_getElem h, List.flatMap_append]
  simp only [List.flatMap_cons, List.flatMap_nil, List.append_nil]
theorem insA_le {js : List Jo} (hj : ∀ j ∈ js, j.2.1.length ≤ 2 ^ 20 ∧ j.2.2.1.length ≤ 2 ^ 20) : ∀ {i : Nat}, i ≤ js.length → (insA (js.take i)).length ≤ 1048576 * i ∧ (outsA (js.take i)).length ≤ 1048576 * i
  | 0, _ => by simp [insA, outsA]
  | i + 1, h => by
    have ih := insA_le hj (i := i) (by omega)
    have h1 := hj _ (List.getElem_mem (show i < js.length by omega))
    rw [insA_step (by omega), outsA_step (by omega), List.length_append, List.length_append]
    omega
theorem cJok (t : Tw) (hB : tB (2 ^ 20) t) (hF : tF t) (hj4 : t.2.2.1.length ≤ 2 ^ 10) : PureC X 50 [.agg (twf false t)] (cB (decide (jAll t.2.2.2.1.length t.2.2.1 ∧ unl t.1.length (insA t.2.2.1) ∧ unl t.1.length (outsA t.2.2.1)))) := by
  refine PureC.of_body (drawD_ok X) (fun _ _ => Go.Proofs.Tryz.call50 _ _) Go.Proofs.Tryz.func50 rfl (n := 69) rfl ?_
  refine w_seq ?_
  refine w_reg rfl ?_
  refine v_box (m := 0) (H' := [_]) lay35 rfl rfl rfl ?_
  refine v_assign (c := .v (.bool false)) rfl ?_
  refine v_nil ?_
  refine q_n ?_
  refine w_seq ?_
  refine w_reg rfl ?_
  refine v_lit (flat int []) (H' := [_, _]) lay54 lay2 rfl rfl ⟨by decide, by decide⟩ rfl rfl ?_
  refine v_lit (flat int []) (H' := [_, _, _]) lay54 lay2 rfl rfl ⟨by decide, by decide⟩ rfl rfl ?_
  refine v_assign rfl ?_
  refine v_assign rfl ?_
  refine v_nil ?_
  refine q_n ?_
  refine w_seq ?_
  refine w_seq ?_
  refine w_reg rfl ?_
  refine v_fa_pt (off' := 2) lay35 rfl rfl rfl ?_
  refine v_load_pt (.c _) lay32 rfl rfl rfl rfl ?_
  refine v_len_sl lay32 rfl ?_
  refine v_move (c := .v (.int .i64 0)) rfl ?_
  refine v_nil ?_
  refine q_n ?_
  refine w_block ?_
  refine w_loop (fun k sl H => ∃ i : Nat, k = t.2.2.1.length - i ∧ i ≤ t.2.2.1.length ∧ (∀ j ∈ t.2.2.1.take i, jPre j ∧ (-1 ≤ j.2.2.2 ∧ j.2.2.2 ≤ (t.2.2.2.1.length : Int) - 1)) ∧ sl = sls [(1, .c (.pt 0 0)), (3, .c (.mu 1 0 (insA (t.2.2.1.take i)).length 1)), (4, .c (.mu 2 0 (outsA (t.2.2.1.take i)).length 1)), (10, .c (jos false t.2.2.1)), (11, cI t.2.2.1.length), (12, cI i)] ∧ H = [⟨twf false t, 35, true⟩, ⟨flat int (insA (t.2.2.1.take i)), 2, true⟩, ⟨flat int (outsA (t.2.2.1.take i)), 2, true⟩]) ?_ ?_
  · refine ⟨_, _, _, ?_, 0, rfl, Nat.zero_le _, by simp, rfl, rfl⟩
    exact turn [some 0, some 1, some 2] rfl rfl rfl ⟨⟨_, rfl, .cons tr_sl (.cons tr_sl (.cons tr_sl (.cons tr_sl (.cons tr_v (.cons tr_f (.cons tr_f .nil))))))⟩, ⟨_, rfl, trc_flat int_sc rfl⟩, ⟨_, rfl, trc_flat int_sc rfl⟩, trivial⟩ ⟨tr_pt rfl, tr_mu rfl, tr_mu rfl, tr_sl, tr_v, tr_v, trivial⟩
  rintro k sl H ⟨i, rfl, hi, hp, rfl, rfl⟩
  have hle := insA_le hB.2.2.2.1 hi
  refine w_seq ?_
  refine w_reg rfl ?_
  refine v_lss lay3 rfl rfl (fun h1 => ?_) (fun h1 => ?_)
  rotate_left
  · obtain rfl : i = t.2.2.1.length := by omega
    rw [List.take_length] at *
    have hall : jAll t.2.2.2.1.length t.2.2.1 := hp
    refine v_nil ?_
    refine q_n ?_
    refine w_seq ?_
    refine w_f rfl ?_
    refine w_exit ?_
    refine q_e ?_
    refine q_e ?_
    refine q_hit ?_
    refine q_n ?_
    refine w_seq ?_
    refine w_reg rfl ?_
    refine v_load_pt (.agg [_, _, _, _, _, _, _]) lay35 rfl rfl rfl rfl ?_
    refine v_move rfl ?_
    refine v_callb (cUnl _ _ hB (by omega)) rfl rfl (.cons (vw_agg (.cons vw_sl (.cons vw_sl (.cons vw_sl (.cons vw_sl (.cons vw_v (.cons vw_f (.cons vw_f .nil)))))))) (.cons (vw_mu2 int_sc int_len rfl (by first | (simp; done) | (simp; omega))) .nil)) (fun h8 => ?_) (fun h8 => ?_)
    rotate_left
    · have hui := h8
      refine v_move rfl ?_
      refine v_guard_off rfl rfl rfl ?_
      refine v_guard_off rfl rfl rfl ?_
      refine v_guard_off rfl rfl rfl ?_
      refine v_pick_f (v := .v (.bool false)) rfl rfl ?_
      refine v_assign rfl ?_
      refine v_nil ?_
      refine q_n ?_
      refine w_ret ?_
      refine r_r rfl ?_
      exact a_b (by simp only [Bool.false_eq_true, false_iff]; exact fun ho => hui ho.2.1)
    have hui := h8
    refine v_move rfl ?_
    refine v_guard_on rfl rfl ?_
    refine v_load_pt (.agg [_, _, _, _, _, _, _]) lay35 rfl rfl rfl rfl ?_
    refine v_guard_on rfl rfl ?_
    refine v_move rfl ?_
    refine v_guard_on rfl rfl ?_
    refine v_callb (cUnl _ _ hB (by omega)) rfl rfl (.cons (vw_agg (.cons vw_sl (.cons vw_sl (.cons vw_sl (.cons vw_sl (.cons vw_v (.cons vw_f (.cons vw_f .nil)))))))) (.cons (vw_mu2 int_sc int_len rfl (by first | (simp; done) | (simp; omega))) .nil)) (fun h9 => ?_) (fun h9 => ?_)
    · have huo := h9
      refine v_pick_t rfl rfl ?_
      refine v_assign rfl ?_
      refine v_nil ?_
      refine q_n ?_
      refine w_ret ?_
      refine r_r rfl ?_
      exact a_b (by simp only [true_iff]; exact ⟨hall, hui, huo⟩)
    have huo := h9
    refine v_pick_t rfl rfl ?_
    refine v_assign rfl ?_
    refine v_nil ?_
    refine q_n ?_
    refine w_ret ?_
    refine r_r rfl ?_
    exact a_b (by simp only [Bool.false_eq_true, false_iff]; exact fun ho => huo ho.2.2)
  have hi1 : i < t.2.2.1.length := by omega
  have hbl := hB.2.2.2.1 _ (List.getElem_mem hi1)
  refine v_nil ?_
  refine q_n ?_
  refine w_seq ?_
  refine w_t rfl ?_
  refine w_skip ?_
  refine q_n ?_
  refine w_seq ?_
  refine w_block ?_
  refine w_seq ?_
  refine w_reg rfl ?_
  refine v_idx_e (k := 25) (i) joc_len lay32 lay56 rfl rfl rfl (rfl) rfl (rfl) (hi1) ?_
  refine v_load_vw (.agg [.v _, .v _, .f _ _, .f _ _, .f _ _, .f _ _, .f _ _, .f _ _, .f _ _, .f _ _, .f _ _, .f _ _, .f _ _, .f _ _, .f _ _, .f _ _, .f _ _, .f _ _, .f _ _, .f _ _, .f _ _, .f _ _, _, _, .v _]) lay56 rfl rfl rfl ?_
  refine v_alloc (m := 3) (H' := [_, _, _, ⟨[.v _, .v _, .f _ _, .f _ _, .f _ _, .f _ _, .f _ _, .f _ _, .f _ _, .f _ _, .f _ _, .f _ _, .f _ _, .f _ _, .f _ _, .f _ _, .f _ _, .f _ _, .f _ _, .f _ _, .f _ _, .f _ _, .v _, .v _, .v _], 56, true⟩]) lay56 rfl rfl ?_
  refine v_store (H' := [_, _, _, ⟨[_, _, _, _, _, _, _, _, _, _, _, _, _, _, _, _, _, _, _, _, _, _, _, _, _], 56, true⟩]) lay56 rfl rfl rfl rfl rfl rfl ?_
  refine v_nil ?_
  refine q_n ?_
  refine w_seq ?_
  refine w_seq ?_
  refine w_reg rfl ?_
  refine v_fa_pt (off' := 0) lay56 rfl rfl rfl ?_
  refine v_load_pt (.agg [_, _, _, _, _, _, _, _, _, _, _, _, _, _, _, _, _, _, _, _, _, _]) lay53 rfl rfl rfl rfl ?_
  refine v_callb (cJnI _ (hF.2.2.1 _ (List.getElem_mem hi1))) rfl rfl (.cons (vw_agg (.cons vw_v (.cons vw_v (.cons vw_f (.cons vw_f (.cons vw_f (.cons vw_f (.cons vw_f (.cons vw_f (.cons vw_f (.cons vw_f (.cons vw_f (.cons vw_f (.cons vw_f (.cons vw_f (.cons vw_f (.cons vw_f (.cons vw_f (.cons vw_f (.cons vw_f (.cons vw_f (.cons vw_f (.cons vw_f .nil))))))))))))))))))))))) .nil) (fun h3 => ?_) (fun h3 => ?_)
  rotate_left
  · have hjn := h3
    refine v_not true rfl rfl ?_
    refine v_move rfl ?_
    refine v_guard_off rfl rfl rfl ?_
    refine v_guard_off rfl rfl rfl ?_
    refine v_guard_off rfl rfl rfl ?_
    refine v_guard_off rfl rfl rfl ?_
    refine v_guard_off rfl rfl rfl ?_
    refine v_guard_off rfl rfl rfl ?_
    refine v_guard_off rfl rfl rfl ?_
    refine v_pick_t (v := .v (.bool true)) rfl rfl ?_
    refine v_move rfl ?_
    refine v_guard_off rfl rfl rfl ?_
    refine v_guard_off rfl rfl rfl ?_
    refine v_guard_off rfl rfl rfl ?_
    refine v_guard_off rfl rfl rfl ?_
    refine v_guard_off rfl rfl rfl ?_
    refine v_guard_off rfl rfl rfl ?_
    refine v_guard_off rfl rfl rfl ?_
    refine v_pick_t (v := .v (.bool true)) rfl rfl ?_
    refine v_move rfl ?_
    refine v_guard_off rfl rfl rfl ?_
    refine v_guard_off rfl rfl rfl ?_
    refine v_guard_off rfl rfl rfl ?_
    refine v_guard_off rfl rfl rfl ?_
    refine v_guard_un rfl rfl ?_
    refine v_guard_un rfl rfl ?_
    refine v_guard_un rfl rfl ?_
    refine v_guard_un rfl rfl ?_
    refine v_guard_un rfl rfl ?_
    refine v_guard_un rfl rfl ?_
    refine v_guard_un rfl rfl ?_
    refine v_guard_off rfl rfl rfl ?_
    refine v_pick_t (v := .v (.bool true)) rfl rfl ?_
    refine v_nil ?_
    refine q_n ?_
    refine w_t rfl ?_
    refine w_seq ?_
    refine w_reg rfl ?_
    refine v_assign (c := .v (.bool false)) rfl ?_
    refine v_nil ?_
    refine q_n ?_
    refine w_ret (q_r (q_br (q_r (q_r (q_br (q_r ?_))))))
    refine r_r rfl ?_
    exact a_b (by simp only [Bool.false_eq_true, false_iff]; exact fun ho => by have hq := ho.1 _ (List.getElem_mem hi1); exact hjn hq.1.1)
  have hjn := h3
  refine v_not false rfl rfl ?_
  refine v_move rfl ?_
  refine v_guard_on rfl rfl ?_
  refine v_fa_pt (off' := 22) lay56 rfl rfl rfl ?_
  refine v_guard_on rfl rfl ?_
  refine v_load_pt (.c _) lay54 rfl rfl rfl rfl ?_
  refine v_guard_on rfl rfl ?_
  refine v_len_sl lay54 rfl ?_
  refine v_guard_on rfl rfl ?_
  refine v_fa_pt (off' := 0) lay56 rfl rfl rfl ?_
  refine v_guard_on rfl rfl ?_
  refine v_fa_pt (off' := 0) lay53 rfl rfl rfl ?_
  refine v_guard_on rfl rfl ?_
  refine v_load_pt (.c _) lay2 rfl rfl rfl rfl ?_
  refine v_guard_on rfl rfl ?_
  refine v_neq lay2 rfl rfl (fun h4 => ?_) (fun h4 => ?_)
  · have hin := h4
    refine v_pick_f rfl rfl ?_
    refine v_move rfl ?_
    refine v_guard_off rfl rfl rfl ?_
    refine v_guard_off rfl rfl rfl ?_
    refine v_guard_off rfl rfl rfl ?_
    refine v_guard_off rfl rfl rfl ?_
    refine v_guard_off rfl rfl rfl ?_
    refine v_guard_off rfl rfl rfl ?_
    refine v_guard_off rfl rfl rfl ?_
    refine v_pick_t (v := .v (.bool true)) rfl rfl ?_
    refine v_move rfl ?_
    refine v_guard_off rfl rfl rfl ?_
    refine v_guard_off rfl rfl rfl ?_
    refine v_guard_off rfl rfl rfl ?_
    refine v_guard_off rfl rfl rfl ?_
    refine v_guard_un rfl rfl ?_
    refine v_guard_un rfl rfl ?_
    refine v_guard_un rfl rfl ?_
    refine v_guard_un rfl rfl ?_
    refine v_guard_un rfl rfl ?_
    refine v_guard_un rfl rfl ?_
    refine v_guard_un rfl rfl ?_
    refine v_guard_off rfl rfl rfl ?_
    refine v_pick_t (v := .v (.bool true)) rfl rfl ?_
    refine v_nil ?_
    refine q_n ?_
    refine w_t rfl ?_
    refine w_seq ?_
    refine w_reg rfl ?_
    refine v_assign (c := .v (.bool false)) rfl ?_
    refine v_nil ?_
    refine q_n ?_
    refine w_ret (q_r (q_br (q_r (q_r (q_br (q_r ?_))))))
    refine r_r rfl ?_
    exact a_b (by simp only [Bool.false_eq_true, false_iff]; exact fun ho => by have hq := ho.1 _ (List.getElem_mem hi1); have q1 := hq.1.2.1; omega)
  have hin := h4
  refine v_pick_f rfl rfl ?_
  refine v_move rfl ?_
  refine v_guard_on rfl rfl ?_
  refine v_fa_pt (off' := 23) lay56 rfl rfl rfl ?_
  refine v_guard_on rfl rfl ?_
  refine v_load_pt (.c _) lay54 rfl rfl rfl rfl ?_
  refine v_guard_on rfl rfl ?_
  refine v_len_sl lay54 rfl ?_
  refine v_guard_on rfl rfl ?_
  refine v_fa_pt (off' := 0) lay56 rfl rfl rfl ?_
  refine v_guard_on rfl rfl ?_
  refine v_fa_pt (off' := 1) lay53 rfl rfl rfl ?_
  refine v_guard_on rfl rfl ?_
  refine v_load_pt (.c _) lay2 rfl rfl rfl rfl ?_
  refine v_guard_on rfl rfl ?_
  refine v_neq lay2 rfl rfl (fun h5 => ?_) (fun h5 => ?_)
  · have hot := h5
    refine v_pick_f rfl rfl ?_
    refine v_move rfl ?_
    refine v_guard_off rfl rfl rfl ?_
    refine v_guard_off rfl rfl rfl ?_
    refine v_guard_off rfl rfl rfl ?_
    refine v_guard_off rfl rfl rfl ?_
    refine v_guard_un rfl rfl ?_
    refine v_guard_un rfl rfl ?_
    refine v_guard_un rfl rfl ?_
    refine v_guard_un rfl rfl ?_
    refine v_guard_un rfl rfl ?_
    refine v_guard_un rfl rfl ?_
    refine v_guard_un rfl rfl ?_
    refine v_guard_off rfl rfl rfl ?_
    refine v_pick_t (v := .v (.bool true)) rfl rfl ?_
    refine v_nil ?_
    refine q_n ?_
    refine w_t rfl ?_
    refine w_seq ?_
    refine w_reg rfl ?_
    refine v_assign (c := .v (.bool false)) rfl ?_
    refine v_nil ?_
    refine q_n ?_
    refine w_ret (q_r (q_br (q_r (q_r (q_br (q_r ?_))))))
    refine r_r rfl ?_
    exact a_b (by simp only [Bool.false_eq_true, false_iff]; exact fun ho => by have hq := ho.1 _ (List.getElem_mem hi1); have q1 := hq.1.2.2; omega)
  have hot := h5
  refine v_pick_f rfl rfl ?_
  refine v_move rfl ?_
  refine v_guard_on rfl rfl ?_
  refine v_fa_pt (off' := 24) lay56 rfl rfl rfl ?_
  refine v_guard_on rfl rfl ?_
  refine v_load_pt (.c _) lay2 rfl rfl rfl rfl ?_
  refine v_guard_on rfl rfl ?_
  refine v_neq lay2 rfl rfl (fun h6 => ?_) (fun h6 => ?_)
  rotate_left
  · have hm1 := h6
    refine v_guard_on rfl rfl ?_
    refine v_move rfl ?_
    refine v_guard_off rfl rfl rfl ?_
    refine v_guard_off rfl rfl rfl ?_
    refine v_guard_off rfl rfl rfl ?_
    refine v_guard_off rfl rfl rfl ?_
    refine v_guard_off rfl rfl rfl ?_
    refine v_guard_off rfl rfl rfl ?_
    refine v_guard_off rfl rfl rfl ?_
    refine v_guard_on rfl rfl ?_
    refine v_pick_f (v := .v (.bool false)) rfl rfl ?_
    refine v_pick_f rfl rfl ?_
    refine v_nil ?_
    refine q_n ?_
    refine w_f rfl ?_
    refine w_skip ?_
    refine q_n ?_
    refine w_draw [0, 0, 2, 7, 0, 0, 32, 127, 255, 511] [⟨0, 0, []⟩, ⟨1, 0, []⟩, ⟨2, 0, []⟩, ⟨4, 0, []⟩, ⟨5, 0, []⟩, ⟨6, 0, []⟩, ⟨3, 1, [6]⟩, ⟨7, 1, []⟩, ⟨8, 0, []⟩, ⟨9, 0, []⟩] rfl rfl ?_
    refine d_q rfl rfl rfl rfl rfl ?_
    refine v_move rfl ?_
    refine v_nil ?_
    refine d_q rfl rfl rfl rfl rfl ?_
    refine v_fa_pt (off' := 22) lay56 rfl rfl rfl ?_
    refine v_nil ?_
    refine d_q rfl rfl rfl rfl rfl ?_
    refine v_load_pt (.c _) lay54 rfl rfl rfl rfl ?_
    refine v_nil ?_
    refine d_q rfl rfl rfl rfl rfl ?_
    refine v_move rfl ?_
    refine v_nil ?_
    refine d_q rfl rfl rfl rfl rfl ?_
    refine v_fa_pt (off' := 23) lay56 rfl rfl rfl ?_
    refine v_nil ?_
    refine d_q rfl rfl rfl rfl rfl ?_
    refine v_load_pt (.c _) lay54 rfl rfl rfl rfl ?_
    refine v_nil ?_
    refine d_e rfl rfl rfl ?_
    refine v_app_flat_sl (H' := [_, _, _, _, _]) int_sc int_len lay54 lay2 rfl rfl (by simp) rfl rfl rfl (by unfold maxLen; simp only []; omega) rfl rfl ?_
    refine v_nil ⟨⟨ag_load_pt (.c _) lay54 rfl rfl rfl rfl, ⟨trivial, trivial⟩⟩, ?_⟩
    refine d_e rfl rfl rfl ?_
    refine v_app_flat_sl (H' := [_, _, _, _, _, _]) int_sc int_len lay54 lay2 rfl rfl (by simp) rfl rfl rfl (by unfold maxLen; simp only []; omega) rfl rfl ?_
    refine v_nil ⟨again_nil, ?_⟩
    refine d_q rfl rfl rfl rfl rfl ?_
    refine v_assign rfl ?_
    refine v_nil ?_
    refine d_q rfl rfl rfl rfl rfl ?_
    refine v_assign rfl ?_
    refine v_nil ?_
    refine d_nil ?_
    refine q_bn ?_
    refine q_n ?_
    refine w_reg rfl ?_
    refine v_add lay3 rfl rfl (i64r (by omega)) ?_
    refine v_move rfl ?_
    refine v_nil ?_
    refine q_n ?_
    have es1 := insA_step hi1
    have es2 := outsA_step hi1
    refine ⟨_, _, _, ?_, ⟨i + 1, rfl, by omega, all_step hi1 hp ⟨⟨hjn, by omega, by omega⟩, by omega⟩, rfl, rfl⟩, by omega⟩
    exact turn [some 0, some 4, some 5] rfl rfl rfl ⟨⟨_, rfl, .cons tr_sl (.cons tr_sl (.cons tr_sl (.cons tr_sl (.cons tr_v (.cons tr_f (.cons tr_f .nil))))))⟩, ⟨_, rfl, trc_flat int_sc (congrArg (flat int) es1.symm)⟩, ⟨_, rfl, trc_flat int_sc (congrArg (flat int) es2.symm)⟩, trivial⟩ ⟨tr_pt rfl, tr_mun rfl (by rw [es1]; simp), tr_mun rfl (by rw [es2]; simp), tr_sl, tr_v, tr_v, trivial⟩
  have hm1 := h6
  refine v_guard_on rfl rfl ?_
  refine v_move rfl ?_
  refine v_guard_on rfl rfl ?_
  refine v_fa_pt (off' := 24) lay56 rfl rfl rfl ?_
  refine v_guard_on rfl rfl ?_
  refine v_load_pt (.c _) lay2 rfl rfl rfl rfl ?_
  refine v_guard_on rfl rfl ?_
  refine v_fa_pt (off' := 3) lay35 rfl rfl rfl ?_
  refine v_guard_on rfl rfl ?_
  refine v_load_pt (.c _) lay33 rfl rfl rfl rfl ?_
  refine v_guard_on rfl rfl ?_
  refine v_len_sl lay33 rfl ?_
  refine v_guard_on rfl rfl ?_
  refine v_callb (cPlace _ _ (by have q1 := hB.2.2.2.2.1; omega)) rfl rfl (.cons vw_v (.cons vw_v .nil)) (fun h7 => ?_) (fun h7 => ?_)
  rotate_left
  · have hpl := h7
    refine v_guard_on rfl rfl ?_
    refine v_not true rfl rfl ?_
    refine v_guard_on rfl rfl ?_
    refine v_pick_t rfl rfl ?_
    refine v_pick_f rfl rfl ?_
    refine v_nil ?_
    refine q_n ?_
    refine w_t rfl ?_
    refine w_seq ?_
    refine w_reg rfl ?_
    refine v_assign (c := .v (.bool false)) rfl ?_
    refine v_nil ?_
    refine q_n ?_
    refine w_ret (q_r (q_br (q_r (q_r (q_br (q_r ?_))))))
    refine r_r rfl ?_
    exact a_b (by simp only [Bool.false_eq_true, false_iff]; exact fun ho => by have hq := ho.1 _ (List.getElem_mem hi1); have q1 := hq.2; omega)
  have hpl := h7
  refine v_guard_on rfl rfl ?_
  refine v_not false rfl rfl ?_
  refine v_guard_on rfl rfl ?_
  refine v_pick_t rfl rfl ?_
  refine v_pick_f rfl rfl ?_
  refine v_nil ?_
  refine q_n ?_
  refine w_f rfl ?_
  refine w_skip ?_
  refine q_n ?_
  refine w_draw [0, 0, 2, 7, 0, 0, 32, 127, 255, 511] [⟨0, 0, []⟩, ⟨1, 0, []⟩, ⟨2, 0, []⟩, ⟨4, 0, []⟩, ⟨5, 0, []⟩, ⟨6, 0, []⟩, ⟨3, 1, [6]⟩, ⟨7, 1, []⟩, ⟨8, 0, []⟩, ⟨9, 0, []⟩] rfl rfl ?_
  refine d_q rfl rfl rfl rfl rfl ?_
  refine v_move rfl ?_
  refine v_nil ?_
  refine d_q rfl rfl rfl rfl rfl ?_
  refine v_fa_pt (off' := 22) lay56 rfl rfl rfl ?_
  refine v_nil ?_
  refine d_q rfl rfl rfl rfl rfl ?_
  refine v_load_pt (.c _) lay54 rfl rfl rfl rfl ?_
  refine v_nil ?_
  refine d_q rfl rfl rfl rfl rfl ?_
  refine v_move rfl ?_
  refine v_nil ?_
  refine d_q rfl rfl rfl rfl rfl ?_
  refine v_fa_pt (off' := 23) lay56 rfl rfl rfl ?_
  refine v_nil ?_
  refine d_q rfl rfl rfl rfl rfl ?_
  refine v_load_pt (.c _) lay54 rfl rfl rfl rfl ?_
  refine v_nil ?_
  refine d_e rfl rfl rfl ?_
  refine v_app_flat_sl (H' := [_, _, _, _, _]) int_sc int_len lay54 lay2 rfl rfl (by simp) rfl rfl rfl (by unfold maxLen; simp only []; omega) rfl rfl ?_
  refine v_nil ⟨⟨ag_load_pt (.c _) lay54 rfl rfl rfl rfl, ⟨trivial, trivial⟩⟩, ?_⟩
  refine d_e rfl rfl rfl ?_
  refine v_app_flat_sl (H' := [_, _, _, _, _, _]) int_sc int_len lay54 lay2 rfl rfl (by simp) rfl rfl rfl (by unfold maxLen; simp only []; omega) rfl rfl ?_
  refine v_nil ⟨again_nil, ?_⟩
  refine d_q rfl rfl rfl rfl rfl ?_
  refine v_assign rfl ?_
  refine v_nil ?_
  refine d_q rfl rfl rfl rfl rfl ?_
  refine v_assign rfl ?_
  refine v_nil ?_
  refine d_nil ?_
  refine q_bn ?_
  refine q_n ?_
  refine w_reg rfl ?_
  refine v_add lay3 rfl rfl (i64r (by omega)) ?_
  refine v_move rfl ?_
  refine v_nil ?_
  refine q_n ?_
  have es1 := insA_step hi1
  have es2 := outsA_step hi1
  refine ⟨_, _, _, ?_, ⟨i + 1, rfl, by omega, all_step hi1 hp ⟨⟨hjn, by omega, by omega⟩, by omega⟩, rfl, rfl⟩, by omega⟩
  exact turn [some 0, some 4, some 5] rfl rfl rfl ⟨⟨_, rfl, .cons tr_sl (.cons tr_sl (.cons tr_sl (.cons tr_sl (.cons tr_v (.cons tr_f (.cons tr_f .nil))))))⟩, ⟨_, rfl, trc_flat int_sc (congrArg (flat int) es1.symm)⟩, ⟨_, rfl, trc_flat int_sc (congrArg (flat int) es2.symm)⟩, trivial⟩ ⟨tr_pt rfl, tr_mun rfl (by rw [es1]; simp), tr_mun rfl (by rw [es2]; simp), tr_sl, tr_v, tr_v, trivial⟩
end Go.VL
namespace Go.VL
open Go.RowKit
set_option maxRecDepth 20000
set_option maxHeartbeats 8000000
/-- A town that is valid, as the program looks at it. -/
def townI (t : Tw) : Prop := tBnd t ∧ (∀ r ∈ t.1, roadOk r) ∧ (jAll t.2.2.2.1.length t.2.2.1 ∧ unl t.1.length (insA t.2.2.1) ∧ unl t.1.length (outsA t.2.2.1)) ∧ (∀ i, (h : i < t.2.1.length) → amtB t.2.1[i] = true ∧ (¬ feq t.2.1[i] → ¬ ∃ j ∈ t.2.2.1, (i : Int) ∈ j.2.2.1)) ∧ (∀ p ∈ t.2.2.2.1, okP p.1 p.2.1 p.2.2) ∧ (0 ≤ t.2.2.2.2.1 ∧ t.2.2.2.2.1 ≤ 1000000000) ∧ ∀ x ∈ [t.2.2.2.2.2.1, t.2.2.2.2.2.2], amtB x = true
instance (t : Tw) : Decidable (townI t) := by unfold townI; infer_instance
theorem two_sg {t : Tw} (hF : tF t) : ∀ x ∈ [t.2.2.2.2.2.1, t.2.2.2.2.2.2], Sg x := by
  intro x hx
  rcases List.mem_cons.1 hx with rfl | hx
  · exact hF.2.2.2.1
  · rw [List.mem_singleton] at hx
    subst hx
    exact hF.2.2.2.2.1
theorem cVtI (t : Tw) (hB : tB (2 ^ 20) t) (hF : tF t) : PureC X 14 [.agg (twf false t)] (cB (decide (townI t))) := by
  refine PureC.of_body (drawD_ok X) (fun _ _ => Go.Proofs.Tryz.call14 _ _) Go.Proofs.Tryz.func14 rfl (n := 80) rfl ?_
  refine w_seq ?_
  refine w_reg rfl ?_
  refine v_box (m := 0) (H' := [_]) lay35 rfl rfl rfl ?_
  refine v_assign (c := .v (.bool false)) rfl ?_
  refine v_nil ?_
  refine q_n ?_
  refine w_seq ?_
  refine w_seq ?_
  refine w_reg rfl ?_
  refine v_fa_pt (off' := 0) lay35 rfl rfl rfl ?_
  refine v_load_pt (.c _) lay31 rfl rfl rfl rfl ?_
  refine v_len_sl lay31 rfl ?_
  refine v_callb (cInR _ _ _) rfl rfl (.cons vw_v (.cons vw_v (.cons vw_v .nil))) (fun h1 => ?_) (fun h1 => ?_)
  rotate_left
  · have hrg := h1
    refine v_not true rfl rfl ?_
    refine v_move rfl ?_
    refine v_guard_off rfl rfl rfl ?_
    refine v_guard_off rfl rfl rfl ?_
    refine v_guard_off rfl rfl rfl ?_
    refine v_guard_off rfl rfl rfl ?_
    refine v_pick_t (v := .v (.bool true)) rfl rfl ?_
    refine v_move rfl ?_
    refine v_guard_off rfl rfl rfl ?_
    refine v_guard_off rfl rfl rfl ?_
    refine v_guard_off rfl rfl rfl ?_
    refine v_guard_off rfl rfl rfl ?_
    refine v_guard_off rfl rfl rfl ?_
    refine v_guard_off rfl rfl rfl ?_
    refine v_guard_off rfl rfl rfl ?_
    refine v_pick_t (v := .v (.bool true)) rfl rfl ?_
    refine v_move rfl ?_
    refine v_guard_off rfl rfl rfl ?_
    refine v_guard_off rfl rfl rfl ?_
    refine v_guard_off rfl rfl rfl ?_
    refine v_guard_off rfl rfl rfl ?_
    refine v_pick_t (v := .v (.bool true)) rfl rfl ?_
    refine v_move rfl ?_
    refine v_guard_off rfl rfl rfl ?_
    refine v_guard_off rfl rfl rfl ?_
    refine v_guard_off rfl rfl rfl ?_
    refine v_guard_off rfl rfl rfl ?_
    refine v_pick_t (v := .v (.bool true)) rfl rfl ?_
    refine v_move rfl ?_
    refine v_guard_off rfl rfl rfl ?_
    refine v_guard_off rfl rfl rfl ?_
    refine v_guard_off rfl rfl rfl ?_
    refine v_pick_t (v := .v (.bool true)) rfl rfl ?_
    refine v_nil ?_
    refine q_n ?_
    refine w_t rfl ?_
    refine w_seq ?_
    refine w_reg rfl ?_
    refine v_assign (c := .v (.bool false)) rfl ?_
    refine v_nil ?_
    refine q_n ?_
    refine w_ret (q_r ?_)
    refine r_r rfl ?_
    exact a_b (by simp only [Bool.false_eq_true, false_iff]; exact fun ho => hrg ho.1.1)
  have hrg := h1
  refine v_not false rfl rfl ?_
  refine v_move rfl ?_
  refine v_guard_on rfl rfl ?_
  refine v_fa_pt (off' := 0) lay35 rfl rfl rfl ?_
  refine v_guard_on rfl rfl ?_
  refine v_load_pt (.c _) lay31 rfl rfl rfl rfl ?_
  refine v_guard_on rfl rfl ?_
  refine v_callb (cAR _ (by have q1 := hB.1; omega) hF.1) rfl rfl (.cons vw_sl .nil) (fun h2 => ?_) (fun h2 => ?_)
  rotate_left
  · have hrd := h2
    refine v_guard_on rfl rfl ?_
    refine v_not true rfl rfl ?_
    refine v_pick_f rfl rfl ?_
    refine v_move rfl ?_
    refine v_guard_off rfl rfl rfl ?_
    refine v_guard_off rfl rfl rfl ?_
    refine v_guard_off rfl rfl rfl ?_
    refine v_guard_off rfl rfl rfl ?_
    refine v_guard_off rfl rfl rfl ?_
    refine v_guard_off rfl rfl rfl ?_
    refine v_guard_off rfl rfl rfl ?_
    refine v_pick_t (v := .v (.bool true)) rfl rfl ?_
    refine v_move rfl ?_
    refine v_guard_off rfl rfl rfl ?_
    refine v_guard_off rfl rfl rfl ?_
    refine v_guard_off rfl rfl rfl ?_
    refine v_guard_off rfl rfl rfl ?_
    refine v_pick_t (v := .v (.bool true)) rfl rfl ?_
    refine v_move rfl ?_
    refine v_guard_off rfl rfl rfl ?_
    refine v_guard_off rfl rfl rfl ?_
    refine v_guard_off rfl rfl rfl ?_
    refine v_guard_off rfl rfl rfl ?_
    refine v_pick_t (v := .v (.bool true)) rfl rfl ?_
    refine v_move rfl ?_
    refine v_guard_off rfl rfl rfl ?_
    refine v_guard_off rfl rfl rfl ?_
    refine v_guard_off rfl rfl rfl ?_
    refine v_pick_t (v := .v (.bool true)) rfl rfl ?_
    refine v_nil ?_
    refine q_n ?_
    refine w_t rfl ?_
    refine w_seq ?_
    refine w_reg rfl ?_
    refine v_assign (c := .v (.bool false)) rfl ?_
    refine v_nil ?_
    refine q_n ?_
    refine w_ret (q_r ?_)
    refine r_r rfl ?_
    exact a_b (by simp only [Bool.false_eq_true, false_iff]; exact fun ho => hrd ho.2.1)
  have hrd := h2
  refine v_guard_on rfl rfl ?_
  refine v_not false rfl rfl ?_
  refine v_pick_f rfl rfl ?_
  refine v_move rfl ?_
  refine v_guard_on rfl rfl ?_
  refine v_fa_pt (off' := 1) lay35 rfl rfl rfl ?_
  refine v_guard_on rfl rfl ?_
  refine v_load_pt (.c _) lay23 rfl rfl rfl rfl ?_
  refine v_guard_on rfl rfl ?_
  refine v_len_sl lay23 rfl ?_
  refine v_guard_on rfl rfl ?_
  refine v_fa_pt (off' := 0) lay35 rfl rfl rfl ?_
  refine v_guard_on rfl rfl ?_
  refine v_load_pt (.c _) lay31 rfl rfl rfl rfl ?_
  refine v_guard_on rfl rfl ?_
  refine v_len_sl lay31 rfl ?_
  refine v_guard_on rfl rfl ?_
  refine v_neq lay3 rfl rfl (fun h3 => ?_) (fun h3 => ?_)
  · have hof := h3
    refine v_pick_f rfl rfl ?_
    refine v_move rfl ?_
    refine v_guard_off rfl rfl rfl ?_
    refine v_guard_off rfl rfl rfl ?_
    refine v_guard_off rfl rfl rfl ?_
    refine v_guard_off rfl rfl rfl ?_
    refine v_pick_t (v := .v (.bool true)) rfl rfl ?_
    refine v_move rfl ?_
    refine v_guard_off rfl rfl rfl ?_
    refine v_guard_off rfl rfl rfl ?_
    refine v_guard_off rfl rfl rfl ?_
    refine v_guard_off rfl rfl rfl ?_
    refine v_pick_t (v := .v (.bool true)) rfl rfl ?_
    refine v_move rfl ?_
    refine v_guard_off rfl rfl rfl ?_
    refine v_guard_off rfl rfl rfl ?_
    refine v_guard_off rfl rfl rfl ?_
    refine v_pick_t (v := .v (.bool true)) rfl rfl ?_
    refine v_nil ?_
    refine q_n ?_
    refine w_t rfl ?_
    refine w_seq ?_
    refine w_reg rfl ?_
    refine v_assign (c := .v (.bool false)) rfl ?_
    refine v_nil ?_
    refine q_n ?_
    refine w_ret (q_r ?_)
    refine r_r rfl ?_
    exact a_b (by simp only [Bool.false_eq_true, false_iff]; exact fun ho => (by have q1 := ho.1.2.1; omega))
  have hof := h3
  refine v_pick_f rfl rfl ?_
  refine v_move rfl ?_
  refine v_guard_on rfl rfl ?_
  refine v_fa_pt (off' := 2) lay35 rfl rfl rfl ?_
  refine v_guard_on rfl rfl ?_
  refine v_load_pt (.c _) lay32 rfl rfl rfl rfl ?_
  refine v_guard_on rfl rfl ?_
  refine v_len_sl lay32 rfl ?_
  refine v_guard_on rfl rfl ?_
  refine v_gtr lay3 rfl rfl (fun h4 => ?_) (fun h4 => ?_)
  · have hjl := h4
    refine v_pick_f rfl rfl ?_
    refine v_move rfl ?_
    refine v_guard_off rfl rfl rfl ?_
    refine v_guard_off rfl rfl rfl ?_
    refine v_guard_off rfl rfl rfl ?_
    refine v_guard_off rfl rfl rfl ?_
    refine v_pick_t (v := .v (.bool true)) rfl rfl ?_
    refine v_move rfl ?_
    refine v_guard_off rfl rfl rfl ?_
    refine v_guard_off rfl rfl rfl ?_
    refine v_guard_off rfl rfl rfl ?_
    refine v_pick_t (v := .v (.bool true)) rfl rfl ?_
    refine v_nil ?_
    refine q_n ?_
    refine w_t rfl ?_
    refine w_seq ?_
    refine w_reg rfl ?_
    refine v_assign (c := .v (.bool false)) rfl ?_
    refine v_nil ?_
    refine q_n ?_
    refine w_ret (q_r ?_)
    refine r_r rfl ?_
    exact a_b (by simp only [Bool.false_eq_true, false_iff]; exact fun ho => (by have q1 := ho.1.2.2.1; omega))
  have hjl := h4
  refine v_pick_f rfl rfl ?_
  refine v_move rfl ?_
  refine v_guard_on rfl rfl ?_
  refine v_fa_pt (off' := 3) lay35 rfl rfl rfl ?_
  refine v_guard_on rfl rfl ?_
  refine v_load_pt (.c _) lay33 rfl rfl rfl rfl ?_
  refine v_guard_on rfl rfl ?_
  refine v_len_sl lay33 rfl ?_
  refine v_guard_on rfl rfl ?_
  refine v_gtr lay3 rfl rfl (fun h5 => ?_) (fun h5 => ?_)
  · have hpl := h5
    refine v_pick_f rfl rfl ?_
    refine v_move rfl ?_
    refine v_guard_off rfl rfl rfl ?_
    refine v_guard_off rfl rfl rfl ?_
    refine v_guard_off rfl rfl rfl ?_
    refine v_pick_t (v := .v (.bool true)) rfl rfl ?_
    refine v_nil ?_
    refine q_n ?_
    refine w_t rfl ?_
    refine w_seq ?_
    refine w_reg rfl ?_
    refine v_assign (c := .v (.bool false)) rfl ?_
    refine v_nil ?_
    refine q_n ?_
    refine w_ret (q_r ?_)
    refine r_r rfl ?_
    exact a_b (by simp only [Bool.false_eq_true, false_iff]; exact fun ho => (by have q1 := ho.1.2.2.2; omega))
  have hpl := h5
  refine v_pick_f rfl rfl ?_
  refine v_move rfl ?_
  refine v_guard_on rfl rfl ?_
  refine v_load_pt (.agg [_, _, _, _, _, _, _]) lay35 rfl rfl rfl rfl ?_
  refine v_guard_on rfl rfl ?_
  refine v_callb (cJok _ hB hF (by omega)) rfl rfl (.cons (vw_agg (.cons vw_sl (.cons vw_sl (.cons vw_sl (.cons vw_sl (.cons vw_v (.cons vw_f (.cons vw_f .nil)))))))) .nil) (fun h6 => ?_) (fun h6 => ?_)
  rotate_left
  · have hjk := h6
    refine v_guard_on rfl rfl ?_
    refine v_not true rfl rfl ?_
    refine v_pick_f rfl rfl ?_
    refine v_nil ?_
    refine q_n ?_
    refine w_t rfl ?_
    refine w_seq ?_
    refine w_reg rfl ?_
    refine v_assign (c := .v (.bool false)) rfl ?_
    refine v_nil ?_
    refine q_n ?_
    refine w_ret (q_r ?_)
    refine r_r rfl ?_
    exact a_b (by simp only [Bool.false_eq_true, false_iff]; exact fun ho => hjk ho.2.2.1)
  have hjk := h6
  refine v_guard_on rfl rfl ?_
  refine v_not false rfl rfl ?_
  refine v_pick_f rfl rfl ?_
  refine v_nil ?_
  refine q_n ?_
  refine w_f rfl ?_
  refine w_skip ?_
  refine q_n ?_
  refine w_seq ?_
  refine w_seq ?_
  refine w_reg rfl ?_
  refine v_fa_pt (off' := 1) lay35 rfl rfl rfl ?_
  refine v_load_pt (.c _) lay23 rfl rfl rfl rfl ?_
  refine v_len_sl lay23 rfl ?_
  refine v_move (c := .v (.int .i64 0)) rfl ?_
  refine v_nil ?_
  refine q_n ?_
  refine w_block ?_
  refine w_loop (fun k sl H => ∃ i : Nat, k = t.2.1.length - i ∧ i ≤ t.2.1.length ∧ (∀ q, q < i → (h : q < t.2.1.length) → amtB t.2.1[q] = true ∧ (¬ feq t.2.1[q] → ¬ ∃ j ∈ t.2.2.1, (q : Int) ∈ j.2.2.1)) ∧ sl = sls [(1, .c (.pt 0 0)), (43, .c (flo false t.2.1)), (44, cI t.2.1.length), (45, cI i)] ∧ H = [⟨twf false t, 35, true⟩]) ?_ ?_
  · refine ⟨_, _, _, ?_, 0, rfl, Nat.zero_le _, fun q hq => by omega, rfl, rfl⟩
    exact turn [some 0] rfl rfl rfl ⟨⟨_, rfl, .cons tr_sl (.cons tr_sl (.cons tr_sl (.cons tr_sl (.cons tr_v (.cons tr_f (.cons tr_f .nil))))))⟩, trivial⟩ ⟨tr_pt rfl, tr_sl, tr_v, tr_v, trivial⟩
  rintro k sl H ⟨i, rfl, hi, hp, rfl, rfl⟩
  refine w_seq ?_
  refine w_reg rfl ?_
  refine v_lss lay3 rfl rfl (fun h7 => ?_) (fun h7 => ?_)
  rotate_left
  · refine v_nil ?_
    refine q_n ?_
    refine w_seq ?_
    refine w_f rfl ?_
    refine w_exit ?_
    refine q_e ?_
    refine q_e ?_
    refine q_hit ?_
    refine q_n ?_
    refine w_seq ?_
    refine w_reg rfl ?_
    refine v_fa_pt (off' := 3) lay35 rfl rfl rfl ?_
    refine v_load_pt (.c _) lay33 rfl rfl rfl rfl ?_
    refine v_callb (cCFp 54 (fun p => ¬ okP p.1 p.2.1 p.2.2) _ (by have := hB.2.2.2.2.1; omega) (fun p hp => cVt1 p (by have := hB.2.2.2.2.2 p hp; omega))) rfl rfl (.cons vw_sl (.cons (vw_fn .nil) .nil)) (fun h12 => ?_) (fun h12 => ?_)
    · have hpk := h12
      refine v_not false rfl rfl ?_
      refine v_move rfl ?_
      refine v_guard_off rfl rfl rfl ?_
      refine v_guard_off rfl rfl rfl ?_
      refine v_guard_off rfl rfl rfl ?_
      refine v_pick_f (v := .v (.bool false)) rfl rfl ?_
      refine v_move rfl ?_
      refine v_guard_off rfl rfl rfl ?_
      refine v_guard_off rfl rfl rfl ?_
      refine v_guard_off rfl rfl rfl ?_
      refine v_guard_off rfl rfl rfl ?_
      refine v_guard_off rfl rfl rfl ?_
      refine v_guard_off rfl rfl rfl ?_
      refine v_pick_f (v := .v (.bool false)) rfl rfl ?_
      refine v_assign rfl ?_
      refine v_nil ?_
      refine q_n ?_
      refine w_ret ?_
      refine r_r rfl ?_
      exact a_b (by simp only [Bool.false_eq_true, false_iff]; exact fun ho => (by obtain ⟨p, q1, q2⟩ := hpk; exact q2 (ho.2.2.2.2.1 p q1)))
    have hpk := h12
    refine v_not true rfl rfl ?_
    refine v_move rfl ?_
    refine v_guard_on rfl rfl ?_
    refine v_fa_pt (off' := 4) lay35 rfl rfl rfl ?_
    refine v_guard_on rfl rfl ?_
    refine v_load_pt (.c _) lay2 rfl rfl rfl rfl ?_
    refine v_guard_on rfl rfl ?_
    refine v_callb (cTick _) rfl rfl (.cons vw_v .nil) (fun h13 => ?_) (fun h13 => ?_)
    rotate_left
    · have htk := h13
      refine v_pick_t rfl rfl ?_
      refine v_move rfl ?_
      refine v_guard_off rfl rfl rfl ?_
      refine v_guard_off rfl rfl rfl ?_
      refine v_guard_off rfl rfl rfl ?_
      refine v_guard_off rfl rfl rfl ?_
      refine v_guard_off rfl rfl rfl ?_
      refine v_guard_off rfl rfl rfl ?_
      refine v_pick_f (v := .v (.bool false)) rfl rfl ?_
      refine v_assign rfl ?_
      refine v_nil ?_
      refine q_n ?_
      refine w_ret ?_
      refine r_r rfl ?_
      exact a_b (by simp only [Bool.false_eq_true, false_iff]; exact fun ho => htk ho.2.2.2.2.2.1)
    have htk := h13
    refine v_pick_t rfl rfl ?_
    refine v_move rfl ?_
    refine v_guard_on rfl rfl ?_
    refine v_fa_pt (off' := 5) lay35 rfl rfl rfl ?_
    refine v_guard_on rfl rfl ?_
    refine v_load_pt (.c _) lay26 rfl rfl rfl rfl ?_
    refine v_guard_on rfl rfl ?_
    refine v_fa_pt (off' := 6) lay35 rfl rfl rfl ?_
    refine v_guard_on rfl rfl ?_
    refine v_load_pt (.c _) lay26 rfl rfl rfl rfl ?_
    refine v_guard_on rfl rfl ?_
    refine v_lit (flat fe [_, _]) (H' := [_, _]) lay23 lay26 rfl rfl ⟨by decide, by decide⟩ rfl rfl ?_
    refine v_guard_on rfl rfl ?_
    refine v_callb (cAA [t.2.2.2.2.2.1, t.2.2.2.2.2.2] (Nat.le_of_ble_eq_true rfl) (two_sg hF)) rfl rfl (.cons (vw_mu2 fe_sc fe_len rfl (by first | (simp; done) | (simp; omega))) .nil) (fun h14 => ?_) (fun h14 => ?_)
    rotate_left
    · have haa := h14
      refine v_pick_t rfl rfl ?_
      refine v_assign rfl ?_
      refine v_nil ?_
      refine q_n ?_
      refine w_ret ?_
      refine r_r rfl ?_
      exact a_b (by simp only [Bool.false_eq_true, false_iff]; exact fun ho => haa ho.2.2.2.2.2.2)
    have haa := h14
    refine v_pick_t rfl rfl ?_
    refine v_assign rfl ?_
    refine v_nil ?_
    refine q_n ?_
    refine w_ret ?_
    refine r_r rfl ?_
    exact a_b (by simp only [true_iff]; exact ⟨⟨hrg, by omega, by omega, by omega⟩, hrd, hjk, fun q h => hp q (by omega) h, fun p q1 => Decidable.byContradiction fun q2 => hpk ⟨p, q1, q2⟩, htk, haa⟩)
  have hi1 : i < t.2.1.length := by omega
  refine v_nil ?_
  refine q_n ?_
  refine w_seq ?_
  refine w_t rfl ?_
  refine w_skip ?_
  refine q_n ?_
  refine w_seq ?_
  refine w_block ?_
  refine w_seq ?_
  refine w_reg rfl ?_
  refine v_move rfl ?_
  refine v_idx_e (k := 1) (i) fe_len lay23 lay26 rfl rfl rfl (rfl) rfl (rfl) (hi1) ?_
  refine v_load_vw (.c (.f _ _)) lay26 rfl rfl rfl ?_
  refine v_assign rfl ?_
  refine v_assign rfl ?_
  refine v_nil ?_
  refine q_n ?_
  refine w_seq ?_
  refine w_reg rfl ?_
  refine v_move rfl ?_
  refine v_callb (cAmI _ (hF.2.1 _ (List.getElem_mem hi1))) rfl rfl (.cons vw_f .nil) (fun h9 => ?_) (fun h9 => ?_)
  rotate_left
  · have ham := h9
    refine v_not true rfl rfl ?_
    refine v_move rfl ?_
    refine v_guard_off rfl rfl rfl ?_
    refine v_guard_off rfl rfl rfl ?_
    refine v_guard_off rfl rfl rfl ?_
    refine v_guard_un rfl rfl ?_
    refine v_guard_un rfl rfl ?_
    refine v_guard_un rfl rfl ?_
    refine v_guard_off rfl rfl rfl ?_
    refine v_pick_t (v := .v (.bool true)) rfl rfl ?_
    refine v_nil ?_
    refine q_n ?_
    refine w_t rfl ?_
    refine w_seq ?_
    refine w_reg rfl ?_
    refine v_assign (c := .v (.bool false)) rfl ?_
    refine v_nil ?_
    refine q_n ?_
    refine w_ret (q_br (q_r (q_r (q_br (q_r ?_)))))
    refine r_r rfl ?_
    exact a_b (by simp only [Bool.false_eq_true, false_iff]; exact fun ho => ham (ho.2.2.2.1 i hi1).1)
  have ham := h9
  refine v_not false rfl rfl ?_
  refine v_move rfl ?_
  refine v_guard_on rfl rfl ?_
  refine v_move rfl ?_
  refine v_guard_on rfl rfl ?_
  refine v_binb lay26 rfl rfl rfl (fun h10 => ?_) (fun h10 => ?_)
  rotate_left
  · have hfe : feq t.2.1[i] := ne_f h10
    refine v_guard_on rfl rfl ?_
    refine v_move rfl ?_
    refine v_guard_off rfl rfl rfl ?_
    refine v_guard_off rfl rfl rfl ?_
    refine v_guard_off rfl rfl rfl ?_
    refine v_guard_on rfl rfl ?_
    refine v_pick_f (v := .v (.bool false)) rfl rfl ?_
    refine v_pick_f rfl rfl ?_
    refine v_nil ?_
    refine q_n ?_
    refine w_f rfl ?_
    refine w_skip ?_
    refine q_bn ?_
    refine q_n ?_
    refine w_reg rfl ?_
    refine v_add lay3 rfl rfl (i64r (by have q1 := hB.2.1; omega)) ?_
    refine v_move rfl ?_
    refine v_nil ?_
    refine q_n ?_
    refine ⟨_, _, _, ?_, ⟨i + 1, rfl, by omega, fun q hq h => ?_, rfl, rfl⟩, by omega⟩
    · exact turn [some 0] rfl rfl rfl ⟨⟨_, rfl, .cons tr_sl (.cons tr_sl (.cons tr_sl (.cons tr_sl (.cons tr_v (.cons tr_f (.cons tr_f .nil))))))⟩, trivial⟩ ⟨tr_pt rfl, tr_sl, tr_v, tr_v, trivial⟩
    · rcases Nat.lt_or_eq_of_le (Nat.le_of_lt_succ hq) with h2 | rfl
      · exact hp q h2 h
      · exact ⟨ham, fun hn => absurd hfe hn⟩
  have hfe : ¬ feq t.2.1[i] := ne_t h10
  refine v_guard_on rfl rfl ?_
  refine v_move rfl ?_
  refine v_guard_on rfl rfl ?_
  refine v_load_pt (.agg [_, _, _, _, _, _, _]) lay35 rfl rfl rfl rfl ?_
  refine v_guard_on rfl rfl ?_
  refine v_move rfl ?_
  refine v_guard_on rfl rfl ?_
  refine v_callb (cIsOut _ _ hB) rfl rfl (.cons (vw_agg (.cons vw_sl (.cons vw_sl (.cons vw_sl (.cons vw_sl (.cons vw_v (.cons vw_f (.cons vw_f .nil)))))))) (.cons vw_v .nil)) (fun h11 => ?_) (fun h11 => ?_)
  · have hou := h11
    refine v_guard_on rfl rfl ?_
    refine v_pick_t rfl rfl ?_
    refine v_pick_f rfl rfl ?_
    refine v_nil ?_
    refine q_n ?_
    refine w_t rfl ?_
    refine w_seq ?_
    refine w_reg rfl ?_
    refine v_assign (c := .v (.bool false)) rfl ?_
    refine v_nil ?_
    refine q_n ?_
    refine w_ret (q_br (q_r (q_r (q_br (q_r ?_)))))
    refine r_r rfl ?_
    exact a_b (by simp only [Bool.false_eq_true, false_iff]; exact fun ho => (ho.2.2.2.1 i hi1).2 hfe hou)
  have hou := h11
  refine v_guard_on rfl rfl ?_
  refine v_pick_t rfl rfl ?_
  refine v_pick_f rfl rfl ?_
  refine v_nil ?_
  refine q_n ?_
  refine w_f rfl ?_
  refine w_skip ?_
  refine q_bn ?_
  refine q_n ?_
  refine w_reg rfl ?_
  refine v_add lay3 rfl rfl (i64r (by have q1 := hB.2.1; omega)) ?_
  refine v_move rfl ?_
  refine v_nil ?_
  refine q_n ?_
  refine ⟨_, _, _, ?_, ⟨i + 1, rfl, by omega, fun q hq h => ?_, rfl, rfl⟩, by omega⟩
  · exact turn [some 0] rfl rfl rfl ⟨⟨_, rfl, .cons tr_sl (.cons tr_sl (.cons tr_sl (.cons tr_sl (.cons tr_v (.cons tr_f (.cons tr_f .nil))))))⟩, trivial⟩ ⟨tr_pt rfl, tr_sl, tr_v, tr_v, trivial⟩
  · rcases Nat.lt_or_eq_of_le (Nat.le_of_lt_succ hq) with h2 | rfl
    · exact hp q h2 h
    · exact ⟨ham, fun hn => hou⟩
end Go.VL
namespace Go.VL
open Go.RowKit
theorem usd_app : ∀ {xs ys : List Int} {u : List Bool}, usd (xs ++ ys) u = if (usd xs u).1 = true then usd ys (usd xs u).2 else usd xs u
  | [], ys, u => by simp [usd]
  | a :: r, ys, u => by
    simp only [List.cons_append, usd]
    split
    · exact usd_app
    · simp
theorem getD_set {u : List Bool} {i j : Nat} (hi : i < u.length) : (u.set i true).getD j true = if i = j then true else u.getD j true := by
  rw [List.getD_eq_getElem?_getD, List.getElem?_set, List.getD_eq_getElem?_getD]
  split
  · rename_i h
    subst h
    simp [hi]
  · rfl
theorem usd_iff : ∀ {xs : List Int} {u : List Bool}, (usd xs u).1 = true ↔ (∀ x ∈ xs, (0 ≤ x ∧ x ≤ (u.length : Int) - 1) ∧ u.getD x.toNat true = false) ∧ xs.Nodup
  | [], u => by simp [usd]
  | a :: r, u => by
    unfold usd
    split
    · rename_i h
      have hl : a.toNat < u.length := by omega
      rw [usd_iff, List.length_set, List.nodup_cons]
      constructor
      · rintro ⟨h1, h2⟩
        have hn : a ∉ r := fun hm => by
          have := (h1 a hm).2
          rw [getD_set hl, if_pos rfl] at this
          cases this
        refine ⟨fun x hx => ?_, hn, h2⟩
        rcases List.mem_cons.1 hx with rfl | hx
        · exact h
        · refine ⟨(h1 x hx).1, ?_⟩
          have := (h1 x hx).2
          rw [getD_set hl] at this
          split at this
          · cases this
          · exact this
      · rintro ⟨h1, h2, h3⟩
        refine ⟨fun x hx => ⟨(h1 x (by simp [hx])).1, ?_⟩, h3⟩
        rw [getD_set hl, if_neg]
        · exact (h1 x (by simp [hx])).2
        · intro e
          have hr := (h1 x (by simp [hx])).1
          have : a = x := by omega
          subst this
          exact h2 hx
    · rename_i h
      simp only [Bool.false_eq_true, false_iff]
      exact fun hc => h (hc.1 a (by simp))
theorem unl_iff {n : Nat} {xs : List Int} : unl n xs ↔ (∀ x ∈ xs, 0 ≤ x ∧ x ≤ (n : Int) - 1) ∧ xs.Nodup := by
  constructor
  · intro h
    refine ⟨fun x hx => ?_, ?_⟩
    · obtain ⟨i, hi, rfl⟩ := List.getElem_of_mem hx
      exact (h i hi).1
    · rw [List.nodup_iff_pairwise_ne, List.pairwise_iff_getElem]
      intro i j hi hj hij e
      refine (h j hj).2 ?_
      rw [← e]
      exact List.mem_take_iff_getElem.2 ⟨i, by omega, rfl⟩
  · rintro ⟨h1, h2⟩ i hi
    refine ⟨h1 _ (List.getElem_mem hi), fun hm => ?_⟩
    obtain ⟨j, hj, e⟩ := List.mem_take_iff_getElem.1 hm
    rw [List.nodup_iff_pairwise_ne, List.pairwise_iff_getElem] at h2
    exact h2 j i (by omega) hi (by omega) e
theorem usd_0 {n : Nat} {xs : List Int} : (usd xs (List.replicate n false)).1 = true ↔ unl n xs := by
  rw [usd_iff, unl_iff, List.length_replicate]
  constructor
  · rintro ⟨h1, h2⟩
    exact ⟨fun x hx => (h1 x hx).1, h2⟩
  · rintro ⟨h1, h2⟩
    refine ⟨fun x hx => ⟨h1 x hx, ?_⟩, h2⟩
    have := h1 x hx
    rw [List.getD_eq_getElem?_getD, List.getElem?_replicate, if_pos (by omega)]
    rfl
theorem usd_mem : ∀ {xs : List Int} {u : List Bool} {k : Nat}, (usd xs u).1 = true → k < u.length → ((usd xs u).2.getD k true = true ↔ u.getD k true = true ∨ (k : Int) ∈ xs)
  | [], u, k, _, _ => by simp [usd]
  | a :: r, u, k, h, hk => by
    unfold usd at h ⊢
    split at h
    · rename_i hc
      rw [if_pos hc, usd_mem h (by rw [List.length_set]; exact hk), getD_set (by omega)]
      by_cases e : a.toNat = k
      · have : (k : Int) = a := by omega
        simp [e, this]
      · have : ¬ (k : Int) = a := by omega
        simp [e, this]
    · cases h
theorem jAll_cons {np : Nat} {j : Jo} {r : List Jo} : jAll np (j :: r) ↔ (jPre j ∧ (-1 ≤ j.2.2.2 ∧ j.2.2.2 ≤ (np : Int) - 1)) ∧ jAll np r := by
  unfold jAll
  exact ⟨fun h => ⟨h j (by simp), fun x hx => h x (by simp [hx])⟩, fun h x hx => by
    rcases List.mem_cons.1 hx with rfl | hx
    · exact h.1
    · exact h.2 x hx⟩
theorem ends_iff {np : Nat} : ∀ {js : List Jo} {a b : List Bool}, (ends np js a b).2.2 = true ↔ jAll np js ∧ (usd (insA js) a).1 = true ∧ (usd (outsA js) b).1 = true
  | [], a, b => by
    refine ⟨fun _ => ⟨(fun j hj => by cases hj), rfl, rfl⟩, fun _ => rfl⟩
  | j :: r, a, b => by
    rw [jAll_cons, show insA (j :: r) = j.2.1 ++ insA r from rfl, show outsA (j :: r) = j.2.2.1 ++ outsA r from rfl, usd_app, usd_app]
    unfold ends
    by_cases h0 : jPre j
    · by_cases h1 : (usd j.2.1 a).1 = true
      · by_cases h2 : (usd j.2.2.1 b).1 = true
        · by_cases h3 : -1 ≤ j.2.2.2 ∧ j.2.2.2 ≤ (np : Int) - 1
          · rw [if_pos h0, if_pos h1, if_pos h2, if_pos h3, if_pos h1, if_pos h2, ends_iff]
            exact ⟨fun h => ⟨⟨⟨h0, h3⟩, h.1⟩, h.2⟩, fun h => ⟨h.1.2, h.2⟩⟩
          · rw [if_pos h0, if_pos h1, if_pos h2, if_neg h3]
            exact ⟨(fun h => by cases h), fun h => absurd h.1.1.2 h3⟩
        · rw [if_pos h0, if_pos h1, if_neg h2, if_neg h2]
          exact ⟨(fun h => by cases h), fun h => absurd h.2.2 h2⟩
      · rw [if_pos h0, if_neg h1, if_neg h1]
        exact ⟨(fun h => by cases h), fun h => absurd h.2.1 h1⟩
    · rw [if_neg h0]
      exact ⟨(fun h => by cases h), fun h => absurd h.1.1.1 h0⟩
theorem ends_out {np : Nat} : ∀ {js : List Jo} {a b : List Bool}, (ends np js a b).2.2 = true → (ends np js a b).2.1 = (usd (outsA js) b).2
  | [], a, b, _ => rfl
  | j :: r, a, b, h => by
    rw [show outsA (j :: r) = j.2.2.1 ++ outsA r from rfl, usd_app]
    unfold ends at h ⊢
    by_cases h0 : jPre j
    · by_cases h1 : (usd j.2.1 a).1 = true
      · by_cases h2 : (usd j.2.2.1 b).1 = true
        · by_cases h3 : -1 ≤ j.2.2.2 ∧ j.2.2.2 ≤ (np : Int) - 1
          · rw [if_pos h0, if_pos h1, if_pos h2, if_pos h3] at h ⊢
            rw [if_pos h2]
            exact ends_out h
          · rw [if_pos h0, if_pos h1, if_pos h2, if_neg h3] at h
            cases h
        · rw [if_pos h0, if_pos h1, if_neg h2] at h
          cases h
      · rw [if_pos h0, if_neg h1] at h
        cases h
    · rw [if_neg h0] at h
      cases h
end Go.VL
namespace Go.VL
open Go.RowKit
theorem endT_iff (t : Tw) : (endT t).2.2 = true ↔ jAll t.2.2.2.1.length t.2.2.1 ∧ unl t.1.length (insA t.2.2.1) ∧ unl t.1.length (outsA t.2.2.1) := by
  rw [ends_iff, usd_0, usd_0]
theorem out_iff {t : Tw} (hE : (endT t).2.2 = true) {i : Nat} (hi : i < t.1.length) : (endT t).2.1.getD i false = true ↔ ∃ j ∈ t.2.2.1, (i : Int) ∈ j.2.2.1 := by
  have h2 := (ends_iff.1 hE).2.2
  have h3 := usd_mem (k := i) h2 (by rw [List.length_replicate]; exact hi)
  have hl := endT_len t
  have e : (endT t).2.1.getD i false = (endT t).2.1.getD i true := by rw [gd (by omega), gd (by omega)]
  rw [e, ends_out hE, h3, List.getD_eq_getElem?_getD, List.getElem?_replicate, if_pos hi]
  simp [outsA]
theorem town_iff (t : Tw) : townOk t ↔ townI t := by
  unfold townOk townI
  constructor
  · rintro ⟨hb, ⟨hE, hR, hP⟩, htk, hc, hw⟩
    have hlen := hb.2.1
    refine ⟨hb, fun r hr => ?_, (endT_iff t).1 hE, fun i hi => ?_, hP, htk, fun x hx => ?_⟩
    · obtain ⟨i, hi, rfl⟩ := List.getElem_of_mem hr
      have := (hR i hi).1
      rwa [gd hi] at this
    · have h := hR i (by omega)
      unfold rOkT at h
      rw [gd (show i < t.2.1.length from hi)] at h
      exact ⟨h.2.1, fun hn ho => hn (h.2.2 ((out_iff hE (by omega)).2 ho))⟩
    · rcases List.mem_cons.1 hx with rfl | hx
      · exact hc
      · rw [List.mem_singleton] at hx
        subst hx
        exact hw
  · rintro ⟨hb, hr, hj, ho, hP, htk, ha⟩
    have hlen := hb.2.1
    have hE := (endT_iff t).2 hj
    refine ⟨hb, ⟨hE, fun i hi => ?_, hP⟩, htk, ha _ (by simp), ha _ (by simp)⟩
    have h := ho i (by omega)
    unfold rOkT
    rw [gd hi, gd (show i < t.2.1.length by omega)]
    exact ⟨hr _ (List.getElem_mem hi), h.1, fun hq => Decidable.byContradiction fun hn => h.2 hn ((out_iff hE hi).1 hq)⟩
end Go.VL
namespace Go.VL
open Go.RowKit
set_option maxRecDepth 20000
set_option maxHeartbeats 8000000
theorem cVtI2 (t : Tw) (hB : tB (2 ^ 20) t) (hF : tF t) : PureC X 14 [.agg (twf false t)] (cB (decide (townOk t))) := by
  have h := cVtI t hB hF
  rwa [show decide (townI t) = decide (townOk t) from decide_eq_decide.2 (town_iff t).symm] at h
theorem cLawValid (t : Tw) (hM : tB maxLen t) (hF : tF t) : PureC X 3 [.agg (twf false t)] (cB true) := by
  refine PureC.of_body (drawD_ok X) (fun _ _ => Go.Proofs.Tryz.call3 _ _) Go.Proofs.Tryz.func3 rfl (n := 27) rfl ?_
  refine w_seq ?_
  refine w_reg rfl ?_
  refine v_box (m := 0) (H' := [_]) lay28 rfl rfl rfl ?_
  refine v_assign (c := .v (.bool false)) rfl ?_
  refine v_nil ?_
  refine q_n ?_
  refine w_seq ?_
  refine w_reg rfl ?_
  refine v_assign (c := .v (.int .i64 1048576)) rfl ?_
  refine v_nil ?_
  refine q_n ?_
  refine w_seq ?_
  refine w_reg rfl ?_
  refine v_load_pt (.agg [_, _, _, _, _, _, _]) lay28 rfl rfl rfl rfl ?_
  refine v_move rfl ?_
  refine v_call (cSzTown _ _ (by decide) (by assumption)) rfl rfl rfl (.cons (vw_agg (.cons vw_sl (.cons vw_sl (.cons vw_sl (.cons vw_sl (.cons vw_v (.cons vw_f (.cons vw_f .nil)))))))) (.cons vw_v .nil)) ?_
  refine v_assign rfl ?_
  refine v_nil ?_
  refine q_n ?_
  refine w_seq ?_
  refine w_seq ?_
  refine w_reg rfl ?_
  refine v_move rfl ?_
  refine v_lss lay3 rfl rfl (fun h1 => ?_) (fun h1 => ?_)
  · refine v_nil ?_
    refine q_n ?_
    refine w_t rfl ?_
    refine w_seq ?_
    refine w_reg rfl ?_
    refine v_assign (c := .v (.bool true)) rfl ?_
    refine v_nil ?_
    refine q_n ?_
    refine w_ret (q_r ?_)
    refine r_r rfl ?_
    exact tr_v
  have hz1 := szT_le (by decide) h1
  have hB := hz1.1
  refine v_nil ?_
  refine q_n ?_
  refine w_f rfl ?_
  refine w_skip ?_
  refine q_n ?_
  refine w_seq ?_
  refine w_reg rfl ?_
  refine v_load_pt (.agg [_, _, _, _, _, _, _]) lay28 rfl rfl rfl rfl ?_
  refine v_call (cToTown _ hB) rfl rfl rfl (.cons (vw_agg (.cons vw_sl (.cons vw_sl (.cons vw_sl (.cons vw_sl (.cons vw_v (.cons vw_f (.cons vw_f .nil)))))))) .nil) ?_
  refine v_callb (cVtS _ hB hF) rfl rfl (.cons (vw_agg (.cons vw_sl (.cons vw_sl (.cons vw_sl (.cons vw_sl (.cons vw_v (.cons vw_f (.cons vw_f .nil)))))))) .nil) (fun h2 => ?_) (fun h2 => ?_)
  rotate_left
  · have e0 := h2
    refine v_assign rfl ?_
    refine v_nil ?_
    refine q_n ?_
    refine w_seq ?_
    refine w_reg rfl ?_
    refine v_load_pt (.agg [_, _, _, _, _, _, _]) lay28 rfl rfl rfl rfl ?_
    refine v_call (cToTown _ hB) rfl rfl rfl (.cons (vw_agg (.cons vw_sl (.cons vw_sl (.cons vw_sl (.cons vw_sl (.cons vw_v (.cons vw_f (.cons vw_f .nil)))))))) .nil) ?_
    refine v_alloc (m := 1) (H' := [_, ⟨[.v _, .v _, .v _, .v _, .v _, .f _ _, .f _ _], 35, true⟩]) lay35 rfl rfl ?_
    refine v_store (H' := [_, ⟨[_, _, _, _, _, _, _], 35, true⟩]) lay35 rfl rfl rfl rfl rfl rfl ?_
    refine v_nil ?_
    refine q_n ?_
    refine w_seq ?_
    refine w_reg rfl ?_
    refine v_load_pt (.agg [_, _, _, _, _, _, _]) lay35 rfl rfl rfl rfl ?_
    refine v_callb (cVtI2 _ hB hF) rfl rfl (.cons (vw_agg (.cons vw_sl (.cons vw_sl (.cons vw_sl (.cons vw_sl (.cons vw_v (.cons vw_f (.cons vw_f .nil)))))))) .nil) (fun h5 => ?_) (fun h5 => ?_)
    · first | exact absurd e0 h5 | exact absurd h5 e0
    refine v_assign rfl ?_
    refine v_nil ?_
    refine q_n ?_
    refine w_seq ?_
    refine w_seq ?_
    refine w_reg rfl ?_
    refine v_move rfl ?_
    refine v_move rfl ?_
    refine v_bin (c := .v (.bool false)) lay4 rfl rfl rfl ?_
    refine v_nil ?_
    refine q_n ?_
    refine w_f rfl ?_
    refine w_skip ?_
    refine q_n ?_
    refine w_seq ?_
    refine w_seq ?_
    refine w_draw [0, 0, 2, 7, 15] [⟨0, 0, []⟩, ⟨1, 0, []⟩, ⟨2, 0, []⟩, ⟨3, 0, []⟩, ⟨4, 0, []⟩] rfl rfl ?_
    refine d_q rfl rfl rfl rfl rfl ?_
    refine v_load_pt (.agg [_, _, _, _, _, _, _]) lay35 rfl rfl rfl rfl ?_
    refine v_nil ?_
    refine d_q rfl rfl rfl rfl rfl ?_
    refine v_load_pt (.agg [_, _, _, _, _, _, _]) lay28 rfl rfl rfl rfl ?_
    refine v_nil ?_
    refine d_call (cToTown _ hB) rfl rfl rfl rfl rfl (.cons (vw_agg (.cons vw_sl (.cons vw_sl (.cons vw_sl (.cons vw_sl (.cons vw_v (.cons vw_f (.cons vw_f .nil)))))))) .nil) ?_
    refine d_callb (cEqTown _ hB hF) rfl rfl rfl rfl (.cons (vw_agg (.cons vw_sl (.cons vw_sl (.cons vw_sl (.cons vw_sl (.cons vw_v (.cons vw_f (.cons vw_f .nil)))))))) (.cons (vw_agg (.cons vw_sl (.cons vw_sl (.cons vw_sl (.cons vw_sl (.cons vw_v (.cons vw_f (.cons vw_f .nil)))))))) .nil)) (fun h6 => ?_) (fun h6 => ?_)
    rotate_left
    · exact absurd trivial h6
    refine d_q rfl rfl rfl rfl rfl ?_
    refine v_not false rfl rfl ?_
    refine v_nil ?_
    refine d_nil ?_
    refine q_n ?_
    refine w_f rfl ?_
    refine w_skip ?_
    refine q_n ?_
    refine w_seq ?_
    refine w_reg rfl ?_
    refine v_assign (c := .v (.bool true)) rfl ?_
    refine v_nil ?_
    refine q_n ?_
    refine w_ret ?_
    refine r_r rfl ?_
    exact tr_v
  have e0 := h2
  refine v_assign rfl ?_
  refine v_nil ?_
  refine q_n ?_
  refine w_seq ?_
  refine w_reg rfl ?_
  refine v_load_pt (.agg [_, _, _, _, _, _, _]) lay28 rfl rfl rfl rfl ?_
  refine v_call (cToTown _ hB) rfl rfl rfl (.cons (vw_agg (.cons vw_sl (.cons vw_sl (.cons vw_sl (.cons vw_sl (.cons vw_v (.cons vw_f (.cons vw_f .nil)))))))) .nil) ?_
  refine v_alloc (m := 1) (H' := [_, ⟨[.v _, .v _, .v _, .v _, .v _, .f _ _, .f _ _], 35, true⟩]) lay35 rfl rfl ?_
  refine v_store (H' := [_, ⟨[_, _, _, _, _, _, _], 35, true⟩]) lay35 rfl rfl rfl rfl rfl rfl ?_
  refine v_nil ?_
  refine q_n ?_
  refine w_seq ?_
  refine w_reg rfl ?_
  refine v_load_pt (.agg [_, _, _, _, _, _, _]) lay35 rfl rfl rfl rfl ?_
  refine v_callb (cVtI2 _ hB hF) rfl rfl (.cons (vw_agg (.cons vw_sl (.cons vw_sl (.cons vw_sl (.cons vw_sl (.cons vw_v (.cons vw_f (.cons vw_f .nil)))))))) .nil) (fun h3 => ?_) (fun h3 => ?_)
  rotate_left
  · first | exact absurd e0 h3 | exact absurd h3 e0
  refine v_assign rfl ?_
  refine v_nil ?_
  refine q_n ?_
  refine w_seq ?_
  refine w_seq ?_
  refine w_reg rfl ?_
  refine v_move rfl ?_
  refine v_move rfl ?_
  refine v_bin (c := .v (.bool false)) lay4 rfl rfl rfl ?_
  refine v_nil ?_
  refine q_n ?_
  refine w_f rfl ?_
  refine w_skip ?_
  refine q_n ?_
  refine w_seq ?_
  refine w_seq ?_
  refine w_draw [0, 0, 2, 7, 15] [⟨0, 0, []⟩, ⟨1, 0, []⟩, ⟨2, 0, []⟩, ⟨3, 0, []⟩, ⟨4, 0, []⟩] rfl rfl ?_
  refine d_q rfl rfl rfl rfl rfl ?_
  refine v_load_pt (.agg [_, _, _, _, _, _, _]) lay35 rfl rfl rfl rfl ?_
  refine v_nil ?_
  refine d_q rfl rfl rfl rfl rfl ?_
  refine v_load_pt (.agg [_, _, _, _, _, _, _]) lay28 rfl rfl rfl rfl ?_
  refine v_nil ?_
  refine d_call (cToTown _ hB) rfl rfl rfl rfl rfl (.cons (vw_agg (.cons vw_sl (.cons vw_sl (.cons vw_sl (.cons vw_sl (.cons vw_v (.cons vw_f (.cons vw_f .nil)))))))) .nil) ?_
  refine d_callb (cEqTown _ hB hF) rfl rfl rfl rfl (.cons (vw_agg (.cons vw_sl (.cons vw_sl (.cons vw_sl (.cons vw_sl (.cons vw_v (.cons vw_f (.cons vw_f .nil)))))))) (.cons (vw_agg (.cons vw_sl (.cons vw_sl (.cons vw_sl (.cons vw_sl (.cons vw_v (.cons vw_f (.cons vw_f .nil)))))))) .nil)) (fun h4 => ?_) (fun h4 => ?_)
  rotate_left
  · exact absurd trivial h4
  refine d_q rfl rfl rfl rfl rfl ?_
  refine v_not false rfl rfl ?_
  refine v_nil ?_
  refine d_nil ?_
  refine q_n ?_
  refine w_f rfl ?_
  refine w_skip ?_
  refine q_n ?_
  refine w_seq ?_
  refine w_reg rfl ?_
  refine v_assign (c := .v (.bool true)) rfl ?_
  refine v_nil ?_
  refine q_n ?_
  refine w_ret ?_
  refine r_r rfl ?_
  exact tr_v
end Go.VL
