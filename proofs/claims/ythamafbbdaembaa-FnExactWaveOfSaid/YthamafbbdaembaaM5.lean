/- Texts of one proof, put together: E2, E3, E4, E5, E6, E7, E8, E9, E10, B0. -/
import Derived.Test.YthamafbbdaembaaM4
import Derived.Test.YthamafbbdaembaaM3
import Derived.Test.YthamafbbdaembaaRows
import Derived.ProofKit
import Derived.Below
import Derived.ChangeSame
import Derived.Handed
import Derived.KernelRfl
namespace Go.VL
open Go.RowKit
set_option maxRecDepth 20000
set_option maxHeartbeats 8000000
theorem cnb_0 {xs : List Slo} {b : Int} {m n : Nat} : (cnb (fun k : Nat => gr xs b m k) n : Int) = 0 ↔ ¬ true ∈ gr0 xs b m n := by
  unfold cnb gr0
  rw [show ((List.countP id ((List.range n).map fun k : Nat => gr xs b m k) : Nat) : Int) = 0 ↔ List.countP id ((List.range n).map fun k : Nat => gr xs b m k) = 0 by omega, List.countP_eq_zero]
  constructor
  · intro h h1
    exact h true h1 rfl
  · intro h x hx h1
    exact h (by rw [show x = true from h1] at hx; exact hx)
theorem c44g (ps : List Pln) (ts : List Int) (m : Int) (hP : ∀ p ∈ ps, p.1.length ≤ 2 ^ 40) (hx : ps.length ≤ 2 ^ 40) (ht : ts.length ≤ 2 ^ 40) : PureC X 44 [.c (pls false ps), .c (ints false ts), cI m] (cI (wcR ps ts m)) := by
  refine PureC.of_body (drawD_ok X) (fun _ _ => Go.Proofs.Try.call44 _ _) Go.Proofs.Try.func44 rfl (n := 86) rfl ?_
  refine w_seq ?_
  refine w_reg rfl ?_
  refine v_assign (c := .v (.int .i64 0)) rfl ?_
  refine v_nil ?_
  refine q_n ?_
  refine w_seq ?_
  refine w_seq ?_
  refine w_reg rfl ?_
  refine v_assign (c := .v (.int .i64 0)) rfl ?_
  refine v_nil ?_
  refine q_n ?_
  refine w_block ?_
  refine w_loop (fun k sl H => ∃ i : Nat, k = ps.length - i ∧ i ≤ ps.length ∧ (∀ p ∈ ps.take i, okP p.1 p.2.1 p.2.2) ∧ sl = sls [(0, .c (pls false ps)), (1, .c (ints false ts)), (2, cI m), (7, cI i)] ∧ H = []) ?_ ?_
  · refine ⟨_, _, _, ?_, 0, rfl, by omega, by simp, rfl, rfl⟩
    exact turn0 ⟨tr_sl, tr_sl, tr_v, tr_v, trivial⟩
  rintro k sl H ⟨i, rfl, hi, hp, rfl, rfl⟩
  refine w_seq ?_
  refine w_seq ?_
  refine w_reg rfl ?_
  refine v_move rfl ?_
  refine v_move rfl ?_
  refine v_len_sl lay38 rfl ?_
  refine v_lss lay3 rfl rfl (fun h1 => ?_) (fun h1 => ?_)
  · have hi2 : i < ps.length := by omega
    refine v_nil ?_
    refine q_n ?_
    refine w_t rfl ?_
    refine w_skip ?_
    refine q_n ?_
    refine w_seq ?_
    refine w_block ?_
    refine w_seq ?_
    refine w_reg rfl ?_
    refine v_move rfl ?_
    refine v_move rfl ?_
    refine v_idx_e (k := 3) (i) plc_len lay38 lay28 rfl rfl rfl (rfl) rfl (rfl) (hi2) ?_
    refine v_callb (c31 _ _ _ (hP _ (List.getElem_mem hi2))) rfl rfl (.cons vw_vw .nil) (fun h3 => ?_) (fun h3 => ?_)
    rotate_left
    · have hokb := h3
      refine v_not true rfl rfl ?_
      refine v_nil ?_
      refine q_n ?_
      refine w_t rfl ?_
      refine w_seq ?_
      refine w_reg rfl ?_
      refine v_assign (c := .v (.int .i64 1)) rfl ?_
      refine v_nil ?_
      refine q_n ?_
      refine w_ret (q_br (q_r (q_r (q_br (q_r ?_)))))
      refine r_r rfl ?_
      exact a_i (wc_1 ⟨ps[i], List.getElem_mem hi2, hokb⟩).symm
    have hokb := h3
    refine v_not false rfl rfl ?_
    refine v_nil ?_
    refine q_n ?_
    refine w_f rfl ?_
    refine w_skip ?_
    refine q_bn ?_
    refine q_n ?_
    refine w_reg rfl ?_
    refine v_move rfl ?_
    refine v_add lay3 rfl rfl (i64r (by omega)) ?_
    refine v_assign rfl ?_
    refine v_nil ?_
    refine q_n ?_
    refine ⟨_, _, _, ?_, ⟨i + 1, rfl, by omega, all_step hi2 hp hokb, rfl, rfl⟩, by omega⟩
    exact turn0 ⟨tr_sl, tr_sl, tr_v, tr_i (by push_cast; omega), trivial⟩
  obtain rfl : i = ps.length := by omega
  rw [List.take_length] at hp
  have hv : ¬ ∃ p ∈ ps, ¬ okP p.1 p.2.1 p.2.2 := fun ⟨p, h8, h9⟩ => h9 (hp p h8)
  clear hp
  refine v_nil ?_
  refine q_n ?_
  refine w_f rfl ?_
  refine w_exit ?_
  refine q_e ?_
  refine q_e ?_
  refine q_hit ?_
  refine q_n ?_
  refine w_seq ?_
  refine w_reg rfl ?_
  refine v_move rfl ?_
  refine v_len_sl lay38 rfl ?_
  refine v_callb (cIn _ _ _) rfl rfl (.cons vw_v (.cons vw_v (.cons vw_v .nil))) (fun h4 => ?_) (fun h4 => ?_)
  rotate_left
  · refine v_move rfl ?_
    refine v_guard_off rfl rfl rfl ?_
    refine v_guard_off rfl rfl rfl ?_
    refine v_guard_off rfl rfl rfl ?_
    refine v_guard_off rfl rfl rfl ?_
    refine v_guard_off rfl rfl rfl ?_
    refine v_guard_off rfl rfl rfl ?_
    refine v_pick_f (v := .v (.bool false)) rfl rfl ?_
    refine v_move rfl ?_
    refine v_guard_off rfl rfl rfl ?_
    refine v_guard_off rfl rfl rfl ?_
    refine v_pick_f (v := .v (.bool false)) rfl rfl ?_
    refine v_assign rfl ?_
    refine v_nil ?_
    refine q_n ?_
    refine w_seq ?_
    refine w_seq ?_
    refine w_reg rfl ?_
    refine v_assign (c := .v (.int .i64 0)) rfl ?_
    refine v_nil ?_
    refine q_n ?_
    refine w_block ?_
    refine w_loop (fun k sl H => ∃ (i : Nat) (acc : Bool), k = ts.length - i ∧ i ≤ ts.length ∧ (acc = true → ((1 ≤ (ps.length : Int) ∧ (ps.length : Int) ≤ 6) ∧ (ts.length : Int) = ps.length - 1 ∧ (0 ≤ m ∧ m ≤ 8 - 1)) ∧ ∀ t ∈ ts.take i, 0 ≤ t ∧ t ≤ 100000) ∧ (acc = false → rowBad ps ts m) ∧ sl = sls [(0, .c (pls false ps)), (1, .c (ints false ts)), (2, cI m), (8, cB acc), (9, cI i)] ∧ H = []) ?_ ?_
    · refine ⟨_, _, _, ?_, 0, false, rfl, Nat.zero_le _, (fun h => by cases h), (fun _ h => by obtain ⟨g1, g2, g3, g4⟩ := h; omega), rfl, rfl⟩
      exact turn0 ⟨tr_sl, tr_sl, tr_v, tr_v, tr_v, trivial⟩
    rintro k sl H ⟨i, acc, rfl, hi, hA, hB, rfl, rfl⟩
    rcases acc with _ | _
    · skip
      refine w_seq ?_
      refine w_seq ?_
      refine w_reg rfl ?_
      refine v_move rfl ?_
      refine v_move rfl ?_
      refine v_len_sl lay36 rfl ?_
      refine v_lss lay3 rfl rfl (fun h40 => ?_) (fun h40 => ?_)
      rotate_left
      · refine v_move rfl ?_
        refine v_guard_off rfl rfl rfl ?_
        refine v_pick_f (v := .v (.bool false)) rfl rfl ?_
        refine v_nil ?_
        refine q_n ?_
        refine w_f rfl ?_
        refine w_exit ?_
        refine q_e ?_
        refine q_e ?_
        refine q_hit ?_
        refine q_n ?_
        refine w_seq ?_
        refine w_seq ?_
        refine w_reg rfl ?_
        refine v_move rfl ?_
        refine v_not true rfl rfl ?_
        refine v_nil ?_
        refine q_n ?_
        refine w_t rfl ?_
        refine w_seq ?_
        refine w_reg rfl ?_
        refine v_assign (c := .v (.int .i64 2)) rfl ?_
        refine v_nil ?_
        refine q_n ?_
        refine w_ret (q_r ?_)
        refine r_r rfl ?_
        exact a_i (wc_2 hv (hB rfl)).symm
      have hi2 : i < ts.length := by omega
      refine v_move rfl ?_
      refine v_guard_on rfl rfl ?_
      refine v_move rfl ?_
      refine v_pick_t rfl rfl ?_
      refine v_nil ?_
      refine q_n ?_
      refine w_f rfl ?_
      refine w_exit ?_
      refine q_e ?_
      refine q_e ?_
      refine q_hit ?_
      refine q_n ?_
      refine w_seq ?_
      refine w_seq ?_
      refine w_reg rfl ?_
      refine v_move rfl ?_
      refine v_not true rfl rfl ?_
      refine v_nil ?_
      refine q_n ?_
      refine w_t rfl ?_
      refine w_seq ?_
      refine w_reg rfl ?_
      refine v_assign (c := .v (.int .i64 2)) rfl ?_
      refine v_nil ?_
      refine q_n ?_
      refine w_ret (q_r ?_)
      refine r_r rfl ?_
      exact a_i (wc_2 hv (hB rfl)).symm
    · skip
      refine w_seq ?_
      refine w_seq ?_
      refine w_reg rfl ?_
      refine v_move rfl ?_
      refine v_move rfl ?_
      refine v_len_sl lay36 rfl ?_
      refine v_lss lay3 rfl rfl (fun h41 => ?_) (fun h41 => ?_)
      · have hi2 : i < ts.length := by omega
        refine v_move rfl ?_
        refine v_guard_on rfl rfl ?_
        refine v_move rfl ?_
        refine v_pick_t rfl rfl ?_
        refine v_nil ?_
        refine q_n ?_
        refine w_t rfl ?_
        refine w_skip ?_
        refine q_n ?_
        refine w_seq ?_
        refine w_block ?_
        refine w_reg rfl ?_
        refine v_move rfl ?_
        refine v_move rfl ?_
        refine v_idx_e (k := 1) (i) int_len lay36 lay2 rfl rfl rfl (rfl) rfl (rfl) (hi2) ?_
        refine v_load_vw (.c (.v _)) lay2 rfl rfl rfl ?_
        refine v_callb (cIn _ _ _) rfl rfl (.cons vw_v (.cons vw_v (.cons vw_v .nil))) (fun h43 => ?_) (fun h43 => ?_)
        · have htr := h43
          refine v_assign rfl ?_
          refine v_nil ?_
          refine q_bn ?_
          refine q_n ?_
          refine w_reg rfl ?_
          refine v_move rfl ?_
          refine v_add lay3 rfl rfl (i64r (by omega)) ?_
          refine v_assign rfl ?_
          refine v_nil ?_
          refine q_n ?_
          refine ⟨_, _, _, ?_, ⟨i + 1, true, rfl, by omega, (fun _ => ⟨(hA rfl).1, all_step hi2 (hA rfl).2 htr⟩), (fun h => by cases h), rfl, rfl⟩, by omega⟩
          exact turn0 ⟨tr_sl, tr_sl, tr_v, tr_v, tr_i (by push_cast; omega), trivial⟩
        have htr := h43
        refine v_assign rfl ?_
        refine v_nil ?_
        refine q_bn ?_
        refine q_n ?_
        refine w_reg rfl ?_
        refine v_move rfl ?_
        refine v_add lay3 rfl rfl (i64r (by omega)) ?_
        refine v_assign rfl ?_
        refine v_nil ?_
        refine q_n ?_
        refine ⟨_, _, _, ?_, ⟨i + 1, false, rfl, by omega, (fun h => by cases h), (fun _ h => htr (h.2.2.2 _ (List.getElem_mem hi2))), rfl, rfl⟩, by omega⟩
        exact turn0 ⟨tr_sl, tr_sl, tr_v, tr_v, tr_i (by push_cast; omega), trivial⟩
      refine v_move rfl ?_
      refine v_guard_off rfl rfl rfl ?_
      refine v_pick_f (v := .v (.bool false)) rfl rfl ?_
      refine v_nil ?_
      refine q_n ?_
      refine w_f rfl ?_
      refine w_exit ?_
      refine q_e ?_
      refine q_e ?_
      refine q_hit ?_
      refine q_n ?_
      refine w_seq ?_
      refine w_seq ?_
      refine w_reg rfl ?_
      obtain ⟨⟨r1, r2, r3⟩, r4⟩ := hA rfl
      obtain rfl : i = ts.length := by omega
      rw [List.take_length] at r4
      have hrb : ¬ rowBad ps ts m := fun h => h ⟨r1, r2, r3, r4⟩
      have hok := all_ok hv
      have h00 : 0 < ps.length := by omega
      have hk0 := hok _ (List.getElem_mem h00)
      have hc0 := okP_cyc hk0
      rw [← pa_at h00] at hc0
      have hz : ((cyc (pa ps 0).1 (pa ps 0).2.1).toNat : Int) = cyc (pa ps 0).1 (pa ps 0).2.1 := Int.toNat_of_nonneg (by omega)
      obtain ⟨m, rfl⟩ : ∃ m2 : Nat, m = m2 := Int.eq_ofNat_of_zero_le r3.1
      refine v_move rfl ?_
      refine v_not false rfl rfl ?_
      refine v_nil ?_
      refine q_n ?_
      refine w_f rfl ?_
      refine w_skip ?_
      refine q_n ?_
      refine w_seq ?_
      refine w_seq ?_
      refine w_reg rfl ?_
      refine v_assign (c := .v (.int .i64 1)) rfl ?_
      refine v_nil ?_
      refine q_n ?_
      refine w_block ?_
      refine w_loop (fun k sl H => ∃ i : Nat, k = ps.length - i ∧ 1 ≤ i ∧ i ≤ ps.length ∧ (∀ p ∈ ps.take i, cyc p.1 p.2.1 = cyc (pa ps 0).1 (pa ps 0).2.1) ∧ sl = sls [(0, .c (pls false ps)), (1, .c (ints false ts)), (2, cI m), (10, cI i)] ∧ H = []) ?_ ?_
      · refine ⟨_, _, _, ?_, 1, rfl, by omega, by omega, (fun p hp => by rw [List.take_succ_eq_append_getElem h00] at hp; simp at hp; rw [hp, pa_at h00]), rfl, rfl⟩
        exact turn0 ⟨tr_sl, tr_sl, tr_v, tr_v, trivial⟩
      rintro k sl H ⟨i, rfl, hi1, hi, hp, rfl, rfl⟩
      refine w_seq ?_
      refine w_seq ?_
      refine w_reg rfl ?_
      refine v_move rfl ?_
      refine v_move rfl ?_
      refine v_len_sl lay38 rfl ?_
      refine v_lss lay3 rfl rfl (fun h44 => ?_) (fun h44 => ?_)
      · have hi2 : i < ps.length := by omega
        have hk := hok _ (List.getElem_mem hi2)
        refine v_nil ?_
        refine q_n ?_
        refine w_t rfl ?_
        refine w_skip ?_
        refine q_n ?_
        refine w_seq ?_
        refine w_block ?_
        refine w_seq ?_
        refine w_draw [0, 0, 3, 7, 0, 16, 63, 127] [⟨0, 0, []⟩, ⟨1, 0, []⟩, ⟨2, 0, []⟩, ⟨3, 0, []⟩, ⟨4, 0, []⟩, ⟨5, 0, []⟩, ⟨6, 0, []⟩, ⟨7, 0, []⟩] rfl rfl ?_
        refine d_q rfl rfl rfl rfl rfl ?_
        refine v_move rfl ?_
        refine v_nil ?_
        refine d_q rfl rfl rfl rfl rfl ?_
        refine v_move rfl ?_
        refine v_nil ?_
        refine d_q rfl rfl rfl rfl rfl ?_
        refine v_idx_e (k := 3) (i) plc_len lay38 lay28 rfl rfl rfl (rfl) rfl (rfl) (hi2) ?_
        refine v_nil ?_
        refine d_call (c33y _ _ _ hk.1.2.1 hk.1.2.2 hk.2.1 (by have := hk.1.1; omega)) rfl rfl rfl rfl rfl (.cons vw_vw .nil) ?_
        refine d_q rfl rfl rfl rfl rfl ?_
        refine v_move rfl ?_
        refine v_nil ?_
        refine d_q rfl rfl rfl rfl rfl ?_
        refine v_idx_e (k := 3) (0) plc_len lay38 lay28 rfl rfl rfl (rfl) rfl (rfl) (h00) ?_
        refine v_nil ?_
        refine d_call (c33y _ _ _ hk0.1.2.1 hk0.1.2.2 hk0.2.1 (by have := hk0.1.1; omega)) rfl rfl rfl rfl rfl (.cons vw_vw .nil) ?_
        refine d_q rfl rfl rfl rfl rfl ?_
        refine v_neq lay2 rfl rfl (fun h47 => ?_) (fun h47 => ?_)
        · have hcy := h47
          refine v_nil ?_
          refine d_nil ?_
          refine q_n ?_
          refine w_t rfl ?_
          refine w_seq ?_
          refine w_reg rfl ?_
          refine v_assign (c := .v (.int .i64 4)) rfl ?_
          refine v_nil ?_
          refine q_n ?_
          refine w_ret (q_br (q_r (q_r (q_br (q_r ?_)))))
          refine r_r rfl ?_
          exact a_i (wc_4 hv hrb ⟨ps[i], List.getElem_mem hi2, by rw [pa_at h00]; exact hcy⟩).symm
        have hcy := h47
        refine v_nil ?_
        refine d_nil ?_
        refine q_n ?_
        refine w_f rfl ?_
        refine w_skip ?_
        refine q_bn ?_
        refine q_n ?_
        refine w_reg rfl ?_
        refine v_move rfl ?_
        refine v_add lay3 rfl rfl (i64r (by omega)) ?_
        refine v_assign rfl ?_
        refine v_nil ?_
        refine q_n ?_
        refine ⟨_, _, _, ?_, ⟨i + 1, rfl, by omega, by omega, all_step hi2 hp (by rw [pa_at h00]; exact hcy), rfl, rfl⟩, by omega⟩
        exact turn0 ⟨tr_sl, tr_sl, tr_v, tr_i (by push_cast; omega), trivial⟩
      obtain rfl : i = ps.length := by omega
      rw [List.take_length] at hp
      have hp0 := hp
      clear hp hi hi1
      refine v_nil ?_
      refine q_n ?_
      refine w_f rfl ?_
      refine w_exit ?_
      refine q_e ?_
      refine q_e ?_
      refine q_hit ?_
      refine q_n ?_
      refine w_seq ?_
      refine w_seq ?_
      refine w_reg rfl ?_
      refine v_assign (c := .v (.int .i64 0)) rfl ?_
      refine v_nil ?_
      refine q_n ?_
      refine w_block ?_
      refine w_loop (fun k sl H => ∃ i : Nat, k = ps.length - i ∧ i ≤ ps.length ∧ (∀ p ∈ ps.take i, true ∈ gr0 p.1 p.2.1 m (cyc (pa ps 0).1 (pa ps 0).2.1).toNat) ∧ sl = sls [(0, .c (pls false ps)), (1, .c (ints false ts)), (2, cI m), (11, cI i)] ∧ H = []) ?_ ?_
      · refine ⟨_, _, _, ?_, 0, rfl, by omega, by simp, rfl, rfl⟩
        exact turn0 ⟨tr_sl, tr_sl, tr_v, tr_v, trivial⟩
      rintro k sl H ⟨i, rfl, hi, hg, rfl, rfl⟩
      refine w_seq ?_
      refine w_seq ?_
      refine w_reg rfl ?_
      refine v_move rfl ?_
      refine v_move rfl ?_
      refine v_len_sl lay38 rfl ?_
      refine v_lss lay3 rfl rfl (fun h48 => ?_) (fun h48 => ?_)
      rotate_left
      · refine v_nil ?_
        refine q_n ?_
        refine w_f rfl ?_
        refine w_exit ?_
        refine q_e ?_
        refine q_e ?_
        refine q_hit ?_
        refine q_n ?_
        refine w_seq ?_
        refine w_reg rfl ?_
        refine v_assign (c := .v (.int .i64 0)) rfl ?_
        refine v_nil ?_
        refine q_n ?_
        refine w_ret ?_
        refine r_r rfl ?_
        obtain rfl : i = ps.length := by omega
        rw [List.take_length] at hg
        exact a_i (wc_0 hv hrb (fun ⟨p, h8, h9⟩ => h9 (hp0 p h8)) (fun ⟨p, h8, h9⟩ => h9 (hg p h8))).symm
      have hi2 : i < ps.length := by omega
      have hk := hok _ (List.getElem_mem hi2)
      refine v_nil ?_
      refine q_n ?_
      refine w_t rfl ?_
      refine w_skip ?_
      refine q_n ?_
      refine w_seq ?_
      refine w_block ?_
      refine w_seq ?_
      refine w_reg rfl ?_
      refine v_move rfl ?_
      refine v_move rfl ?_
      refine v_idx_e (k := 3) (i) plc_len lay38 lay28 rfl rfl rfl (rfl) rfl (rfl) (hi2) ?_
      refine v_move rfl ?_
      refine v_call (c65 _ _ _ hk m (cyc (pa ps 0).1 (pa ps 0).2.1).toNat (by rw [hz]; exact hp0 _ (List.getElem_mem hi2)) (by omega)) rfl rfl rfl (.cons vw_vw (.cons vw_v .nil)) ?_
      refine v_move_t rfl ?_
      refine v_extract_c rfl rfl ?_
      refine v_extract_c rfl rfl ?_
      refine v_assign rfl ?_
      refine v_assign rfl ?_
      refine v_nil ?_
      refine q_n ?_
      refine w_seq ?_
      refine w_reg rfl ?_
      refine v_move rfl ?_
      refine v_eql lay2 rfl rfl (fun h50 => ?_) (fun h50 => ?_)
      · have hgi := cnb_0.1 h50
        refine v_nil ?_
        refine q_n ?_
        refine w_t rfl ?_
        refine w_seq ?_
        refine w_reg rfl ?_
        refine v_assign (c := .v (.int .i64 6)) rfl ?_
        refine v_nil ?_
        refine q_n ?_
        refine w_ret (q_br (q_r (q_r (q_br (q_r ?_)))))
        refine r_r rfl ?_
        exact a_i (wc_6 hv hrb (fun ⟨p, h8, h9⟩ => h9 (hp0 p h8)) ⟨ps[i], List.getElem_mem hi2, hgi⟩).symm
      have hgi := Decidable.not_not.1 (fun h => h50 (cnb_0.2 h))
      refine v_nil ?_
      refine q_n ?_
      refine w_f rfl ?_
      refine w_skip ?_
      refine q_bn ?_
      refine q_n ?_
      refine w_reg rfl ?_
      refine v_move rfl ?_
      refine v_add lay3 rfl rfl (i64r (by omega)) ?_
      refine v_assign rfl ?_
      refine v_nil ?_
      refine q_n ?_
      refine ⟨_, _, _, ?_, ⟨i + 1, rfl, by omega, all_step hi2 hg hgi, rfl, rfl⟩, by omega⟩
      exact turn0 ⟨tr_sl, tr_sl, tr_v, tr_i (by push_cast; omega), trivial⟩
  refine v_move rfl ?_
  refine v_guard_on rfl rfl ?_
  refine v_move rfl ?_
  refine v_guard_on rfl rfl ?_
  refine v_len_sl lay36 rfl ?_
  refine v_guard_on rfl rfl ?_
  refine v_add lay3 rfl rfl (i64r (by omega)) ?_
  refine v_guard_on rfl rfl ?_
  refine v_move rfl ?_
  refine v_guard_on rfl rfl ?_
  refine v_len_sl lay38 rfl ?_
  refine v_guard_on rfl rfl ?_
  refine v_eql lay3 rfl rfl (fun h5 => ?_) (fun h5 => ?_)
  rotate_left
  · refine v_pick_t rfl rfl ?_
    refine v_move rfl ?_
    refine v_guard_off rfl rfl rfl ?_
    refine v_guard_off rfl rfl rfl ?_
    refine v_pick_f (v := .v (.bool false)) rfl rfl ?_
    refine v_assign rfl ?_
    refine v_nil ?_
    refine q_n ?_
    refine w_seq ?_
    refine w_seq ?_
    refine w_reg rfl ?_
    refine v_assign (c := .v (.int .i64 0)) rfl ?_
    refine v_nil ?_
    refine q_n ?_
    refine w_block ?_
    refine w_loop (fun k sl H => ∃ (i : Nat) (acc : Bool), k = ts.length - i ∧ i ≤ ts.length ∧ (acc = true → ((1 ≤ (ps.length : Int) ∧ (ps.length : Int) ≤ 6) ∧ (ts.length : Int) = ps.length - 1 ∧ (0 ≤ m ∧ m ≤ 8 - 1)) ∧ ∀ t ∈ ts.take i, 0 ≤ t ∧ t ≤ 100000) ∧ (acc = false → rowBad ps ts m) ∧ sl = sls [(0, .c (pls false ps)), (1, .c (ints false ts)), (2, cI m), (8, cB acc), (9, cI i)] ∧ H = []) ?_ ?_
    · refine ⟨_, _, _, ?_, 0, false, rfl, Nat.zero_le _, (fun h => by cases h), (fun _ h => by obtain ⟨g1, g2, g3, g4⟩ := h; omega), rfl, rfl⟩
      exact turn0 ⟨tr_sl, tr_sl, tr_v, tr_v, tr_v, trivial⟩
    rintro k sl H ⟨i, acc, rfl, hi, hA, hB, rfl, rfl⟩
    rcases acc with _ | _
    · skip
      refine w_seq ?_
      refine w_seq ?_
      refine w_reg rfl ?_
      refine v_move rfl ?_
      refine v_move rfl ?_
      refine v_len_sl lay36 rfl ?_
      refine v_lss lay3 rfl rfl (fun h29 => ?_) (fun h29 => ?_)
      rotate_left
      · refine v_move rfl ?_
        refine v_guard_off rfl rfl rfl ?_
        refine v_pick_f (v := .v (.bool false)) rfl rfl ?_
        refine v_nil ?_
        refine q_n ?_
        refine w_f rfl ?_
        refine w_exit ?_
        refine q_e ?_
        refine q_e ?_
        refine q_hit ?_
        refine q_n ?_
        refine w_seq ?_
        refine w_seq ?_
        refine w_reg rfl ?_
        refine v_move rfl ?_
        refine v_not true rfl rfl ?_
        refine v_nil ?_
        refine q_n ?_
        refine w_t rfl ?_
        refine w_seq ?_
        refine w_reg rfl ?_
        refine v_assign (c := .v (.int .i64 2)) rfl ?_
        refine v_nil ?_
        refine q_n ?_
        refine w_ret (q_r ?_)
        refine r_r rfl ?_
        exact a_i (wc_2 hv (hB rfl)).symm
      have hi2 : i < ts.length := by omega
      refine v_move rfl ?_
      refine v_guard_on rfl rfl ?_
      refine v_move rfl ?_
      refine v_pick_t rfl rfl ?_
      refine v_nil ?_
      refine q_n ?_
      refine w_f rfl ?_
      refine w_exit ?_
      refine q_e ?_
      refine q_e ?_
      refine q_hit ?_
      refine q_n ?_
      refine w_seq ?_
      refine w_seq ?_
      refine w_reg rfl ?_
      refine v_move rfl ?_
      refine v_not true rfl rfl ?_
      refine v_nil ?_
      refine q_n ?_
      refine w_t rfl ?_
      refine w_seq ?_
      refine w_reg rfl ?_
      refine v_assign (c := .v (.int .i64 2)) rfl ?_
      refine v_nil ?_
      refine q_n ?_
      refine w_ret (q_r ?_)
      refine r_r rfl ?_
      exact a_i (wc_2 hv (hB rfl)).symm
    · skip
      refine w_seq ?_
      refine w_seq ?_
      refine w_reg rfl ?_
      refine v_move rfl ?_
      refine v_move rfl ?_
      refine v_len_sl lay36 rfl ?_
      refine v_lss lay3 rfl rfl (fun h30 => ?_) (fun h30 => ?_)
      · have hi2 : i < ts.length := by omega
        refine v_move rfl ?_
        refine v_guard_on rfl rfl ?_
        refine v_move rfl ?_
        refine v_pick_t rfl rfl ?_
        refine v_nil ?_
        refine q_n ?_
        refine w_t rfl ?_
        refine w_skip ?_
        refine q_n ?_
        refine w_seq ?_
        refine w_block ?_
        refine w_reg rfl ?_
        refine v_move rfl ?_
        refine v_move rfl ?_
        refine v_idx_e (k := 1) (i) int_len lay36 lay2 rfl rfl rfl (rfl) rfl (rfl) (hi2) ?_
        refine v_load_vw (.c (.v _)) lay2 rfl rfl rfl ?_
        refine v_callb (cIn _ _ _) rfl rfl (.cons vw_v (.cons vw_v (.cons vw_v .nil))) (fun h32 => ?_) (fun h32 => ?_)
        · have htr := h32
          refine v_assign rfl ?_
          refine v_nil ?_
          refine q_bn ?_
          refine q_n ?_
          refine w_reg rfl ?_
          refine v_move rfl ?_
          refine v_add lay3 rfl rfl (i64r (by omega)) ?_
          refine v_assign rfl ?_
          refine v_nil ?_
          refine q_n ?_
          refine ⟨_, _, _, ?_, ⟨i + 1, true, rfl, by omega, (fun _ => ⟨(hA rfl).1, all_step hi2 (hA rfl).2 htr⟩), (fun h => by cases h), rfl, rfl⟩, by omega⟩
          exact turn0 ⟨tr_sl, tr_sl, tr_v, tr_v, tr_i (by push_cast; omega), trivial⟩
        have htr := h32
        refine v_assign rfl ?_
        refine v_nil ?_
        refine q_bn ?_
        refine q_n ?_
        refine w_reg rfl ?_
        refine v_move rfl ?_
        refine v_add lay3 rfl rfl (i64r (by omega)) ?_
        refine v_assign rfl ?_
        refine v_nil ?_
        refine q_n ?_
        refine ⟨_, _, _, ?_, ⟨i + 1, false, rfl, by omega, (fun h => by cases h), (fun _ h => htr (h.2.2.2 _ (List.getElem_mem hi2))), rfl, rfl⟩, by omega⟩
        exact turn0 ⟨tr_sl, tr_sl, tr_v, tr_v, tr_i (by push_cast; omega), trivial⟩
      refine v_move rfl ?_
      refine v_guard_off rfl rfl rfl ?_
      refine v_pick_f (v := .v (.bool false)) rfl rfl ?_
      refine v_nil ?_
      refine q_n ?_
      refine w_f rfl ?_
      refine w_exit ?_
      refine q_e ?_
      refine q_e ?_
      refine q_hit ?_
      refine q_n ?_
      refine w_seq ?_
      refine w_seq ?_
      refine w_reg rfl ?_
      obtain ⟨⟨r1, r2, r3⟩, r4⟩ := hA rfl
      obtain rfl : i = ts.length := by omega
      rw [List.take_length] at r4
      have hrb : ¬ rowBad ps ts m := fun h => h ⟨r1, r2, r3, r4⟩
      have hok := all_ok hv
      have h00 : 0 < ps.length := by omega
      have hk0 := hok _ (List.getElem_mem h00)
      have hc0 := okP_cyc hk0
      rw [← pa_at h00] at hc0
      have hz : ((cyc (pa ps 0).1 (pa ps 0).2.1).toNat : Int) = cyc (pa ps 0).1 (pa ps 0).2.1 := Int.toNat_of_nonneg (by omega)
      obtain ⟨m, rfl⟩ : ∃ m2 : Nat, m = m2 := Int.eq_ofNat_of_zero_le r3.1
      refine v_move rfl ?_
      refine v_not false rfl rfl ?_
      refine v_nil ?_
      refine q_n ?_
      refine w_f rfl ?_
      refine w_skip ?_
      refine q_n ?_
      refine w_seq ?_
      refine w_seq ?_
      refine w_reg rfl ?_
      refine v_assign (c := .v (.int .i64 1)) rfl ?_
      refine v_nil ?_
      refine q_n ?_
      refine w_block ?_
      refine w_loop (fun k sl H => ∃ i : Nat, k = ps.length - i ∧ 1 ≤ i ∧ i ≤ ps.length ∧ (∀ p ∈ ps.take i, cyc p.1 p.2.1 = cyc (pa ps 0).1 (pa ps 0).2.1) ∧ sl = sls [(0, .c (pls false ps)), (1, .c (ints false ts)), (2, cI m), (10, cI i)] ∧ H = []) ?_ ?_
      · refine ⟨_, _, _, ?_, 1, rfl, by omega, by omega, (fun p hp => by rw [List.take_succ_eq_append_getElem h00] at hp; simp at hp; rw [hp, pa_at h00]), rfl, rfl⟩
        exact turn0 ⟨tr_sl, tr_sl, tr_v, tr_v, trivial⟩
      rintro k sl H ⟨i, rfl, hi1, hi, hp, rfl, rfl⟩
      refine w_seq ?_
      refine w_seq ?_
      refine w_reg rfl ?_
      refine v_move rfl ?_
      refine v_move rfl ?_
      refine v_len_sl lay38 rfl ?_
      refine v_lss lay3 rfl rfl (fun h33 => ?_) (fun h33 => ?_)
      · have hi2 : i < ps.length := by omega
        have hk := hok _ (List.getElem_mem hi2)
        refine v_nil ?_
        refine q_n ?_
        refine w_t rfl ?_
        refine w_skip ?_
        refine q_n ?_
        refine w_seq ?_
        refine w_block ?_
        refine w_seq ?_
        refine w_draw [0, 0, 3, 7, 0, 16, 63, 127] [⟨0, 0, []⟩, ⟨1, 0, []⟩, ⟨2, 0, []⟩, ⟨3, 0, []⟩, ⟨4, 0, []⟩, ⟨5, 0, []⟩, ⟨6, 0, []⟩, ⟨7, 0, []⟩] rfl rfl ?_
        refine d_q rfl rfl rfl rfl rfl ?_
        refine v_move rfl ?_
        refine v_nil ?_
        refine d_q rfl rfl rfl rfl rfl ?_
        refine v_move rfl ?_
        refine v_nil ?_
        refine d_q rfl rfl rfl rfl rfl ?_
        refine v_idx_e (k := 3) (i) plc_len lay38 lay28 rfl rfl rfl (rfl) rfl (rfl) (hi2) ?_
        refine v_nil ?_
        refine d_call (c33y _ _ _ hk.1.2.1 hk.1.2.2 hk.2.1 (by have := hk.1.1; omega)) rfl rfl rfl rfl rfl (.cons vw_vw .nil) ?_
        refine d_q rfl rfl rfl rfl rfl ?_
        refine v_move rfl ?_
        refine v_nil ?_
        refine d_q rfl rfl rfl rfl rfl ?_
        refine v_idx_e (k := 3) (0) plc_len lay38 lay28 rfl rfl rfl (rfl) rfl (rfl) (h00) ?_
        refine v_nil ?_
        refine d_call (c33y _ _ _ hk0.1.2.1 hk0.1.2.2 hk0.2.1 (by have := hk0.1.1; omega)) rfl rfl rfl rfl rfl (.cons vw_vw .nil) ?_
        refine d_q rfl rfl rfl rfl rfl ?_
        refine v_neq lay2 rfl rfl (fun h36 => ?_) (fun h36 => ?_)
        · have hcy := h36
          refine v_nil ?_
          refine d_nil ?_
          refine q_n ?_
          refine w_t rfl ?_
          refine w_seq ?_
          refine w_reg rfl ?_
          refine v_assign (c := .v (.int .i64 4)) rfl ?_
          refine v_nil ?_
          refine q_n ?_
          refine w_ret (q_br (q_r (q_r (q_br (q_r ?_)))))
          refine r_r rfl ?_
          exact a_i (wc_4 hv hrb ⟨ps[i], List.getElem_mem hi2, by rw [pa_at h00]; exact hcy⟩).symm
        have hcy := h36
        refine v_nil ?_
        refine d_nil ?_
        refine q_n ?_
        refine w_f rfl ?_
        refine w_skip ?_
        refine q_bn ?_
        refine q_n ?_
        refine w_reg rfl ?_
        refine v_move rfl ?_
        refine v_add lay3 rfl rfl (i64r (by omega)) ?_
        refine v_assign rfl ?_
        refine v_nil ?_
        refine q_n ?_
        refine ⟨_, _, _, ?_, ⟨i + 1, rfl, by omega, by omega, all_step hi2 hp (by rw [pa_at h00]; exact hcy), rfl, rfl⟩, by omega⟩
        exact turn0 ⟨tr_sl, tr_sl, tr_v, tr_i (by push_cast; omega), trivial⟩
      obtain rfl : i = ps.length := by omega
      rw [List.take_length] at hp
      have hp0 := hp
      clear hp hi hi1
      refine v_nil ?_
      refine q_n ?_
      refine w_f rfl ?_
      refine w_exit ?_
      refine q_e ?_
      refine q_e ?_
      refine q_hit ?_
      refine q_n ?_
      refine w_seq ?_
      refine w_seq ?_
      refine w_reg rfl ?_
      refine v_assign (c := .v (.int .i64 0)) rfl ?_
      refine v_nil ?_
      refine q_n ?_
      refine w_block ?_
      refine w_loop (fun k sl H => ∃ i : Nat, k = ps.length - i ∧ i ≤ ps.length ∧ (∀ p ∈ ps.take i, true ∈ gr0 p.1 p.2.1 m (cyc (pa ps 0).1 (pa ps 0).2.1).toNat) ∧ sl = sls [(0, .c (pls false ps)), (1, .c (ints false ts)), (2, cI m), (11, cI i)] ∧ H = []) ?_ ?_
      · refine ⟨_, _, _, ?_, 0, rfl, by omega, by simp, rfl, rfl⟩
        exact turn0 ⟨tr_sl, tr_sl, tr_v, tr_v, trivial⟩
      rintro k sl H ⟨i, rfl, hi, hg, rfl, rfl⟩
      refine w_seq ?_
      refine w_seq ?_
      refine w_reg rfl ?_
      refine v_move rfl ?_
      refine v_move rfl ?_
      refine v_len_sl lay38 rfl ?_
      refine v_lss lay3 rfl rfl (fun h37 => ?_) (fun h37 => ?_)
      rotate_left
      · refine v_nil ?_
        refine q_n ?_
        refine w_f rfl ?_
        refine w_exit ?_
        refine q_e ?_
        refine q_e ?_
        refine q_hit ?_
        refine q_n ?_
        refine w_seq ?_
        refine w_reg rfl ?_
        refine v_assign (c := .v (.int .i64 0)) rfl ?_
        refine v_nil ?_
        refine q_n ?_
        refine w_ret ?_
        refine r_r rfl ?_
        obtain rfl : i = ps.length := by omega
        rw [List.take_length] at hg
        exact a_i (wc_0 hv hrb (fun ⟨p, h8, h9⟩ => h9 (hp0 p h8)) (fun ⟨p, h8, h9⟩ => h9 (hg p h8))).symm
      have hi2 : i < ps.length := by omega
      have hk := hok _ (List.getElem_mem hi2)
      refine v_nil ?_
      refine q_n ?_
      refine w_t rfl ?_
      refine w_skip ?_
      refine q_n ?_
      refine w_seq ?_
      refine w_block ?_
      refine w_seq ?_
      refine w_reg rfl ?_
      refine v_move rfl ?_
      refine v_move rfl ?_
      refine v_idx_e (k := 3) (i) plc_len lay38 lay28 rfl rfl rfl (rfl) rfl (rfl) (hi2) ?_
      refine v_move rfl ?_
      refine v_call (c65 _ _ _ hk m (cyc (pa ps 0).1 (pa ps 0).2.1).toNat (by rw [hz]; exact hp0 _ (List.getElem_mem hi2)) (by omega)) rfl rfl rfl (.cons vw_vw (.cons vw_v .nil)) ?_
      refine v_move_t rfl ?_
      refine v_extract_c rfl rfl ?_
      refine v_extract_c rfl rfl ?_
      refine v_assign rfl ?_
      refine v_assign rfl ?_
      refine v_nil ?_
      refine q_n ?_
      refine w_seq ?_
      refine w_reg rfl ?_
      refine v_move rfl ?_
      refine v_eql lay2 rfl rfl (fun h39 => ?_) (fun h39 => ?_)
      · have hgi := cnb_0.1 h39
        refine v_nil ?_
        refine q_n ?_
        refine w_t rfl ?_
        refine w_seq ?_
        refine w_reg rfl ?_
        refine v_assign (c := .v (.int .i64 6)) rfl ?_
        refine v_nil ?_
        refine q_n ?_
        refine w_ret (q_br (q_r (q_r (q_br (q_r ?_)))))
        refine r_r rfl ?_
        exact a_i (wc_6 hv hrb (fun ⟨p, h8, h9⟩ => h9 (hp0 p h8)) ⟨ps[i], List.getElem_mem hi2, hgi⟩).symm
      have hgi := Decidable.not_not.1 (fun h => h39 (cnb_0.2 h))
      refine v_nil ?_
      refine q_n ?_
      refine w_f rfl ?_
      refine w_skip ?_
      refine q_bn ?_
      refine q_n ?_
      refine w_reg rfl ?_
      refine v_move rfl ?_
      refine v_add lay3 rfl rfl (i64r (by omega)) ?_
      refine v_assign rfl ?_
      refine v_nil ?_
      refine q_n ?_
      refine ⟨_, _, _, ?_, ⟨i + 1, rfl, by omega, all_step hi2 hg hgi, rfl, rfl⟩, by omega⟩
      exact turn0 ⟨tr_sl, tr_sl, tr_v, tr_i (by push_cast; omega), trivial⟩
  refine v_pick_t rfl rfl ?_
  refine v_move rfl ?_
  refine v_guard_on rfl rfl ?_
  refine v_move rfl ?_
  refine v_guard_on rfl rfl ?_
  refine v_callb (c64 _) rfl rfl (.cons vw_v .nil) (fun h6 => ?_) (fun h6 => ?_)
  · refine v_pick_t rfl rfl ?_
    refine v_assign rfl ?_
    refine v_nil ?_
    refine q_n ?_
    refine w_seq ?_
    refine w_seq ?_
    refine w_reg rfl ?_
    refine v_assign (c := .v (.int .i64 0)) rfl ?_
    refine v_nil ?_
    refine q_n ?_
    refine w_block ?_
    refine w_loop (fun k sl H => ∃ (i : Nat) (acc : Bool), k = ts.length - i ∧ i ≤ ts.length ∧ (acc = true → ((1 ≤ (ps.length : Int) ∧ (ps.length : Int) ≤ 6) ∧ (ts.length : Int) = ps.length - 1 ∧ (0 ≤ m ∧ m ≤ 8 - 1)) ∧ ∀ t ∈ ts.take i, 0 ≤ t ∧ t ≤ 100000) ∧ (acc = false → rowBad ps ts m) ∧ sl = sls [(0, .c (pls false ps)), (1, .c (ints false ts)), (2, cI m), (8, cB acc), (9, cI i)] ∧ H = []) ?_ ?_
    · refine ⟨_, _, _, ?_, 0, true, rfl, Nat.zero_le _, (fun _ => ⟨⟨by omega, by omega, by omega⟩, by simp⟩), (fun h => by cases h), rfl, rfl⟩
      exact turn0 ⟨tr_sl, tr_sl, tr_v, tr_v, tr_v, trivial⟩
    rintro k sl H ⟨i, acc, rfl, hi, hA, hB, rfl, rfl⟩
    rcases acc with _ | _
    · skip
      refine w_seq ?_
      refine w_seq ?_
      refine w_reg rfl ?_
      refine v_move rfl ?_
      refine v_move rfl ?_
      refine v_len_sl lay36 rfl ?_
      refine v_lss lay3 rfl rfl (fun h7 => ?_) (fun h7 => ?_)
      rotate_left
      · refine v_move rfl ?_
        refine v_guard_off rfl rfl rfl ?_
        refine v_pick_f (v := .v (.bool false)) rfl rfl ?_
        refine v_nil ?_
        refine q_n ?_
        refine w_f rfl ?_
        refine w_exit ?_
        refine q_e ?_
        refine q_e ?_
        refine q_hit ?_
        refine q_n ?_
        refine w_seq ?_
        refine w_seq ?_
        refine w_reg rfl ?_
        refine v_move rfl ?_
        refine v_not true rfl rfl ?_
        refine v_nil ?_
        refine q_n ?_
        refine w_t rfl ?_
        refine w_seq ?_
        refine w_reg rfl ?_
        refine v_assign (c := .v (.int .i64 2)) rfl ?_
        refine v_nil ?_
        refine q_n ?_
        refine w_ret (q_r ?_)
        refine r_r rfl ?_
        exact a_i (wc_2 hv (hB rfl)).symm
      have hi2 : i < ts.length := by omega
      refine v_move rfl ?_
      refine v_guard_on rfl rfl ?_
      refine v_move rfl ?_
      refine v_pick_t rfl rfl ?_
      refine v_nil ?_
      refine q_n ?_
      refine w_f rfl ?_
      refine w_exit ?_
      refine q_e ?_
      refine q_e ?_
      refine q_hit ?_
      refine q_n ?_
      refine w_seq ?_
      refine w_seq ?_
      refine w_reg rfl ?_
      refine v_move rfl ?_
      refine v_not true rfl rfl ?_
      refine v_nil ?_
      refine q_n ?_
      refine w_t rfl ?_
      refine w_seq ?_
      refine w_reg rfl ?_
      refine v_assign (c := .v (.int .i64 2)) rfl ?_
      refine v_nil ?_
      refine q_n ?_
      refine w_ret (q_r ?_)
      refine r_r rfl ?_
      exact a_i (wc_2 hv (hB rfl)).symm
    · skip
      refine w_seq ?_
      refine w_seq ?_
      refine w_reg rfl ?_
      refine v_move rfl ?_
      refine v_move rfl ?_
      refine v_len_sl lay36 rfl ?_
      refine v_lss lay3 rfl rfl (fun h8 => ?_) (fun h8 => ?_)
      · have hi2 : i < ts.length := by omega
        refine v_move rfl ?_
        refine v_guard_on rfl rfl ?_
        refine v_move rfl ?_
        refine v_pick_t rfl rfl ?_
        refine v_nil ?_
        refine q_n ?_
        refine w_t rfl ?_
        refine w_skip ?_
        refine q_n ?_
        refine w_seq ?_
        refine w_block ?_
        refine w_reg rfl ?_
        refine v_move rfl ?_
        refine v_move rfl ?_
        refine v_idx_e (k := 1) (i) int_len lay36 lay2 rfl rfl rfl (rfl) rfl (rfl) (hi2) ?_
        refine v_load_vw (.c (.v _)) lay2 rfl rfl rfl ?_
        refine v_callb (cIn _ _ _) rfl rfl (.cons vw_v (.cons vw_v (.cons vw_v .nil))) (fun h10 => ?_) (fun h10 => ?_)
        · have htr := h10
          refine v_assign rfl ?_
          refine v_nil ?_
          refine q_bn ?_
          refine q_n ?_
          refine w_reg rfl ?_
          refine v_move rfl ?_
          refine v_add lay3 rfl rfl (i64r (by omega)) ?_
          refine v_assign rfl ?_
          refine v_nil ?_
          refine q_n ?_
          refine ⟨_, _, _, ?_, ⟨i + 1, true, rfl, by omega, (fun _ => ⟨(hA rfl).1, all_step hi2 (hA rfl).2 htr⟩), (fun h => by cases h), rfl, rfl⟩, by omega⟩
          exact turn0 ⟨tr_sl, tr_sl, tr_v, tr_v, tr_i (by push_cast; omega), trivial⟩
        have htr := h10
        refine v_assign rfl ?_
        refine v_nil ?_
        refine q_bn ?_
        refine q_n ?_
        refine w_reg rfl ?_
        refine v_move rfl ?_
        refine v_add lay3 rfl rfl (i64r (by omega)) ?_
        refine v_assign rfl ?_
        refine v_nil ?_
        refine q_n ?_
        refine ⟨_, _, _, ?_, ⟨i + 1, false, rfl, by omega, (fun h => by cases h), (fun _ h => htr (h.2.2.2 _ (List.getElem_mem hi2))), rfl, rfl⟩, by omega⟩
        exact turn0 ⟨tr_sl, tr_sl, tr_v, tr_v, tr_i (by push_cast; omega), trivial⟩
      refine v_move rfl ?_
      refine v_guard_off rfl rfl rfl ?_
      refine v_pick_f (v := .v (.bool false)) rfl rfl ?_
      refine v_nil ?_
      refine q_n ?_
      refine w_f rfl ?_
      refine w_exit ?_
      refine q_e ?_
      refine q_e ?_
      refine q_hit ?_
      refine q_n ?_
      refine w_seq ?_
      refine w_seq ?_
      refine w_reg rfl ?_
      obtain ⟨⟨r1, r2, r3⟩, r4⟩ := hA rfl
      obtain rfl : i = ts.length := by omega
      rw [List.take_length] at r4
      have hrb : ¬ rowBad ps ts m := fun h => h ⟨r1, r2, r3, r4⟩
      have hok := all_ok hv
      have h00 : 0 < ps.length := by omega
      have hk0 := hok _ (List.getElem_mem h00)
      have hc0 := okP_cyc hk0
      rw [← pa_at h00] at hc0
      have hz : ((cyc (pa ps 0).1 (pa ps 0).2.1).toNat : Int) = cyc (pa ps 0).1 (pa ps 0).2.1 := Int.toNat_of_nonneg (by omega)
      obtain ⟨m, rfl⟩ : ∃ m2 : Nat, m = m2 := Int.eq_ofNat_of_zero_le r3.1
      refine v_move rfl ?_
      refine v_not false rfl rfl ?_
      refine v_nil ?_
      refine q_n ?_
      refine w_f rfl ?_
      refine w_skip ?_
      refine q_n ?_
      refine w_seq ?_
      refine w_seq ?_
      refine w_reg rfl ?_
      refine v_assign (c := .v (.int .i64 1)) rfl ?_
      refine v_nil ?_
      refine q_n ?_
      refine w_block ?_
      refine w_loop (fun k sl H => ∃ i : Nat, k = ps.length - i ∧ 1 ≤ i ∧ i ≤ ps.length ∧ (∀ p ∈ ps.take i, cyc p.1 p.2.1 = cyc (pa ps 0).1 (pa ps 0).2.1) ∧ sl = sls [(0, .c (pls false ps)), (1, .c (ints false ts)), (2, cI m), (10, cI i)] ∧ H = []) ?_ ?_
      · refine ⟨_, _, _, ?_, 1, rfl, by omega, by omega, (fun p hp => by rw [List.take_succ_eq_append_getElem h00] at hp; simp at hp; rw [hp, pa_at h00]), rfl, rfl⟩
        exact turn0 ⟨tr_sl, tr_sl, tr_v, tr_v, trivial⟩
      rintro k sl H ⟨i, rfl, hi1, hi, hp, rfl, rfl⟩
      refine w_seq ?_
      refine w_seq ?_
      refine w_reg rfl ?_
      refine v_move rfl ?_
      refine v_move rfl ?_
      refine v_len_sl lay38 rfl ?_
      refine v_lss lay3 rfl rfl (fun h11 => ?_) (fun h11 => ?_)
      · have hi2 : i < ps.length := by omega
        have hk := hok _ (List.getElem_mem hi2)
        refine v_nil ?_
        refine q_n ?_
        refine w_t rfl ?_
        refine w_skip ?_
        refine q_n ?_
        refine w_seq ?_
        refine w_block ?_
        refine w_seq ?_
        refine w_draw [0, 0, 3, 7, 0, 16, 63, 127] [⟨0, 0, []⟩, ⟨1, 0, []⟩, ⟨2, 0, []⟩, ⟨3, 0, []⟩, ⟨4, 0, []⟩, ⟨5, 0, []⟩, ⟨6, 0, []⟩, ⟨7, 0, []⟩] rfl rfl ?_
        refine d_q rfl rfl rfl rfl rfl ?_
        refine v_move rfl ?_
        refine v_nil ?_
        refine d_q rfl rfl rfl rfl rfl ?_
        refine v_move rfl ?_
        refine v_nil ?_
        refine d_q rfl rfl rfl rfl rfl ?_
        refine v_idx_e (k := 3) (i) plc_len lay38 lay28 rfl rfl rfl (rfl) rfl (rfl) (hi2) ?_
        refine v_nil ?_
        refine d_call (c33y _ _ _ hk.1.2.1 hk.1.2.2 hk.2.1 (by have := hk.1.1; omega)) rfl rfl rfl rfl rfl (.cons vw_vw .nil) ?_
        refine d_q rfl rfl rfl rfl rfl ?_
        refine v_move rfl ?_
        refine v_nil ?_
        refine d_q rfl rfl rfl rfl rfl ?_
        refine v_idx_e (k := 3) (0) plc_len lay38 lay28 rfl rfl rfl (rfl) rfl (rfl) (h00) ?_
        refine v_nil ?_
        refine d_call (c33y _ _ _ hk0.1.2.1 hk0.1.2.2 hk0.2.1 (by have := hk0.1.1; omega)) rfl rfl rfl rfl rfl (.cons vw_vw .nil) ?_
        refine d_q rfl rfl rfl rfl rfl ?_
        refine v_neq lay2 rfl rfl (fun h14 => ?_) (fun h14 => ?_)
        · have hcy := h14
          refine v_nil ?_
          refine d_nil ?_
          refine q_n ?_
          refine w_t rfl ?_
          refine w_seq ?_
          refine w_reg rfl ?_
          refine v_assign (c := .v (.int .i64 4)) rfl ?_
          refine v_nil ?_
          refine q_n ?_
          refine w_ret (q_br (q_r (q_r (q_br (q_r ?_)))))
          refine r_r rfl ?_
          exact a_i (wc_4 hv hrb ⟨ps[i], List.getElem_mem hi2, by rw [pa_at h00]; exact hcy⟩).symm
        have hcy := h14
        refine v_nil ?_
        refine d_nil ?_
        refine q_n ?_
        refine w_f rfl ?_
        refine w_skip ?_
        refine q_bn ?_
        refine q_n ?_
        refine w_reg rfl ?_
        refine v_move rfl ?_
        refine v_add lay3 rfl rfl (i64r (by omega)) ?_
        refine v_assign rfl ?_
        refine v_nil ?_
        refine q_n ?_
        refine ⟨_, _, _, ?_, ⟨i + 1, rfl, by omega, by omega, all_step hi2 hp (by rw [pa_at h00]; exact hcy), rfl, rfl⟩, by omega⟩
        exact turn0 ⟨tr_sl, tr_sl, tr_v, tr_i (by push_cast; omega), trivial⟩
      obtain rfl : i = ps.length := by omega
      rw [List.take_length] at hp
      have hp0 := hp
      clear hp hi hi1
      refine v_nil ?_
      refine q_n ?_
      refine w_f rfl ?_
      refine w_exit ?_
      refine q_e ?_
      refine q_e ?_
      refine q_hit ?_
      refine q_n ?_
      refine w_seq ?_
      refine w_seq ?_
      refine w_reg rfl ?_
      refine v_assign (c := .v (.int .i64 0)) rfl ?_
      refine v_nil ?_
      refine q_n ?_
      refine w_block ?_
      refine w_loop (fun k sl H => ∃ i : Nat, k = ps.length - i ∧ i ≤ ps.length ∧ (∀ p ∈ ps.take i, true ∈ gr0 p.1 p.2.1 m (cyc (pa ps 0).1 (pa ps 0).2.1).toNat) ∧ sl = sls [(0, .c (pls false ps)), (1, .c (ints false ts)), (2, cI m), (11, cI i)] ∧ H = []) ?_ ?_
      · refine ⟨_, _, _, ?_, 0, rfl, by omega, by simp, rfl, rfl⟩
        exact turn0 ⟨tr_sl, tr_sl, tr_v, tr_v, trivial⟩
      rintro k sl H ⟨i, rfl, hi, hg, rfl, rfl⟩
      refine w_seq ?_
      refine w_seq ?_
      refine w_reg rfl ?_
      refine v_move rfl ?_
      refine v_move rfl ?_
      refine v_len_sl lay38 rfl ?_
      refine v_lss lay3 rfl rfl (fun h15 => ?_) (fun h15 => ?_)
      rotate_left
      · refine v_nil ?_
        refine q_n ?_
        refine w_f rfl ?_
        refine w_exit ?_
        refine q_e ?_
        refine q_e ?_
        refine q_hit ?_
        refine q_n ?_
        refine w_seq ?_
        refine w_reg rfl ?_
        refine v_assign (c := .v (.int .i64 0)) rfl ?_
        refine v_nil ?_
        refine q_n ?_
        refine w_ret ?_
        refine r_r rfl ?_
        obtain rfl : i = ps.length := by omega
        rw [List.take_length] at hg
        exact a_i (wc_0 hv hrb (fun ⟨p, h8, h9⟩ => h9 (hp0 p h8)) (fun ⟨p, h8, h9⟩ => h9 (hg p h8))).symm
      have hi2 : i < ps.length := by omega
      have hk := hok _ (List.getElem_mem hi2)
      refine v_nil ?_
      refine q_n ?_
      refine w_t rfl ?_
      refine w_skip ?_
      refine q_n ?_
      refine w_seq ?_
      refine w_block ?_
      refine w_seq ?_
      refine w_reg rfl ?_
      refine v_move rfl ?_
      refine v_move rfl ?_
      refine v_idx_e (k := 3) (i) plc_len lay38 lay28 rfl rfl rfl (rfl) rfl (rfl) (hi2) ?_
      refine v_move rfl ?_
      refine v_call (c65 _ _ _ hk m (cyc (pa ps 0).1 (pa ps 0).2.1).toNat (by rw [hz]; exact hp0 _ (List.getElem_mem hi2)) (by omega)) rfl rfl rfl (.cons vw_vw (.cons vw_v .nil)) ?_
      refine v_move_t rfl ?_
      refine v_extract_c rfl rfl ?_
      refine v_extract_c rfl rfl ?_
      refine v_assign rfl ?_
      refine v_assign rfl ?_
      refine v_nil ?_
      refine q_n ?_
      refine w_seq ?_
      refine w_reg rfl ?_
      refine v_move rfl ?_
      refine v_eql lay2 rfl rfl (fun h17 => ?_) (fun h17 => ?_)
      · have hgi := cnb_0.1 h17
        refine v_nil ?_
        refine q_n ?_
        refine w_t rfl ?_
        refine w_seq ?_
        refine w_reg rfl ?_
        refine v_assign (c := .v (.int .i64 6)) rfl ?_
        refine v_nil ?_
        refine q_n ?_
        refine w_ret (q_br (q_r (q_r (q_br (q_r ?_)))))
        refine r_r rfl ?_
        exact a_i (wc_6 hv hrb (fun ⟨p, h8, h9⟩ => h9 (hp0 p h8)) ⟨ps[i], List.getElem_mem hi2, hgi⟩).symm
      have hgi := Decidable.not_not.1 (fun h => h17 (cnb_0.2 h))
      refine v_nil ?_
      refine q_n ?_
      refine w_f rfl ?_
      refine w_skip ?_
      refine q_bn ?_
      refine q_n ?_
      refine w_reg rfl ?_
      refine v_move rfl ?_
      refine v_add lay3 rfl rfl (i64r (by omega)) ?_
      refine v_assign rfl ?_
      refine v_nil ?_
      refine q_n ?_
      refine ⟨_, _, _, ?_, ⟨i + 1, rfl, by omega, all_step hi2 hg hgi, rfl, rfl⟩, by omega⟩
      exact turn0 ⟨tr_sl, tr_sl, tr_v, tr_i (by push_cast; omega), trivial⟩
  refine v_pick_t rfl rfl ?_
  refine v_assign rfl ?_
  refine v_nil ?_
  refine q_n ?_
  refine w_seq ?_
  refine w_seq ?_
  refine w_reg rfl ?_
  refine v_assign (c := .v (.int .i64 0)) rfl ?_
  refine v_nil ?_
  refine q_n ?_
  refine w_block ?_
  refine w_loop (fun k sl H => ∃ (i : Nat) (acc : Bool), k = ts.length - i ∧ i ≤ ts.length ∧ (acc = true → ((1 ≤ (ps.length : Int) ∧ (ps.length : Int) ≤ 6) ∧ (ts.length : Int) = ps.length - 1 ∧ (0 ≤ m ∧ m ≤ 8 - 1)) ∧ ∀ t ∈ ts.take i, 0 ≤ t ∧ t ≤ 100000) ∧ (acc = false → rowBad ps ts m) ∧ sl = sls [(0, .c (pls false ps)), (1, .c (ints false ts)), (2, cI m), (8, cB acc), (9, cI i)] ∧ H = []) ?_ ?_
  · refine ⟨_, _, _, ?_, 0, false, rfl, Nat.zero_le _, (fun h => by cases h), (fun _ h => by obtain ⟨g1, g2, g3, g4⟩ := h; omega), rfl, rfl⟩
    exact turn0 ⟨tr_sl, tr_sl, tr_v, tr_v, tr_v, trivial⟩
  rintro k sl H ⟨i, acc, rfl, hi, hA, hB, rfl, rfl⟩
  rcases acc with _ | _
  · skip
    refine w_seq ?_
    refine w_seq ?_
    refine w_reg rfl ?_
    refine v_move rfl ?_
    refine v_move rfl ?_
    refine v_len_sl lay36 rfl ?_
    refine v_lss lay3 rfl rfl (fun h18 => ?_) (fun h18 => ?_)
    rotate_left
    · refine v_move rfl ?_
      refine v_guard_off rfl rfl rfl ?_
      refine v_pick_f (v := .v (.bool false)) rfl rfl ?_
      refine v_nil ?_
      refine q_n ?_
      refine w_f rfl ?_
      refine w_exit ?_
      refine q_e ?_
      refine q_e ?_
      refine q_hit ?_
      refine q_n ?_
      refine w_seq ?_
      refine w_seq ?_
      refine w_reg rfl ?_
      refine v_move rfl ?_
      refine v_not true rfl rfl ?_
      refine v_nil ?_
      refine q_n ?_
      refine w_t rfl ?_
      refine w_seq ?_
      refine w_reg rfl ?_
      refine v_assign (c := .v (.int .i64 2)) rfl ?_
      refine v_nil ?_
      refine q_n ?_
      refine w_ret (q_r ?_)
      refine r_r rfl ?_
      exact a_i (wc_2 hv (hB rfl)).symm
    have hi2 : i < ts.length := by omega
    refine v_move rfl ?_
    refine v_guard_on rfl rfl ?_
    refine v_move rfl ?_
    refine v_pick_t rfl rfl ?_
    refine v_nil ?_
    refine q_n ?_
    refine w_f rfl ?_
    refine w_exit ?_
    refine q_e ?_
    refine q_e ?_
    refine q_hit ?_
    refine q_n ?_
    refine w_seq ?_
    refine w_seq ?_
    refine w_reg rfl ?_
    refine v_move rfl ?_
    refine v_not true rfl rfl ?_
    refine v_nil ?_
    refine q_n ?_
    refine w_t rfl ?_
    refine w_seq ?_
    refine w_reg rfl ?_
    refine v_assign (c := .v (.int .i64 2)) rfl ?_
    refine v_nil ?_
    refine q_n ?_
    refine w_ret (q_r ?_)
    refine r_r rfl ?_
    exact a_i (wc_2 hv (hB rfl)).symm
  · skip
    refine w_seq ?_
    refine w_seq ?_
    refine w_reg rfl ?_
    refine v_move rfl ?_
    refine v_move rfl ?_
    refine v_len_sl lay36 rfl ?_
    refine v_lss lay3 rfl rfl (fun h19 => ?_) (fun h19 => ?_)
    · have hi2 : i < ts.length := by omega
      refine v_move rfl ?_
      refine v_guard_on rfl rfl ?_
      refine v_move rfl ?_
      refine v_pick_t rfl rfl ?_
      refine v_nil ?_
      refine q_n ?_
      refine w_t rfl ?_
      refine w_skip ?_
      refine q_n ?_
      refine w_seq ?_
      refine w_block ?_
      refine w_reg rfl ?_
      refine v_move rfl ?_
      refine v_move rfl ?_
      refine v_idx_e (k := 1) (i) int_len lay36 lay2 rfl rfl rfl (rfl) rfl (rfl) (hi2) ?_
      refine v_load_vw (.c (.v _)) lay2 rfl rfl rfl ?_
      refine v_callb (cIn _ _ _) rfl rfl (.cons vw_v (.cons vw_v (.cons vw_v .nil))) (fun h21 => ?_) (fun h21 => ?_)
      · have htr := h21
        refine v_assign rfl ?_
        refine v_nil ?_
        refine q_bn ?_
        refine q_n ?_
        refine w_reg rfl ?_
        refine v_move rfl ?_
        refine v_add lay3 rfl rfl (i64r (by omega)) ?_
        refine v_assign rfl ?_
        refine v_nil ?_
        refine q_n ?_
        refine ⟨_, _, _, ?_, ⟨i + 1, true, rfl, by omega, (fun _ => ⟨(hA rfl).1, all_step hi2 (hA rfl).2 htr⟩), (fun h => by cases h), rfl, rfl⟩, by omega⟩
        exact turn0 ⟨tr_sl, tr_sl, tr_v, tr_v, tr_i (by push_cast; omega), trivial⟩
      have htr := h21
      refine v_assign rfl ?_
      refine v_nil ?_
      refine q_bn ?_
      refine q_n ?_
      refine w_reg rfl ?_
      refine v_move rfl ?_
      refine v_add lay3 rfl rfl (i64r (by omega)) ?_
      refine v_assign rfl ?_
      refine v_nil ?_
      refine q_n ?_
      refine ⟨_, _, _, ?_, ⟨i + 1, false, rfl, by omega, (fun h => by cases h), (fun _ h => htr (h.2.2.2 _ (List.getElem_mem hi2))), rfl, rfl⟩, by omega⟩
      exact turn0 ⟨tr_sl, tr_sl, tr_v, tr_v, tr_i (by push_cast; omega), trivial⟩
    refine v_move rfl ?_
    refine v_guard_off rfl rfl rfl ?_
    refine v_pick_f (v := .v (.bool false)) rfl rfl ?_
    refine v_nil ?_
    refine q_n ?_
    refine w_f rfl ?_
    refine w_exit ?_
    refine q_e ?_
    refine q_e ?_
    refine q_hit ?_
    refine q_n ?_
    refine w_seq ?_
    refine w_seq ?_
    refine w_reg rfl ?_
    obtain ⟨⟨r1, r2, r3⟩, r4⟩ := hA rfl
    obtain rfl : i = ts.length := by omega
    rw [List.take_length] at r4
    have hrb : ¬ rowBad ps ts m := fun h => h ⟨r1, r2, r3, r4⟩
    have hok := all_ok hv
    have h00 : 0 < ps.length := by omega
    have hk0 := hok _ (List.getElem_mem h00)
    have hc0 := okP_cyc hk0
    rw [← pa_at h00] at hc0
    have hz : ((cyc (pa ps 0).1 (pa ps 0).2.1).toNat : Int) = cyc (pa ps 0).1 (pa ps 0).2.1 := Int.toNat_of_nonneg (by omega)
    obtain ⟨m, rfl⟩ : ∃ m2 : Nat, m = m2 := Int.eq_ofNat_of_zero_le r3.1
    refine v_move rfl ?_
    refine v_not false rfl rfl ?_
    refine v_nil ?_
    refine q_n ?_
    refine w_f rfl ?_
    refine w_skip ?_
    refine q_n ?_
    refine w_seq ?_
    refine w_seq ?_
    refine w_reg rfl ?_
    refine v_assign (c := .v (.int .i64 1)) rfl ?_
    refine v_nil ?_
    refine q_n ?_
    refine w_block ?_
    refine w_loop (fun k sl H => ∃ i : Nat, k = ps.length - i ∧ 1 ≤ i ∧ i ≤ ps.length ∧ (∀ p ∈ ps.take i, cyc p.1 p.2.1 = cyc (pa ps 0).1 (pa ps 0).2.1) ∧ sl = sls [(0, .c (pls false ps)), (1, .c (ints false ts)), (2, cI m), (10, cI i)] ∧ H = []) ?_ ?_
    · refine ⟨_, _, _, ?_, 1, rfl, by omega, by omega, (fun p hp => by rw [List.take_succ_eq_append_getElem h00] at hp; simp at hp; rw [hp, pa_at h00]), rfl, rfl⟩
      exact turn0 ⟨tr_sl, tr_sl, tr_v, tr_v, trivial⟩
    rintro k sl H ⟨i, rfl, hi1, hi, hp, rfl, rfl⟩
    refine w_seq ?_
    refine w_seq ?_
    refine w_reg rfl ?_
    refine v_move rfl ?_
    refine v_move rfl ?_
    refine v_len_sl lay38 rfl ?_
    refine v_lss lay3 rfl rfl (fun h22 => ?_) (fun h22 => ?_)
    · have hi2 : i < ps.length := by omega
      have hk := hok _ (List.getElem_mem hi2)
      refine v_nil ?_
      refine q_n ?_
      refine w_t rfl ?_
      refine w_skip ?_
      refine q_n ?_
      refine w_seq ?_
      refine w_block ?_
      refine w_seq ?_
      refine w_draw [0, 0, 3, 7, 0, 16, 63, 127] [⟨0, 0, []⟩, ⟨1, 0, []⟩, ⟨2, 0, []⟩, ⟨3, 0, []⟩, ⟨4, 0, []⟩, ⟨5, 0, []⟩, ⟨6, 0, []⟩, ⟨7, 0, []⟩] rfl rfl ?_
      refine d_q rfl rfl rfl rfl rfl ?_
      refine v_move rfl ?_
      refine v_nil ?_
      refine d_q rfl rfl rfl rfl rfl ?_
      refine v_move rfl ?_
      refine v_nil ?_
      refine d_q rfl rfl rfl rfl rfl ?_
      refine v_idx_e (k := 3) (i) plc_len lay38 lay28 rfl rfl rfl (rfl) rfl (rfl) (hi2) ?_
      refine v_nil ?_
      refine d_call (c33y _ _ _ hk.1.2.1 hk.1.2.2 hk.2.1 (by have := hk.1.1; omega)) rfl rfl rfl rfl rfl (.cons vw_vw .nil) ?_
      refine d_q rfl rfl rfl rfl rfl ?_
      refine v_move rfl ?_
      refine v_nil ?_
      refine d_q rfl rfl rfl rfl rfl ?_
      refine v_idx_e (k := 3) (0) plc_len lay38 lay28 rfl rfl rfl (rfl) rfl (rfl) (h00) ?_
      refine v_nil ?_
      refine d_call (c33y _ _ _ hk0.1.2.1 hk0.1.2.2 hk0.2.1 (by have := hk0.1.1; omega)) rfl rfl rfl rfl rfl (.cons vw_vw .nil) ?_
      refine d_q rfl rfl rfl rfl rfl ?_
      refine v_neq lay2 rfl rfl (fun h25 => ?_) (fun h25 => ?_)
      · have hcy := h25
        refine v_nil ?_
        refine d_nil ?_
        refine q_n ?_
        refine w_t rfl ?_
        refine w_seq ?_
        refine w_reg rfl ?_
        refine v_assign (c := .v (.int .i64 4)) rfl ?_
        refine v_nil ?_
        refine q_n ?_
        refine w_ret (q_br (q_r (q_r (q_br (q_r ?_)))))
        refine r_r rfl ?_
        exact a_i (wc_4 hv hrb ⟨ps[i], List.getElem_mem hi2, by rw [pa_at h00]; exact hcy⟩).symm
      have hcy := h25
      refine v_nil ?_
      refine d_nil ?_
      refine q_n ?_
      refine w_f rfl ?_
      refine w_skip ?_
      refine q_bn ?_
      refine q_n ?_
      refine w_reg rfl ?_
      refine v_move rfl ?_
      refine v_add lay3 rfl rfl (i64r (by omega)) ?_
      refine v_assign rfl ?_
      refine v_nil ?_
      refine q_n ?_
      refine ⟨_, _, _, ?_, ⟨i + 1, rfl, by omega, by omega, all_step hi2 hp (by rw [pa_at h00]; exact hcy), rfl, rfl⟩, by omega⟩
      exact turn0 ⟨tr_sl, tr_sl, tr_v, tr_i (by push_cast; omega), trivial⟩
    obtain rfl : i = ps.length := by omega
    rw [List.take_length] at hp
    have hp0 := hp
    clear hp hi hi1
    refine v_nil ?_
    refine q_n ?_
    refine w_f rfl ?_
    refine w_exit ?_
    refine q_e ?_
    refine q_e ?_
    refine q_hit ?_
    refine q_n ?_
    refine w_seq ?_
    refine w_seq ?_
    refine w_reg rfl ?_
    refine v_assign (c := .v (.int .i64 0)) rfl ?_
    refine v_nil ?_
    refine q_n ?_
    refine w_block ?_
    refine w_loop (fun k sl H => ∃ i : Nat, k = ps.length - i ∧ i ≤ ps.length ∧ (∀ p ∈ ps.take i, true ∈ gr0 p.1 p.2.1 m (cyc (pa ps 0).1 (pa ps 0).2.1).toNat) ∧ sl = sls [(0, .c (pls false ps)), (1, .c (ints false ts)), (2, cI m), (11, cI i)] ∧ H = []) ?_ ?_
    · refine ⟨_, _, _, ?_, 0, rfl, by omega, by simp, rfl, rfl⟩
      exact turn0 ⟨tr_sl, tr_sl, tr_v, tr_v, trivial⟩
    rintro k sl H ⟨i, rfl, hi, hg, rfl, rfl⟩
    refine w_seq ?_
    refine w_seq ?_
    refine w_reg rfl ?_
    refine v_move rfl ?_
    refine v_move rfl ?_
    refine v_len_sl lay38 rfl ?_
    refine v_lss lay3 rfl rfl (fun h26 => ?_) (fun h26 => ?_)
    rotate_left
    · refine v_nil ?_
      refine q_n ?_
      refine w_f rfl ?_
      refine w_exit ?_
      refine q_e ?_
      refine q_e ?_
      refine q_hit ?_
      refine q_n ?_
      refine w_seq ?_
      refine w_reg rfl ?_
      refine v_assign (c := .v (.int .i64 0)) rfl ?_
      refine v_nil ?_
      refine q_n ?_
      refine w_ret ?_
      refine r_r rfl ?_
      obtain rfl : i = ps.length := by omega
      rw [List.take_length] at hg
      exact a_i (wc_0 hv hrb (fun ⟨p, h8, h9⟩ => h9 (hp0 p h8)) (fun ⟨p, h8, h9⟩ => h9 (hg p h8))).symm
    have hi2 : i < ps.length := by omega
    have hk := hok _ (List.getElem_mem hi2)
    refine v_nil ?_
    refine q_n ?_
    refine w_t rfl ?_
    refine w_skip ?_
    refine q_n ?_
    refine w_seq ?_
    refine w_block ?_
    refine w_seq ?_
    refine w_reg rfl ?_
    refine v_move rfl ?_
    refine v_move rfl ?_
    refine v_idx_e (k := 3) (i) plc_len lay38 lay28 rfl rfl rfl (rfl) rfl (rfl) (hi2) ?_
    refine v_move rfl ?_
    refine v_call (c65 _ _ _ hk m (cyc (pa ps 0).1 (pa ps 0).2.1).toNat (by rw [hz]; exact hp0 _ (List.getElem_mem hi2)) (by omega)) rfl rfl rfl (.cons vw_vw (.cons vw_v .nil)) ?_
    refine v_move_t rfl ?_
    refine v_extract_c rfl rfl ?_
    refine v_extract_c rfl rfl ?_
    refine v_assign rfl ?_
    refine v_assign rfl ?_
    refine v_nil ?_
    refine q_n ?_
    refine w_seq ?_
    refine w_reg rfl ?_
    refine v_move rfl ?_
    refine v_eql lay2 rfl rfl (fun h28 => ?_) (fun h28 => ?_)
    · have hgi := cnb_0.1 h28
      refine v_nil ?_
      refine q_n ?_
      refine w_t rfl ?_
      refine w_seq ?_
      refine w_reg rfl ?_
      refine v_assign (c := .v (.int .i64 6)) rfl ?_
      refine v_nil ?_
      refine q_n ?_
      refine w_ret (q_br (q_r (q_r (q_br (q_r ?_)))))
      refine r_r rfl ?_
      exact a_i (wc_6 hv hrb (fun ⟨p, h8, h9⟩ => h9 (hp0 p h8)) ⟨ps[i], List.getElem_mem hi2, hgi⟩).symm
    have hgi := Decidable.not_not.1 (fun h => h28 (cnb_0.2 h))
    refine v_nil ?_
    refine q_n ?_
    refine w_f rfl ?_
    refine w_skip ?_
    refine q_bn ?_
    refine q_n ?_
    refine w_reg rfl ?_
    refine v_move rfl ?_
    refine v_add lay3 rfl rfl (i64r (by omega)) ?_
    refine v_assign rfl ?_
    refine v_nil ?_
    refine q_n ?_
    refine ⟨_, _, _, ?_, ⟨i + 1, rfl, by omega, all_step hi2 hg hgi, rfl, rfl⟩, by omega⟩
    exact turn0 ⟨tr_sl, tr_sl, tr_v, tr_i (by push_cast; omega), trivial⟩
end Go.VL
namespace Go.VL
open Go.RowKit
set_option maxRecDepth 20000
set_option maxHeartbeats 8000000
theorem c10p (p q : Pln) (hp : p.1.length ≤ 2 ^ 40) : PureC X 10 [.agg (plf p), .agg (plf q)] (cB (decide (p = q))) := by
  have h := c10 p.1 q.1 p.2.1 p.2.2 q.2.1 q.2.2 hp
  simpa only [← pln_ext] using h
/-- What is left behind the plans. -/
def szF : List Pln → Int → Int
  | [], l => l
  | p :: r, l => if szr p.1.length l < 0 then -1 else szF r (szr p.1.length l)
def szPS (ps : List Pln) (l : Int) : Int := if l - ps.length < 0 then -1 else szF ps (l - ps.length)
theorem szF_at {ps : List Pln} {l : Int} {i : Nat} (h : i < ps.length) : szF (ps.drop i) l = if szr ps[i].1.length l < 0 then -1 else szF (ps.drop (i + 1)) (szr ps[i].1.length l) := by
  rw [List.drop_eq_getElem_cons h, szF]
theorem szr_rng {n : Nat} {l : Int} (hl : 0 ≤ l ∧ l ≤ 2 ^ 20) (h : ¬ szr n l < 0) : 0 ≤ szr n l ∧ szr n l ≤ 2 ^ 20 ∧ (n : Int) ≤ l := by
  unfold szr at h ⊢
  split at h
  · omega
  · split <;> omega
theorem szF_le : ∀ {ps : List Pln} {l : Int}, 0 ≤ l ∧ l ≤ 2 ^ 20 → 0 ≤ szF ps l → (∀ p ∈ ps, p.1.length ≤ 2 ^ 20) ∧ szF ps l ≤ 2 ^ 20
  | [], l, hl, _ => ⟨(fun p hp => by cases hp), hl.2⟩
  | p :: r, l, hl, h => by
    unfold szF at h ⊢
    split at h
    · omega
    · rename_i h1
      rw [if_neg h1]
      have h2 := szr_rng hl h1
      obtain ⟨k1, k2⟩ := szF_le (ps := r) ⟨h2.1, h2.2.1⟩ h
      refine ⟨fun q hq => ?_, k2⟩
      rcases List.mem_cons.1 hq with rfl | hq
      · omega
      · exact k1 q hq
/-- Where the marks of a plan begin. -/
def pmA (a : Int) : List Pln → Nat → Int
  | _, 0 => a
  | [], _ + 1 => a
  | p :: r, i + 1 => pmA (a + 9 * p.1.length + 2) r i
theorem pmA_step : ∀ {ps : List Pln} {a : Int} {i : Nat} (h : i < ps.length), pmA a ps (i + 1) = pmA a ps i + 9 * ps[i].1.length + 2
  | p :: r, a, 0, _ => by simp [pmA]
  | p :: r, a, i + 1, h => by
    have ih := pmA_step (ps := r) (a := a + 9 * p.1.length + 2) (i := i) (by simpa using h)
    simpa [pmA] using ih
def pmE (a : Int) (p : Pln) : Pln := ((List.range p.1.length).map (smark a), a + 9 * p.1.length, a + 9 * p.1.length + 1)
/-- Plans, marked. -/
def pmk (a : Int) (ps : List Pln) : List Pln := (List.range ps.length).map fun i => pmE (pmA a ps i) (pa ps i)
theorem pmk_len {a : Int} {ps : List Pln} : (pmk a ps).length = ps.length := by simp [pmk]
theorem pmk_at {a : Int} {ps : List Pln} {i : Nat} (h : i < (pmk a ps).length) (h2 : i < ps.length) : (pmk a ps)[i] = pmE (pmA a ps i) ps[i] := by
  have e := mk_at (f := fun i => pmE (pmA a ps i) (pa ps i)) h
  rw [pa_at h2] at e
  exact e
theorem pmA_rng {ps : List Pln} {a : Int} (hP : ∀ p ∈ ps, p.1.length ≤ 2 ^ 20) : ∀ {i : Nat}, i ≤ ps.length → a ≤ pmA a ps i ∧ pmA a ps i ≤ a + 10000000 * i
  | 0, _ => by cases ps <;> simp [pmA]
  | i + 1, h => by
    have ih := pmA_rng hP (a := a) (i := i) (by omega)
    have h1 := hP _ (List.getElem_mem (show i < ps.length by omega))
    rw [pmA_step (by omega)]
    push_cast
    omega
theorem c16l (xs : List Int) (hx : xs.length ≤ 2 ^ 40) : LiveC X 16 [.c (.sl false xs.length 1 (flat int xs))] (.c (.mu 0 0 xs.length 1)) [⟨flat int xs, 2, true⟩] := by
  refine LiveC.of_body (drawD_ok X) (fun _ _ => Go.Proofs.Try.call16 _ _) Go.Proofs.Try.func16 rfl (n := 22) rfl ?_
  refine w_seq ?_
  refine w_reg rfl ?_
  refine v_assign rfl ?_
  refine v_nil ?_
  refine q_n ?_
  refine w_seq ?_
  refine w_reg rfl ?_
  refine v_move rfl ?_
  refine v_len_sl lay36 rfl ?_
  refine v_make (enc := int) (a0 := (0 : Int)) (m := 0) (H' := [_]) rfl lay36 lay2 rfl rfl rfl rfl (xs.length) (rfl) (by unfold maxLen; simp only []; omega) rfl rfl ?_
  refine v_assign rfl ?_
  refine v_nil ?_
  refine q_n ?_
  refine w_seq ?_
  refine w_seq ?_
  refine w_reg rfl ?_
  refine v_assign (c := .v (.int .i64 0)) rfl ?_
  refine v_nil ?_
  refine q_n ?_
  refine w_block ?_
  refine w_loop (fun k sl H => ∃ i : Nat, k = xs.length - i ∧ i ≤ xs.length ∧ sl = sls [(0, .c (.sl false xs.length 1 (flat int xs))), (3, .c (.mu 0 0 xs.length 1)), (4, cI i)] ∧ H = [⟨flat int (xs.take i ++ List.replicate (xs.length - i) (0 : Int)), 2, true⟩]) ?_ ?_
  · refine ⟨_, _, _, ?_, 0, rfl, Nat.zero_le _, rfl, rfl⟩
    exact turn [some 0] rfl rfl rfl ⟨⟨_, rfl, .stay (stays_flat int_sc _)⟩, trivial⟩ ⟨tr_sl, tr_mu rfl, tr_v, trivial⟩
  rintro k sl H ⟨i, rfl, hi, rfl, rfl⟩
  refine w_seq ?_
  refine w_seq ?_
  refine w_reg rfl ?_
  refine v_move rfl ?_
  refine v_move rfl ?_
  refine v_len_sl lay36 rfl ?_
  refine v_lss lay3 rfl rfl (fun h1 => ?_) (fun h1 => ?_)
  rotate_left
  · refine v_nil ?_
    refine q_n ?_
    refine w_f rfl ?_
    refine w_exit ?_
    refine q_e ?_
    refine q_e ?_
    refine q_hit ?_
    refine q_n ?_
    refine w_seq ?_
    refine w_reg rfl ?_
    refine v_move rfl ?_
    refine v_assign rfl ?_
    refine v_nil ?_
    refine q_n ?_
    refine w_ret ?_
    refine r_r rfl ?_
    obtain rfl : i = xs.length := by omega
    exact l_ans [some 0] rfl rfl ⟨⟨_, rfl, trc_flat int_sc (by simp)⟩, trivial⟩ (tr_mu rfl)
  have hi1 : i < xs.length := by omega
  refine v_nil ?_
  refine q_n ?_
  refine w_t rfl ?_
  refine w_skip ?_
  refine q_n ?_
  refine w_seq ?_
  refine w_block ?_
  refine w_reg rfl ?_
  refine v_move rfl ?_
  refine v_move rfl ?_
  refine v_move rfl ?_
  refine v_move rfl ?_
  refine v_idx_e (k := 1) (i) int_len lay36 lay2 rfl rfl rfl (rfl) rfl (rfl) ((by omega : i < xs.length)) ?_
  refine v_load_vw (.c (.v _)) lay2 rfl rfl rfl ?_
  refine v_idx_mu_e (k := 1) (off := 0) (i) lay36 lay2 rfl rfl rfl (rfl) ((by omega : i < xs.length)) ?_
  refine v_store_flat (H' := [_]) i 0 (xs[i]) int_len lay2 rfl rfl rfl (by omega) (by simp; omega) rfl rfl (rfl) rfl ?_
  refine v_nil ?_
  refine q_bn ?_
  refine q_n ?_
  refine w_reg rfl ?_
  refine v_move rfl ?_
  refine v_add lay3 rfl rfl (i64r (by omega)) ?_
  refine v_assign rfl ?_
  refine v_nil ?_
  refine q_n ?_
  refine ⟨_, _, _, ?_, ⟨i + 1, rfl, by omega, rfl, rfl⟩, by omega⟩
  exact turn [some 0] rfl rfl rfl ⟨⟨_, rfl, by rw [fill_step hi1]; exact .stay (stays_flat int_sc _)⟩, trivial⟩ ⟨tr_sl, tr_mu rfl, tr_v, trivial⟩
theorem c16 (xs : List Int) (hx : xs.length ≤ 2 ^ 40) : PureC X 16 [.c (.sl false xs.length 1 (flat int xs))] (.c (.sl true xs.length 1 (flat int xs))) := by
  refine PureC.of_body (drawD_ok X) (fun _ _ => Go.Proofs.Try.call16 _ _) Go.Proofs.Try.func16 rfl (n := 22) rfl ?_
  refine w_seq ?_
  refine w_reg rfl ?_
  refine v_assign rfl ?_
  refine v_nil ?_
  refine q_n ?_
  refine w_seq ?_
  refine w_reg rfl ?_
  refine v_move rfl ?_
  refine v_len_sl lay36 rfl ?_
  refine v_make (enc := int) (a0 := (0 : Int)) (m := 0) (H' := [_]) rfl lay36 lay2 rfl rfl rfl rfl (xs.length) (rfl) (by unfold maxLen; simp only []; omega) rfl rfl ?_
  refine v_assign rfl ?_
  refine v_nil ?_
  refine q_n ?_
  refine w_seq ?_
  refine w_seq ?_
  refine w_reg rfl ?_
  refine v_assign (c := .v (.int .i64 0)) rfl ?_
  refine v_nil ?_
  refine q_n ?_
  refine w_block ?_
  refine w_loop (fun k sl H => ∃ i : Nat, k = xs.length - i ∧ i ≤ xs.length ∧ sl = sls [(0, .c (.sl false xs.length 1 (flat int xs))), (3, .c (.mu 0 0 xs.length 1)), (4, cI i)] ∧ H = [⟨flat int (xs.take i ++ List.replicate (xs.length - i) (0 : Int)), 2, true⟩]) ?_ ?_
  · refine ⟨_, _, _, ?_, 0, rfl, Nat.zero_le _, rfl, rfl⟩
    exact turn [some 0] rfl rfl rfl ⟨⟨_, rfl, .stay (stays_flat int_sc _)⟩, trivial⟩ ⟨tr_sl, tr_mu rfl, tr_v, trivial⟩
  rintro k sl H ⟨i, rfl, hi, rfl, rfl⟩
  refine w_seq ?_
  refine w_seq ?_
  refine w_reg rfl ?_
  refine v_move rfl ?_
  refine v_move rfl ?_
  refine v_len_sl lay36 rfl ?_
  refine v_lss lay3 rfl rfl (fun h1 => ?_) (fun h1 => ?_)
  rotate_left
  · refine v_nil ?_
    refine q_n ?_
    refine w_f rfl ?_
    refine w_exit ?_
    refine q_e ?_
    refine q_e ?_
    refine q_hit ?_
    refine q_n ?_
    refine w_seq ?_
    refine w_reg rfl ?_
    refine v_move rfl ?_
    refine v_assign rfl ?_
    refine v_nil ?_
    refine q_n ?_
    refine w_ret ?_
    refine r_r rfl ?_
    obtain rfl : i = xs.length := by omega
    exact a_flat (t := 2) int_sc int_len (by simp) rfl
  have hi1 : i < xs.length := by omega
  refine v_nil ?_
  refine q_n ?_
  refine w_t rfl ?_
  refine w_skip ?_
  refine q_n ?_
  refine w_seq ?_
  refine w_block ?_
  refine w_reg rfl ?_
  refine v_move rfl ?_
  refine v_move rfl ?_
  refine v_move rfl ?_
  refine v_move rfl ?_
  refine v_idx_e (k := 1) (i) int_len lay36 lay2 rfl rfl rfl (rfl) rfl (rfl) ((by omega : i < xs.length)) ?_
  refine v_load_vw (.c (.v _)) lay2 rfl rfl rfl ?_
  refine v_idx_mu_e (k := 1) (off := 0) (i) lay36 lay2 rfl rfl rfl (rfl) ((by omega : i < xs.length)) ?_
  refine v_store_flat (H' := [_]) i 0 (xs[i]) int_len lay2 rfl rfl rfl (by omega) (by simp; omega) rfl rfl (rfl) rfl ?_
  refine v_nil ?_
  refine q_bn ?_
  refine q_n ?_
  refine w_reg rfl ?_
  refine v_move rfl ?_
  refine v_add lay3 rfl rfl (i64r (by omega)) ?_
  refine v_assign rfl ?_
  refine v_nil ?_
  refine q_n ?_
  refine ⟨_, _, _, ?_, ⟨i + 1, rfl, by omega, rfl, rfl⟩, by omega⟩
  exact turn [some 0] rfl rfl rfl ⟨⟨_, rfl, by rw [fill_step hi1]; exact .stay (stays_flat int_sc _)⟩, trivial⟩ ⟨tr_sl, tr_mu rfl, tr_v, trivial⟩
theorem c19 (xs ys : List Int) (hx : xs.length ≤ 2 ^ 40) : PureC X 19 [.c (.sl false xs.length 1 (flat int xs)), .c (.sl false ys.length 1 (flat int ys))] (cB (decide (xs = ys))) := by
  refine PureC.of_body (drawD_ok X) (fun _ _ => Go.Proofs.Try.call19 _ _) Go.Proofs.Try.func19 rfl (n := 26) rfl ?_
  refine w_seq ?_
  refine w_reg rfl ?_
  refine v_assign (c := .v (.bool false)) rfl ?_
  refine v_nil ?_
  refine q_n ?_
  refine w_seq ?_
  refine w_seq ?_
  refine w_reg rfl ?_
  refine v_move rfl ?_
  refine v_len_sl lay36 rfl ?_
  refine v_move rfl ?_
  refine v_len_sl lay36 rfl ?_
  refine v_neq lay3 rfl rfl (fun h1 => ?_) (fun h1 => ?_)
  · refine v_nil ?_
    refine q_n ?_
    refine w_t rfl ?_
    refine w_seq ?_
    refine w_reg rfl ?_
    refine v_assign (c := .v (.bool false)) rfl ?_
    refine v_nil ?_
    refine q_n ?_
    refine w_ret (q_r ?_)
    refine r_r rfl ?_
    exact a_b (by simp only [Bool.false_eq_true, false_iff]; rintro rfl; exact h1 rfl)
  refine v_nil ?_
  refine q_n ?_
  refine w_f rfl ?_
  refine w_skip ?_
  refine q_n ?_
  refine w_seq ?_
  refine w_seq ?_
  refine w_reg rfl ?_
  refine v_assign (c := .v (.int .i64 0)) rfl ?_
  refine v_nil ?_
  refine q_n ?_
  refine w_block ?_
  refine w_loop (fun k sl H => ∃ i : Nat, k = xs.length - i ∧ i ≤ xs.length ∧ xs.take i = ys.take i ∧ sl = sls [(0, .c (.sl false xs.length 1 (flat int xs))), (1, .c (.sl false ys.length 1 (flat int ys))), (5, cI i)] ∧ H = []) ?_ ?_
  · refine ⟨_, _, _, ?_, 0, rfl, Nat.zero_le _, rfl, rfl, rfl⟩
    exact turn0 ⟨tr_sl, tr_sl, tr_v, trivial⟩
  rintro k sl H ⟨i, rfl, hi, hp, rfl, rfl⟩
  refine w_seq ?_
  refine w_seq ?_
  refine w_reg rfl ?_
  refine v_move rfl ?_
  refine v_move rfl ?_
  refine v_len_sl lay36 rfl ?_
  refine v_lss lay3 rfl rfl (fun h2 => ?_) (fun h2 => ?_)
  rotate_left
  · refine v_nil ?_
    refine q_n ?_
    refine w_f rfl ?_
    refine w_exit ?_
    refine q_e ?_
    refine q_e ?_
    refine q_hit ?_
    refine q_n ?_
    refine w_seq ?_
    refine w_reg rfl ?_
    refine v_assign (c := .v (.bool true)) rfl ?_
    refine v_nil ?_
    refine q_n ?_
    refine w_ret ?_
    refine r_r rfl ?_
    exact a_b (by simp only [true_iff]; exact take_all_eq hp (by omega) (by omega))
  have i1 : i < xs.length := by omega
  have i2 : i < ys.length := by omega
  refine v_nil ?_
  refine q_n ?_
  refine w_t rfl ?_
  refine w_skip ?_
  refine q_n ?_
  refine w_seq ?_
  refine w_block ?_
  refine w_seq ?_
  refine w_draw [0, 0, 3, 7, 0, 0, 48, 112, 255] [⟨0, 0, []⟩, ⟨1, 0, []⟩, ⟨2, 0, []⟩, ⟨3, 0, []⟩, ⟨4, 0, []⟩, ⟨5, 0, []⟩, ⟨6, 0, []⟩, ⟨7, 0, []⟩, ⟨8, 0, []⟩] rfl rfl ?_
  refine d_q rfl rfl rfl rfl rfl ?_
  refine v_move rfl ?_
  refine v_nil ?_
  refine d_q rfl rfl rfl rfl rfl ?_
  refine v_move rfl ?_
  refine v_nil ?_
  refine d_q rfl rfl rfl rfl rfl ?_
  refine v_idx_e (k := 1) (i) int_len lay36 lay2 rfl rfl rfl (rfl) rfl (rfl) ((by omega : i < xs.length)) ?_
  refine v_nil ?_
  refine d_q rfl rfl rfl rfl rfl ?_
  refine v_load_vw (.c (.v _)) lay2 rfl rfl rfl ?_
  refine v_nil ?_
  refine d_q rfl rfl rfl rfl rfl ?_
  refine v_move rfl ?_
  refine v_nil ?_
  refine d_q rfl rfl rfl rfl rfl ?_
  refine v_move rfl ?_
  refine v_nil ?_
  refine d_q rfl rfl rfl rfl rfl ?_
  refine v_idx_e (k := 1) (i) int_len lay36 lay2 rfl rfl rfl (rfl) rfl (rfl) ((by omega : i < ys.length)) ?_
  refine v_nil ?_
  refine d_q rfl rfl rfl rfl rfl ?_
  refine v_load_vw (.c (.v _)) lay2 rfl rfl rfl ?_
  refine v_nil ?_
  refine d_q rfl rfl rfl rfl rfl ?_
  refine v_neq lay2 rfl rfl (fun h5 => ?_) (fun h5 => ?_)
  · refine v_nil ?_
    refine d_nil ?_
    refine q_n ?_
    refine w_t rfl ?_
    refine w_seq ?_
    refine w_reg rfl ?_
    refine v_assign (c := .v (.bool false)) rfl ?_
    refine v_nil ?_
    refine q_n ?_
    refine w_ret (q_br (q_r (q_r (q_br (q_r ?_)))))
    refine r_r rfl ?_
    exact a_b (by simp only [Bool.false_eq_true, false_iff]; exact ne_at i1 i2 h5)
  refine v_nil ?_
  refine d_nil ?_
  refine q_n ?_
  refine w_f rfl ?_
  refine w_skip ?_
  refine q_bn ?_
  refine q_n ?_
  refine w_reg rfl ?_
  refine v_move rfl ?_
  refine v_add lay3 rfl rfl (i64r (by omega)) ?_
  refine v_assign rfl ?_
  refine v_nil ?_
  refine q_n ?_
  refine ⟨_, _, _, ?_, ⟨i + 1, rfl, by omega, take_step_eq hp i1 i2 h5, rfl, rfl⟩, by omega⟩
  exact turn0 ⟨tr_sl, tr_sl, tr_v, trivial⟩
theorem c18 (xs ys : List Pln) (hP : ∀ p ∈ xs, p.1.length ≤ 2 ^ 40) (hx : xs.length ≤ 2 ^ 40) : PureC X 18 [.c (pls false xs), .c (pls false ys)] (cB (decide (xs = ys))) := by
  refine PureC.of_body (drawD_ok X) (fun _ _ => Go.Proofs.Try.call18 _ _) Go.Proofs.Try.func18 rfl (n := 27) rfl ?_
  refine w_seq ?_
  refine w_reg rfl ?_
  refine v_assign (c := .v (.bool false)) rfl ?_
  refine v_nil ?_
  refine q_n ?_
  refine w_seq ?_
  refine w_seq ?_
  refine w_reg rfl ?_
  refine v_move rfl ?_
  refine v_len_sl lay38 rfl ?_
  refine v_move rfl ?_
  refine v_len_sl lay38 rfl ?_
  refine v_neq lay3 rfl rfl (fun h1 => ?_) (fun h1 => ?_)
  · refine v_nil ?_
    refine q_n ?_
    refine w_t rfl ?_
    refine w_seq ?_
    refine w_reg rfl ?_
    refine v_assign (c := .v (.bool false)) rfl ?_
    refine v_nil ?_
    refine q_n ?_
    refine w_ret (q_r ?_)
    refine r_r rfl ?_
    exact a_b (by simp only [Bool.false_eq_true, false_iff]; rintro rfl; exact h1 rfl)
  refine v_nil ?_
  refine q_n ?_
  refine w_f rfl ?_
  refine w_skip ?_
  refine q_n ?_
  refine w_seq ?_
  refine w_seq ?_
  refine w_reg rfl ?_
  refine v_assign (c := .v (.int .i64 0)) rfl ?_
  refine v_nil ?_
  refine q_n ?_
  refine w_block ?_
  refine w_loop (fun k sl H => ∃ i : Nat, k = xs.length - i ∧ i ≤ xs.length ∧ xs.take i = ys.take i ∧ sl = sls [(0, .c (pls false xs)), (1, .c (pls false ys)), (5, cI i)] ∧ H = []) ?_ ?_
  · refine ⟨_, _, _, ?_, 0, rfl, Nat.zero_le _, rfl, rfl, rfl⟩
    exact turn0 ⟨tr_sl, tr_sl, tr_v, trivial⟩
  rintro k sl H ⟨i, rfl, hi, hp, rfl, rfl⟩
  refine w_seq ?_
  refine w_seq ?_
  refine w_reg rfl ?_
  refine v_move rfl ?_
  refine v_move rfl ?_
  refine v_len_sl lay38 rfl ?_
  refine v_lss lay3 rfl rfl (fun h2 => ?_) (fun h2 => ?_)
  rotate_left
  · refine v_nil ?_
    refine q_n ?_
    refine w_f rfl ?_
    refine w_exit ?_
    refine q_e ?_
    refine q_e ?_
    refine q_hit ?_
    refine q_n ?_
    refine w_seq ?_
    refine w_reg rfl ?_
    refine v_assign (c := .v (.bool true)) rfl ?_
    refine v_nil ?_
    refine q_n ?_
    refine w_ret ?_
    refine r_r rfl ?_
    exact a_b (by simp only [true_iff]; exact take_all_eq hp (by omega) (by omega))
  have i1 : i < xs.length := by omega
  have i2 : i < ys.length := by omega
  refine v_nil ?_
  refine q_n ?_
  refine w_t rfl ?_
  refine w_skip ?_
  refine q_n ?_
  refine w_seq ?_
  refine w_block ?_
  refine w_seq ?_
  refine w_draw [0, 0, 3, 7, 0, 0, 48, 112, 255, 511] [⟨0, 0, []⟩, ⟨1, 0, []⟩, ⟨2, 0, []⟩, ⟨3, 0, []⟩, ⟨4, 0, []⟩, ⟨5, 0, []⟩, ⟨6, 0, []⟩, ⟨7, 0, []⟩, ⟨8, 0, []⟩, ⟨9, 0, []⟩] rfl rfl ?_
  refine d_q rfl rfl rfl rfl rfl ?_
  refine v_move rfl ?_
  refine v_nil ?_
  refine d_q rfl rfl rfl rfl rfl ?_
  refine v_move rfl ?_
  refine v_nil ?_
  refine d_q rfl rfl rfl rfl rfl ?_
  refine v_idx_e (k := 3) (i) plc_len lay38 lay28 rfl rfl rfl (rfl) rfl (rfl) ((by omega : i < xs.length)) ?_
  refine v_nil ?_
  refine d_q rfl rfl rfl rfl rfl ?_
  refine v_load_vw (.agg [_, .v _, .v _]) lay28 rfl rfl rfl ?_
  refine v_nil ?_
  refine d_q rfl rfl rfl rfl rfl ?_
  refine v_move rfl ?_
  refine v_nil ?_
  refine d_q rfl rfl rfl rfl rfl ?_
  refine v_move rfl ?_
  refine v_nil ?_
  refine d_q rfl rfl rfl rfl rfl ?_
  refine v_idx_e (k := 3) (i) plc_len lay38 lay28 rfl rfl rfl (rfl) rfl (rfl) ((by omega : i < ys.length)) ?_
  refine v_nil ?_
  refine d_q rfl rfl rfl rfl rfl ?_
  refine v_load_vw (.agg [_, .v _, .v _]) lay28 rfl rfl rfl ?_
  refine v_nil ?_
  refine d_callb (c10p xs[i] ys[i] (hP _ (List.getElem_mem i1))) rfl rfl rfl rfl (.cons (vw_agg (.cons vw_sl (.cons vw_v (.cons vw_v .nil)))) (.cons (vw_agg (.cons vw_sl (.cons vw_v (.cons vw_v .nil)))) .nil)) (fun h5 => ?_) (fun h5 => ?_)
  rotate_left
  · refine d_q rfl rfl rfl rfl rfl ?_
    refine v_not true rfl rfl ?_
    refine v_nil ?_
    refine d_nil ?_
    refine q_n ?_
    refine w_t rfl ?_
    refine w_seq ?_
    refine w_reg rfl ?_
    refine v_assign (c := .v (.bool false)) rfl ?_
    refine v_nil ?_
    refine q_n ?_
    refine w_ret (q_br (q_r (q_r (q_br (q_r ?_)))))
    refine r_r rfl ?_
    exact a_b (by simp only [Bool.false_eq_true, false_iff]; exact ne_at i1 i2 h5)
  refine d_q rfl rfl rfl rfl rfl ?_
  refine v_not false rfl rfl ?_
  refine v_nil ?_
  refine d_nil ?_
  refine q_n ?_
  refine w_f rfl ?_
  refine w_skip ?_
  refine q_bn ?_
  refine q_n ?_
  refine w_reg rfl ?_
  refine v_move rfl ?_
  refine v_add lay3 rfl rfl (i64r (by omega)) ?_
  refine v_assign rfl ?_
  refine v_nil ?_
  refine q_n ?_
  refine ⟨_, _, _, ?_, ⟨i + 1, rfl, by omega, take_step_eq hp i1 i2 h5, rfl, rfl⟩, by omega⟩
  exact turn0 ⟨tr_sl, tr_sl, tr_v, trivial⟩
theorem c13 (ps : List Pln) (l : Int) (hl : 0 ≤ l ∧ l ≤ 2 ^ 20) (hx : ps.length ≤ maxLen) (hM : ∀ p ∈ ps, p.1.length ≤ maxLen) : PureC X 13 [.c (pls false ps), cI l] (cI (szPS ps l)) := by
  refine PureC.of_body (drawD_ok X) (fun _ _ => Go.Proofs.Try.call13 _ _) Go.Proofs.Try.func13 rfl (n := 27) rfl ?_
  refine w_seq ?_
  refine w_reg rfl ?_
  refine v_assign (c := .v (.int .i64 0)) rfl ?_
  refine v_nil ?_
  refine q_n ?_
  refine w_seq ?_
  refine w_reg rfl ?_
  refine v_move rfl ?_
  refine v_move rfl ?_
  refine v_len_sl lay35 rfl ?_
  refine v_sub lay3 rfl rfl (i64r (by unfold maxLen at hx; omega)) ?_
  refine v_assign rfl ?_
  refine v_nil ?_
  refine q_n ?_
  refine w_seq ?_
  refine w_seq ?_
  refine w_reg rfl ?_
  refine v_move rfl ?_
  refine v_lss lay3 rfl rfl (fun h1 => ?_) (fun h1 => ?_)
  · refine v_nil ?_
    refine q_n ?_
    refine w_t rfl ?_
    refine w_seq ?_
    refine w_reg rfl ?_
    refine v_assign (c := .v (.int .i64 (-1))) rfl ?_
    refine v_nil ?_
    refine q_n ?_
    refine w_ret (q_r ?_)
    refine r_r rfl ?_
    exact a_i (by unfold szPS; rw [if_pos h1])
  refine v_nil ?_
  refine q_n ?_
  refine w_f rfl ?_
  refine w_skip ?_
  refine q_n ?_
  refine w_seq ?_
  refine w_seq ?_
  refine w_reg rfl ?_
  refine v_assign (c := .v (.int .i64 0)) rfl ?_
  refine v_nil ?_
  refine q_n ?_
  refine w_block ?_
  refine w_loop (fun k sl H => ∃ (i : Nat) (l1 : Int), k = ps.length - i ∧ i ≤ ps.length ∧ szF (ps.drop i) l1 = szF ps (l - ps.length) ∧ (0 ≤ l1 ∧ l1 ≤ 2 ^ 20) ∧ sl = sls [(0, .c (pls false ps)), (1, cI l1), (5, cI i)] ∧ H = []) ?_ ?_
  · refine ⟨_, _, _, ?_, 0, l - ps.length, rfl, Nat.zero_le _, rfl, ⟨by omega, by omega⟩, rfl, rfl⟩
    exact turn0 ⟨tr_sl, tr_v, tr_v, trivial⟩
  rintro k sl H ⟨i, l1, rfl, hi, hp, hl1, rfl, rfl⟩
  refine w_seq ?_
  refine w_seq ?_
  refine w_reg rfl ?_
  refine v_move rfl ?_
  refine v_move rfl ?_
  refine v_len_sl lay35 rfl ?_
  refine v_lss lay3 rfl rfl (fun h2 => ?_) (fun h2 => ?_)
  rotate_left
  · refine v_nil ?_
    refine q_n ?_
    refine w_f rfl ?_
    refine w_exit ?_
    refine q_e ?_
    refine q_e ?_
    refine q_hit ?_
    refine q_n ?_
    refine w_seq ?_
    refine w_reg rfl ?_
    refine v_move rfl ?_
    refine v_assign rfl ?_
    refine v_nil ?_
    refine q_n ?_
    refine w_ret ?_
    refine r_r rfl ?_
    obtain rfl : i = ps.length := by omega
    exact a_i (by unfold szPS; rw [if_neg h1, ← hp, List.drop_length]; rfl)
  have hi1 : i < ps.length := by omega
  refine v_nil ?_
  refine q_n ?_
  refine w_t rfl ?_
  refine w_skip ?_
  refine q_n ?_
  refine w_seq ?_
  refine w_block ?_
  refine w_seq ?_
  refine w_reg rfl ?_
  refine v_move rfl ?_
  refine v_move rfl ?_
  refine v_idx_e (k := 3) (i) plc_len lay35 lay24 rfl rfl rfl (rfl) rfl (rfl) (hi1) ?_
  refine v_load_vw (.agg [_, .v _, .v _]) lay24 rfl rfl rfl ?_
  refine v_move rfl ?_
  refine v_call (c6 _ _ _ _ hl1 (hM _ (List.getElem_mem hi1))) rfl rfl rfl (.cons (vw_agg (.cons vw_sl (.cons vw_v (.cons vw_v .nil)))) (.cons vw_v .nil)) ?_
  refine v_assign rfl ?_
  refine v_nil ?_
  refine q_n ?_
  refine w_seq ?_
  refine w_reg rfl ?_
  refine v_move rfl ?_
  refine v_lss lay3 rfl rfl (fun h4 => ?_) (fun h4 => ?_)
  · have hneg := h4
    refine v_nil ?_
    refine q_n ?_
    refine w_t rfl ?_
    refine w_seq ?_
    refine w_reg rfl ?_
    refine v_assign (c := .v (.int .i64 (-1))) rfl ?_
    refine v_nil ?_
    refine q_n ?_
    refine w_ret (q_br (q_r (q_r (q_br (q_r ?_)))))
    refine r_r rfl ?_
    exact a_i (by unfold szPS; rw [if_neg h1, ← hp, szF_at hi1, if_pos hneg])
  have hneg := h4
  refine v_nil ?_
  refine q_n ?_
  refine w_f rfl ?_
  refine w_skip ?_
  refine q_bn ?_
  refine q_n ?_
  refine w_reg rfl ?_
  refine v_move rfl ?_
  refine v_add lay3 rfl rfl (i64r (by unfold maxLen at hx; omega)) ?_
  refine v_assign rfl ?_
  refine v_nil ?_
  refine q_n ?_
  rw [szF_at hi1, if_neg hneg] at hp
  have hr := szr_rng hl1 hneg
  refine ⟨_, _, _, ?_, ⟨i + 1, _, rfl, by omega, hp, ⟨hr.1, hr.2.1⟩, rfl, rfl⟩, by omega⟩
  exact turn0 ⟨tr_sl, tr_v, tr_v, trivial⟩
theorem c43q {p q : Pln} {a : Int} (e : p = pmE a q) (hx : q.1.length ≤ 2 ^ 20) (ha : 0 ≤ a ∧ a ≤ 2 ^ 50) : PureC X 43 [.c (.sl false p.1.length 9 (flat stc p.1)), cI a] (cI (a + 9 * q.1.length)) := by
  subst e
  have h := c43 q.1.length a (by omega) ha
  have e : (pmE a q).1.length = q.1.length := by simp [pmE]
  rw [e]
  exact h
theorem c22 (ps : List Pln) (a : Int) (hx : ps.length ≤ 2 ^ 20) (hP : ∀ p ∈ ps, p.1.length ≤ 2 ^ 20) (ha : 0 ≤ a ∧ a ≤ 2 ^ 40) : PureC X 22 [.c (.sl false ps.length 3 (flat plc (pmk a ps))), cI a] (cI (pmA a ps ps.length)) := by
  refine PureC.of_body (drawD_ok X) (fun _ _ => Go.Proofs.Try.call22 _ _) Go.Proofs.Try.func22 rfl (n := 40) rfl ?_
  refine w_seq ?_
  refine w_reg rfl ?_
  refine v_assign (c := .v (.int .i64 0)) rfl ?_
  refine v_nil ?_
  refine q_n ?_
  refine w_seq ?_
  refine w_seq ?_
  refine w_reg rfl ?_
  refine v_assign (c := .v (.int .i64 0)) rfl ?_
  refine v_nil ?_
  refine q_n ?_
  refine w_block ?_
  refine w_loop (fun k sl H => ∃ i : Nat, k = ps.length - i ∧ i ≤ ps.length ∧ sl = sls [(0, .c (.sl false ps.length 3 (flat plc (pmk a ps)))), (1, cI (pmA a ps i)), (5, cI i)] ∧ H = []) ?_ ?_
  · refine ⟨_, _, _, ?_, 0, rfl, Nat.zero_le _, rfl, rfl⟩
    exact turn0 ⟨tr_sl, tr_i (by cases ps <;> rfl), tr_v, trivial⟩
  rintro k sl H ⟨i, rfl, hi, rfl, rfl⟩
  refine w_seq ?_
  refine w_seq ?_
  refine w_reg rfl ?_
  refine v_move rfl ?_
  refine v_move rfl ?_
  refine v_len_sl lay38 rfl ?_
  refine v_lss lay3 rfl rfl (fun h1 => ?_) (fun h1 => ?_)
  rotate_left
  · refine v_nil ?_
    refine q_n ?_
    refine w_f rfl ?_
    refine w_exit ?_
    refine q_e ?_
    refine q_e ?_
    refine q_hit ?_
    refine q_n ?_
    refine w_seq ?_
    refine w_reg rfl ?_
    refine v_move rfl ?_
    refine v_assign rfl ?_
    refine v_nil ?_
    refine q_n ?_
    refine w_ret ?_
    refine r_r rfl ?_
    obtain rfl : i = ps.length := by omega
    exact tr_v
  have hi1 : i < ps.length := by omega
  have hi2 : i < (pmk a ps).length := by rw [pmk_len]; exact hi1
  have hA := pmA_rng (a := a) hP (i := i) (by omega)
  have hA1 : 0 ≤ pmA a ps i ∧ pmA a ps i ≤ 2 ^ 50 := ⟨by omega, by omega⟩
  have hl := hP _ (List.getElem_mem hi1)
  have he := pmk_at hi2 hi1
  have he1 : (pmk a ps)[i].2.1 = pmA a ps i + 9 * ps[i].1.length := by rw [he]; rfl
  have he2 : (pmk a ps)[i].2.2 = pmA a ps i + 9 * ps[i].1.length + 1 := by rw [he]; rfl
  have hst := pmA_step (a := a) hi1
  refine v_nil ?_
  refine q_n ?_
  refine w_t rfl ?_
  refine w_skip ?_
  refine q_n ?_
  refine w_seq ?_
  refine w_block ?_
  refine w_seq ?_
  refine w_reg rfl ?_
  refine v_move rfl ?_
  refine v_move rfl ?_
  refine v_idx_e (k := 3) (i) plc_len lay38 lay28 rfl rfl rfl (by rw [pmk_len]) rfl (rfl) (hi2) ?_
  refine v_fa_vw (off' := 0) lay28 rfl rfl rfl ?_
  refine v_load_vw (.c (_)) lay26 rfl rfl rfl ?_
  refine v_move rfl ?_
  refine v_call (c43q he hl hA1) rfl rfl rfl (.cons vw_sl (.cons vw_v .nil)) ?_
  refine v_assign rfl ?_
  refine v_nil ?_
  refine q_n ?_
  refine w_seq ?_
  refine w_seq ?_
  refine w_reg rfl ?_
  refine v_move rfl ?_
  refine v_lss lay3 rfl rfl (fun h3 => ?_) (fun h3 => ?_)
  · exfalso; omega
  refine v_nil ?_
  refine q_n ?_
  refine w_f rfl ?_
  refine w_skip ?_
  refine q_n ?_
  refine w_seq ?_
  refine w_seq ?_
  refine w_reg rfl ?_
  refine v_move rfl ?_
  refine v_move rfl ?_
  refine v_idx_e (k := 3) (i) plc_len lay38 lay28 rfl rfl rfl (by rw [pmk_len]) rfl (rfl) (hi2) ?_
  refine v_fa_vw (off' := 1) lay28 rfl rfl rfl ?_
  refine v_load_vw (.c (.v _)) lay2 rfl rfl rfl ?_
  refine v_move rfl ?_
  refine v_neq lay2 rfl rfl (fun h5 => ?_) (fun h5 => ?_)
  · exact absurd he1 h5
  refine v_nil ?_
  refine q_n ?_
  refine w_f rfl ?_
  refine w_skip ?_
  refine q_n ?_
  refine w_seq ?_
  refine w_reg rfl ?_
  refine v_move rfl ?_
  refine v_add lay3 rfl rfl (i64r (by omega)) ?_
  refine v_assign rfl ?_
  refine v_nil ?_
  refine q_n ?_
  refine w_seq ?_
  refine w_seq ?_
  refine w_reg rfl ?_
  refine v_move rfl ?_
  refine v_move rfl ?_
  refine v_idx_e (k := 3) (i) plc_len lay38 lay28 rfl rfl rfl (by rw [pmk_len]) rfl (rfl) (hi2) ?_
  refine v_fa_vw (off' := 2) lay28 rfl rfl rfl ?_
  refine v_load_vw (.c (.v _)) lay2 rfl rfl rfl ?_
  refine v_move rfl ?_
  refine v_neq lay2 rfl rfl (fun h7 => ?_) (fun h7 => ?_)
  · exact absurd he2 h7
  refine v_nil ?_
  refine q_n ?_
  refine w_f rfl ?_
  refine w_skip ?_
  refine q_n ?_
  refine w_reg rfl ?_
  refine v_move rfl ?_
  refine v_add lay3 rfl rfl (i64r (by omega)) ?_
  refine v_assign rfl ?_
  refine v_nil ?_
  refine q_bn ?_
  refine q_n ?_
  refine w_reg rfl ?_
  refine v_move rfl ?_
  refine v_add lay3 rfl rfl (i64r (by omega)) ?_
  refine v_assign rfl ?_
  refine v_nil ?_
  refine q_n ?_
  refine ⟨_, _, _, ?_, ⟨i + 1, rfl, by omega, rfl, rfl⟩, by omega⟩
  exact turn0 ⟨tr_sl, tr_i (by rw [hst]; omega), tr_i (by push_cast; omega), trivial⟩
end Go.VL
namespace Go.VL
open Go.RowKit
set_option maxRecDepth 20000
set_option maxHeartbeats 8000000
/-- A plan, or the room for one. -/
def ozc : Option Pln → List C
  | none => [.v (.slice none 0 0), .v (.int .i64 0), .v (.int .i64 0)]
  | some p => plc p
theorem ozc_len (o : Option Pln) : (ozc o).length = 3 := by cases o <;> rfl
theorem ozc_sc (o : Option Pln) : (ozc o).all fz = true := by cases o <;> rfl
theorem oz_set (o : Option Pln) {c0 c1 c2 : C} : setCells (ozc o) 0 [c0, c1, c2] = [c0, c1, c2] := by cases o <;> rfl
theorem oz_flat (ps : List Pln) : flat ozc (ps.map some) = flat plc ps := by simp [flat, List.flatMap_map, ozc]
theorem c15 (ps : List Pln) (hx : ps.length ≤ 2 ^ 40) (hP : ∀ p ∈ ps, p.1.length ≤ 2 ^ 40) : PureC X 15 [.c (pls false ps)] (.c (pls true ps)) := by
  refine PureC.of_body (drawD_ok X) (fun _ _ => Go.Proofs.Try.call15 _ _) Go.Proofs.Try.func15 rfl (n := 23) rfl ?_
  refine w_seq ?_
  refine w_reg rfl ?_
  refine v_assign rfl ?_
  refine v_nil ?_
  refine q_n ?_
  refine w_seq ?_
  refine w_reg rfl ?_
  refine v_move rfl ?_
  refine v_len_sl lay35 rfl ?_
  refine v_make (enc := ozc) (a0 := none) (m := 0) (H' := [_]) rfl lay38 lay28 rfl rfl rfl rfl (ps.length) (rfl) (by unfold maxLen; simp only []; omega) rfl rfl ?_
  refine v_assign rfl ?_
  refine v_nil ?_
  refine q_n ?_
  refine w_seq ?_
  refine w_seq ?_
  refine w_reg rfl ?_
  refine v_assign (c := .v (.int .i64 0)) rfl ?_
  refine v_nil ?_
  refine q_n ?_
  refine w_block ?_
  refine w_loop (fun k sl H => ∃ i : Nat, k = ps.length - i ∧ i ≤ ps.length ∧ sl = sls [(0, .c (pls false ps)), (3, .c (.mu 0 0 ps.length 3)), (4, cI i)] ∧ H = [⟨flat ozc ((ps.map some).take i ++ List.replicate ((ps.map some).length - i) none), 28, true⟩]) ?_ ?_
  · refine ⟨_, _, _, ?_, 0, rfl, Nat.zero_le _, rfl, rfl⟩
    exact turn [some 0] rfl rfl rfl ⟨⟨_, rfl, trc_flatz ozc_sc (by simp)⟩, trivial⟩ ⟨tr_sl, tr_mu rfl, tr_v, trivial⟩
  rintro k sl H ⟨i, rfl, hi, rfl, rfl⟩
  refine w_seq ?_
  refine w_seq ?_
  refine w_reg rfl ?_
  refine v_move rfl ?_
  refine v_move rfl ?_
  refine v_len_sl lay35 rfl ?_
  refine v_lss lay3 rfl rfl (fun h1 => ?_) (fun h1 => ?_)
  rotate_left
  · refine v_nil ?_
    refine q_n ?_
    refine w_f rfl ?_
    refine w_exit ?_
    refine q_e ?_
    refine q_e ?_
    refine q_hit ?_
    refine q_n ?_
    refine w_seq ?_
    refine w_reg rfl ?_
    refine v_move rfl ?_
    refine v_assign rfl ?_
    refine v_nil ?_
    refine q_n ?_
    refine w_ret ?_
    refine r_r rfl ?_
    obtain rfl : i = ps.length := by omega
    exact a_flatz plc_sc plc_len rfl (by rw [← oz_flat, List.take_of_length_le (by simp)]; simp) rfl rfl
  have hi1 : i < ps.length := by omega
  refine v_nil ?_
  refine q_n ?_
  refine w_t rfl ?_
  refine w_skip ?_
  refine q_n ?_
  refine w_seq ?_
  refine w_block ?_
  refine w_reg rfl ?_
  refine v_move rfl ?_
  refine v_move rfl ?_
  refine v_move rfl ?_
  refine v_move rfl ?_
  refine v_idx_e (k := 3) (i) plc_len lay35 lay24 rfl rfl rfl (rfl) rfl (rfl) (hi1) ?_
  refine v_load_vw (.agg [_, .v _, .v _]) lay24 rfl rfl rfl ?_
  refine v_call (c8 _ _ _ (hP _ (List.getElem_mem hi1))) rfl rfl rfl (.cons (vw_agg (.cons vw_sl (.cons vw_v (.cons vw_v .nil)))) .nil) ?_
  refine v_idx_mu_e (k := 3) (off := 0) (i) lay38 lay28 rfl rfl rfl (rfl) (hi1) ?_
  refine v_store_flat (H' := [_]) i 0 ((ps.map some)[i]'(by simpa using hi1)) ozc_len lay28 rfl rfl rfl (by omega) (by simp; omega) rfl rfl (by rw [List.getElem_map]; exact (oz_set _).symm) rfl ?_
  refine v_nil ?_
  refine q_bn ?_
  refine q_n ?_
  refine w_reg rfl ?_
  refine v_move rfl ?_
  refine v_add lay3 rfl rfl (i64r (by omega)) ?_
  refine v_assign rfl ?_
  refine v_nil ?_
  refine q_n ?_
  refine ⟨_, _, _, ?_, ⟨i + 1, rfl, by omega, rfl, rfl⟩, by omega⟩
  exact turn [some 0] rfl rfl rfl ⟨⟨_, rfl, by rw [fill_step (xs := ps.map some) (by simpa using hi1)]; exact .stay (fun c hc => stays_fz (fz_flat ozc_sc _ c hc))⟩, trivial⟩ ⟨tr_sl, tr_mu rfl, tr_v, trivial⟩
end Go.VL
namespace Go.VL
open Go.RowKit
set_option maxRecDepth 20000
set_option maxHeartbeats 8000000
abbrev prf (N : Nat) (ps : List Pln) : List C := refs (fun p : Pln => p.1) 9 (fun p => [.v (.int .i64 p.2.1), .v (.int .i64 p.2.2)]) N ps
abbrev pkd (ps : List Pln) : List Ob := kids (fun p : Pln => p.1) stc 82 ps
abbrev room (n : Nat) : List C := flat ozc (List.replicate n none)
theorem prf_len {N : Nat} {ps : List Pln} : (prf N ps).length = ps.length * 3 := refs_len (K := 3) (fun _ => rfl)
theorem room_step {n i : Nat} (h : i < n) : room (n - i) = [.v (.slice none 0 0), .v (.int .i64 0), .v (.int .i64 0)] ++ room (n - (i + 1)) := by
  unfold room
  rw [show n - i = (n - (i + 1)) + 1 by omega, List.replicate_succ, flat_cons]
  rfl
theorem set_mid {A z B cs : List C} {off : Nat} (h : off = A.length) (hz : z.length = cs.length) : setCells (A ++ (z ++ B)) off cs = A ++ (cs ++ B) := by
  subst h
  unfold setCells
  rw [List.take_left, ← hz, ← List.drop_drop, List.drop_left, List.drop_left]
  simp only [List.append_assoc]
theorem prf_step {ps : List Pln} {i : Nat} (h : i < ps.length) : prf 1 (ps.take (i + 1)) = prf 1 (ps.take i) ++ [.mu (i + 1) 0 ps[i].1.length 9, .v (.int .i64 ps[i].2.1), .v (.int .i64 ps[i].2.2)] := by
  rw [List.take_succ_eq_append_getElem h, prf, refs_app, List.length_take, Nat.min_eq_left (by omega)]
  rw [Nat.add_comm 1 i]
  rfl
theorem pkd_step {ps : List Pln} {i : Nat} (h : i < ps.length) : pkd (ps.take (i + 1)) = pkd (ps.take i) ++ [⟨flat stc ps[i].1, 82, true⟩] := by
  rw [List.take_succ_eq_append_getElem h, pkd, kids_app]
  rfl
section
variable {X : Cx} {all r : List Oper} {K : Sl → List Ob → Prop} {sl : Sl} {H : List Ob} {ty : TypeId} {ps : String} {af : Array Edge}
theorem v_store_at {t : TypeId} {a x : Operand} {L : Lay} {id off : Nat} {cs ocs : List C} {tt : TypeId} {H' : List Ob} (hL : X.lay t = some L) (ha : rho X.G sl a = .c (.pt id off)) (hx : (rho X.G sl x).cells = some cs) (ho : H[id]? = some ⟨ocs, tt, true⟩)
    (hl : cs.length = L.size) (hb : off + L.size ≤ ocs.length) (hH : H.set id ⟨setCells ocs off cs, tt, true⟩ = H') (h : vops X all r K sl H') : vops X all (⟨none, .store t a x, ty, ps, af, none⟩ :: r) K sl H := by
  refine v_e (f := ⟨.any, H', True⟩) rfl rfl ?_ trivial rfl rfl h
  simp only [eve, hL, ha, hx, ho]
  rw [if_pos ⟨trivial, hl, hb⟩, hH]
end
theorem nodup_ids {M : Nat} : ∀ {n : Nat}, nodupO (ids M n) = true := by
  intro n
  induction n generalizing M with
  | zero => rfl
  | succ n ih =>
    have e : ids M (n + 1) = some M :: ids (M + 1) n := by
      unfold ids
      rw [List.range_succ_eq_map, List.map_cons, List.map_map]
      congr 1
      refine List.map_congr_left fun i _ => ?_
      simp only [Function.comp, Nat.succ_eq_add_one]
      congr 1
      omega
    rw [e]
    simp only [nodupO, Bool.and_eq_true, Bool.not_eq_true', List.contains_eq_mem, decide_eq_false_iff_not]
    refine ⟨fun h => ?_, ih⟩
    obtain ⟨i, -, hi⟩ := List.mem_map.1 h
    simp only [Option.some.injEq] at hi
    omega
theorem nodup_ids0 {n : Nat} : nodupO (some 0 :: ids 1 n) = true := by
  simp only [nodupO, Bool.and_eq_true, Bool.not_eq_true', List.contains_eq_mem, decide_eq_false_iff_not]
  refine ⟨fun h => ?_, nodup_ids⟩
  obtain ⟨i, -, hi⟩ := List.mem_map.1 h
  simp only [Option.some.injEq] at hi
  omega
theorem lt_ids0 {n m : Nat} (h : n + 1 ≤ m) : ((some 0 :: ids 1 n).all fun x => match x with | some i => Nat.blt i m | none => true) = true := by
  refine List.all_eq_true.2 fun x hx => ?_
  rcases List.mem_cons.1 hx with rfl | hx
  · exact Nat.ble_eq_true_of_le (by omega)
  · obtain ⟨i, hi, rfl⟩ := List.mem_map.1 hx
    have := List.mem_range.1 hi
    exact Nat.ble_eq_true_of_le (by omega)
theorem trc_app {H : List Ob} {g : List (Option Nat)} {cs cs' ds ds' : List C} (h : TrC H g cs cs') (h2 : TrC H g ds ds') : TrC H g (cs ++ ds) (cs' ++ ds') := by
  induction h with
  | nil => exact h2
  | cons h hs ih => exact .cons h ih
  | stay hst =>
    rename_i es
    induction es with
    | nil => exact h2
    | cons e es ih => exact .cons (.c (.stay (hst e (by simp)))) (ih fun c hc => hst c (by simp [hc]))
theorem trc_refs {α β : Type} {kid : α → List β} {k : Nat} {rest : α → List C} {H : List Ob} {g : List (Option Nat)} (hr : ∀ x, (rest x).all fz = true) : ∀ {xs : List α} {N M : Nat}, (∀ i, i < xs.length → g[N + i]? = some (some (M + i))) → TrC H g (refs kid k rest M xs) (refs kid k rest N xs)
  | [], _, _, _ => .nil
  | x :: r, N, M, h => by
    refine trc_app (.cons (tr_mu (by simpa using h 0 (by simp))) (.stay fun c hc => stays_fz (List.all_eq_true.1 (hr x) c hc))) (trc_refs hr fun i hi => ?_)
    have h1 := h (i + 1) (by simpa using hi)
    rwa [show N + (i + 1) = N + 1 + i by omega, show M + (i + 1) = M + 1 + i by omega] at h1
theorem ids0_at {n i : Nat} (h : i < n) : (some 0 :: ids 1 n)[1 + i]? = some (some (1 + i)) := by
  rw [Nat.add_comm 1 i, List.getElem?_cons_succ, ids_at h, Nat.add_comm 1 i]
theorem turn_row {ps : List Pln} {o : List C} {q : Nat} (h : ps.length = q) : TurnO (⟨prf 1 ps ++ o, 28, true⟩ :: pkd ps) (some 0 :: ids 1 q) (some 0 :: ids 1 q) (⟨prf 1 ps ++ o, 28, true⟩ :: pkd ps) ∨ ¬ (∀ c ∈ o, fz c = true) := by
  subst h
  by_cases ho : ∀ c ∈ o, fz c = true
  · refine .inl ⟨⟨_, rfl, trc_app (trc_refs (fun _ => rfl) fun i hi => ids0_at hi) (.stay fun c hc => stays_fz (ho c hc))⟩, ?_⟩
    exact turno_kids stc_sc fun i hi => by rw [Nat.add_comm 1 i, List.getElem?_cons_succ]; exact kids_at hi
  · exact .inr ho
theorem turn_row2 {ps : List Pln} {o : List C} {q : Nat} (h : ps.length = q) (ho : ∀ c ∈ o, fz c = true) : TurnO (⟨prf 1 ps ++ o, 28, true⟩ :: pkd ps) (some 0 :: ids 1 q) (some 0 :: ids 1 q) (⟨prf 1 ps ++ o, 28, true⟩ :: pkd ps) := (turn_row h).resolve_right fun h => h ho
theorem c15l (ps : List Pln) (hx : ps.length ≤ 2 ^ 40) (hP : ∀ p ∈ ps, p.1.length ≤ 2 ^ 40) : LiveC X 15 [.c (pls false ps)] (.c (.mu 0 0 ps.length 3)) (⟨prf 1 ps, 28, true⟩ :: pkd ps) := by
  refine LiveC.of_body (drawD_ok X) (fun _ _ => Go.Proofs.Try.call15 _ _) Go.Proofs.Try.func15 rfl (n := 23) rfl ?_
  refine w_seq ?_
  refine w_reg rfl ?_
  refine v_assign rfl ?_
  refine v_nil ?_
  refine q_n ?_
  refine w_seq ?_
  refine w_reg rfl ?_
  refine v_move rfl ?_
  refine v_len_sl lay35 rfl ?_
  refine v_make (enc := ozc) (a0 := none) (m := 0) (H' := [_]) rfl lay38 lay28 rfl rfl rfl rfl (ps.length) (rfl) (by unfold maxLen; simp only []; omega) rfl rfl ?_
  refine v_assign rfl ?_
  refine v_nil ?_
  refine q_n ?_
  refine w_seq ?_
  refine w_seq ?_
  refine w_reg rfl ?_
  refine v_assign (c := .v (.int .i64 0)) rfl ?_
  refine v_nil ?_
  refine q_n ?_
  refine w_block ?_
  refine w_loop (fun k sl H => ∃ i : Nat, k = ps.length - i ∧ i ≤ ps.length ∧ sl = sls [(0, .c (pls false ps)), (3, .c (.mu 0 0 ps.length 3)), (4, cI i)] ∧ H = ⟨prf 1 (ps.take i) ++ room (ps.length - i), 28, true⟩ :: pkd (ps.take i)) ?_ ?_
  · refine ⟨_, _, _, ?_, 0, rfl, Nat.zero_le _, rfl, rfl⟩
    exact turn [some 0] rfl rfl rfl ⟨⟨_, rfl, trc_flatz ozc_sc rfl⟩, trivial⟩ ⟨tr_sl, tr_mu rfl, tr_v, trivial⟩
  rintro k sl H ⟨i, rfl, hi, rfl, rfl⟩
  refine w_seq ?_
  refine w_seq ?_
  refine w_reg rfl ?_
  refine v_move rfl ?_
  refine v_move rfl ?_
  refine v_len_sl lay35 rfl ?_
  refine v_lss lay3 rfl rfl (fun h1 => ?_) (fun h1 => ?_)
  rotate_left
  · refine v_nil ?_
    refine q_n ?_
    refine w_f rfl ?_
    refine w_exit ?_
    refine q_e ?_
    refine q_e ?_
    refine q_hit ?_
    refine q_n ?_
    refine w_seq ?_
    refine w_reg rfl ?_
    refine v_move rfl ?_
    refine v_assign rfl ?_
    refine v_nil ?_
    refine q_n ?_
    refine w_ret ?_
    refine r_r rfl ?_
    obtain rfl : i = ps.length := by omega
    rw [List.take_length, Nat.sub_self, show room 0 = [] from rfl, List.append_nil]
    exact l_ans (some 0 :: ids 1 ps.length) nodup_ids0 (lt_ids0 (by simp [kids_len])) (by have h := turn_row2 (ps := ps) (o := []) rfl (fun c hc => by cases hc); simpa [List.append_nil] using h) (tr_mu rfl)
  have hi1 : i < ps.length := by omega
  refine v_nil ?_
  refine q_n ?_
  refine w_t rfl ?_
  refine w_skip ?_
  refine q_n ?_
  refine w_seq ?_
  refine w_block ?_
  refine w_reg rfl ?_
  refine v_move rfl ?_
  refine v_move rfl ?_
  refine v_move rfl ?_
  refine v_move rfl ?_
  refine v_idx_e (k := 3) (i) plc_len lay35 lay24 rfl rfl rfl (rfl) rfl (rfl) (hi1) ?_
  refine v_load_vw (.agg [_, .v _, .v _]) lay24 rfl rfl rfl ?_
  refine v_live1 (N := i + 1) (H' := (⟨prf 1 (ps.take i) ++ room (ps.length - i), 28, true⟩ :: pkd (ps.take i)) ++ [⟨flat stc ps[i].1, 82, true⟩]) (c8l ps[i].1 ps[i].2.1 ps[i].2.2 (hP _ (List.getElem_mem hi1))) (sc_flat stc_sc _) (by simp [kids_len]; omega) rfl rfl rfl rfl rfl (.cons (vw_agg (.cons vw_sl (.cons vw_v (.cons vw_v .nil)))) .nil) ?_
  refine v_idx_mu_e (k := 3) (off := 0) (i) lay38 lay28 rfl rfl rfl (rfl) (hi1) ?_
  refine v_store_at (H' := ⟨prf 1 (ps.take (i + 1)) ++ room (ps.length - (i + 1)), 28, true⟩ :: pkd (ps.take (i + 1))) lay28 rfl rfl rfl rfl (by rw [List.length_append, prf_len, List.length_take, flat_length ozc_len, List.length_replicate]; show 0 + i * 3 + 3 ≤ _; omega) (by rw [pkd_step hi1, room_step hi1, set_mid (z := [.v (.slice none 0 0), .v (.int .i64 0), .v (.int .i64 0)]) (cs := List.map (shC (i + 1)) [.mu 0 0 ps[i].1.length 9, .v (.int .i64 ps[i].2.1), .v (.int .i64 ps[i].2.2)]) (by rw [prf_len, List.length_take]; omega) rfl, prf_step hi1]; simp [shC]) ?_
  refine v_nil ?_
  refine q_bn ?_
  refine q_n ?_
  refine w_reg rfl ?_
  refine v_move rfl ?_
  refine v_add lay3 rfl rfl (i64r (by omega)) ?_
  refine v_assign rfl ?_
  refine v_nil ?_
  refine q_n ?_
  refine ⟨_, _, _, ?_, ⟨i + 1, rfl, by omega, rfl, rfl⟩, by omega⟩
  exact turn (some 0 :: ids 1 (i + 1)) nodup_ids0 rfl (lt_ids0 (by simp [kids_len]; omega)) (turn_row2 (by simp; omega) (fz_flat ozc_sc _)) ⟨tr_sl, tr_mu rfl, tr_v, trivial⟩
end Go.VL
namespace Go.VL
open Go.RowKit
set_option maxRecDepth 20000
/-- A part of a row of references, and what stands around it. -/
theorem prf_split {xs : List Pln} {i N : Nat} (h : i < xs.length) : prf N xs = prf N (xs.take i) ++ ([.mu (N + i) 0 xs[i].1.length 9, .v (.int .i64 xs[i].2.1), .v (.int .i64 xs[i].2.2)] ++ prf (N + i + 1) (xs.drop (i + 1))) := by
  have e : xs = xs.take i ++ xs[i] :: xs.drop (i + 1) := by rw [← List.drop_eq_getElem_cons h, List.take_append_drop]
  have hl : (xs.take i).length = i := by rw [List.length_take]; omega
  conv => lhs; rw [e]
  rw [prf, refs_app, hl]
  rfl
theorem prf_take {xs : List Pln} {i N : Nat} (h : i < xs.length) : (prf N (xs.take i)).length = i * 3 := by rw [prf_len, List.length_take, Nat.min_eq_left (by omega)]
theorem prf_load {xs : List Pln} {i N off : Nat} (h : i < xs.length) (ho : off = i * 3) : sub (prf N xs) off 1 = [.mu (N + i) 0 xs[i].1.length 9] := by
  subst ho
  rw [prf_split h]
  unfold sub
  rw [← prf_take h (N := N), List.drop_left]
  rfl
theorem prf_sets {xs : List Pln} {i N o1 o2 : Nat} (h : i < xs.length) (h1 : o1 = i * 3 + 1) (h2 : o2 = i * 3 + 2) {q : List Slo} {b f : Int} (hq : q.length = xs[i].1.length) :
    setCells (setCells (prf N xs) o1 [.v (.int .i64 b)]) o2 [.v (.int .i64 f)] = prf N (xs.set i (q, b, f)) := by
  subst h1 h2
  have h' : i < (xs.set i (q, b, f)).length := by rw [List.length_set]; exact h
  have ht : (xs.set i (q, b, f)).take i = xs.take i := by rw [List.take_set_of_le (Nat.le_refl i)]
  have hd : (xs.set i (q, b, f)).drop (i + 1) = xs.drop (i + 1) := by rw [List.drop_set_of_lt (by omega)]
  rw [prf_split h, prf_split h', ht, hd, List.getElem_set_self, hq]
  have e := prf_take h (N := N)
  generalize prf N (xs.take i) = A at e ⊢
  generalize prf (N + i + 1) (xs.drop (i + 1)) = B
  have s1 := set_mid (A := A ++ [.mu (N + i) 0 xs[i].1.length 9]) (z := [.v (.int .i64 xs[i].2.1)]) (B := .v (.int .i64 xs[i].2.2) :: B) (cs := [.v (.int .i64 b)]) (off := i * 3 + 1) (by simp [e]) rfl
  have s2 := set_mid (A := A ++ [.mu (N + i) 0 xs[i].1.length 9, .v (.int .i64 b)]) (z := [.v (.int .i64 xs[i].2.2)]) (B := B) (cs := [.v (.int .i64 f)]) (off := i * 3 + 2) (by simp [e]) rfl
  simp only [List.append_assoc, List.cons_append, List.nil_append] at s1 s2 ⊢
  rw [s1, s2]
end Go.VL
namespace Go.VL
open Go.RowKit
set_option maxRecDepth 20000
set_option maxHeartbeats 8000000
section
variable {X : Cx} {all r : List Oper} {K : Sl → List Ob → Prop} {sl : Sl} {H : List Ob} {d : Tmp} {ty : TypeId} {ps : String} {af : Array Edge}
theorem v_load_at {t : TypeId} {x : Operand} {L : Lay} {id off : Nat} {ocs : List C} {tt : TypeId} (v : V) (hL : X.lay t = some L) (hx : rho X.G sl x = .c (.pt id off)) (ho : H[id]? = some ⟨ocs, tt, true⟩) (hb : off + L.size ≤ ocs.length) (hv : mkV L.kind.agg (sub ocs off L.size) = some v) (h : vops X all r K (upd sl d v) H) : vops X all (⟨some d, .load t x, ty, ps, af, none⟩ :: r) K sl H := by
  refine v_q v rfl ?_ h
  simp only [evq, hL, hx, ho]
  rw [if_pos ⟨trivial, hb⟩, hv]
end
abbrev pmf (a : Int) (ps : List Pln) (i : Nat) : Pln := pmE (pmA a ps i) (pa ps i)
theorem fix_ids0 {n : Nat} : ∀ {m : Nat}, m ≤ n + 1 → fixO (some 0 :: ids 1 n) m = true
  | 0, _ => rfl
  | 1, _ => rfl
  | m + 2, h => by
    have e : (some 0 :: ids 1 n)[m + 1]? = some (some (m + 1)) := by rw [List.getElem?_cons_succ, ids_at (n := n) (i := m) (by omega), Nat.add_comm 1 m]
    show ((some 0 :: ids 1 n)[m + 1]? == some (some (m + 1)) && fixO (some 0 :: ids 1 n) (m + 1)) = true
    rw [e, fix_ids0 (n := n) (m := m + 1) (by omega)]
    simp
theorem turnp_of {H : List Ob} {g : List (Option Nat)} : ∀ {gs : List (Option Nat)} {os : List Ob}, TurnO H g gs os → TurnP H g gs os
  | [], [], _ => trivial
  | none :: _, _ :: _, h => ⟨fun _ => h.1, turnp_of h.2⟩
  | some _ :: _, _ :: _, h => ⟨fun _ => h.1, turnp_of h.2⟩
  | [], _ :: _, h => h.elim
  | none :: _, [], h => h.elim
  | some _ :: _, [], h => h.elim
theorem c20 (ps : List Pln) (a : Int) (hx : ps.length ≤ 2 ^ 20) (hP : ∀ p ∈ ps, p.1.length ≤ 2 ^ 20) (ha : 0 ≤ a ∧ a ≤ 2 ^ 40) : DetC X 20 [.c (.mu 0 0 ps.length 3), cI a] (⟨prf 1 ps, 28, true⟩ :: pkd ps) (cI (pmA a ps ps.length)) (⟨prf 1 (pmk a ps), 28, true⟩ :: pkd (pmk a ps)) := by
  refine GraphC.of_body (drawD_ok X) (fun _ _ => Go.Proofs.Try.call20 _ _) Go.Proofs.Try.func20 rfl (n := 34) rfl rfl ?_
  refine w_seq ?_
  refine w_reg rfl ?_
  refine v_assign (c := .v (.int .i64 0)) rfl ?_
  refine v_nil ?_
  refine q_n ?_
  refine w_seq ?_
  refine w_seq ?_
  refine w_reg rfl ?_
  refine v_assign (c := .v (.int .i64 0)) rfl ?_
  refine v_nil ?_
  refine q_n ?_
  refine w_block ?_
  refine w_loop (fun k sl H => ∃ i : Nat, k = ps.length - i ∧ i ≤ ps.length ∧ sl = sls [(0, .c (.mu 0 0 ps.length 3)), (1, cI (pmA a ps i)), (5, cI i)] ∧ H = ⟨prf 1 (marks (pmf a ps) i ps), 28, true⟩ :: pkd (marks (pmf a ps) i ps)) ?_ ?_
  · refine ⟨_, _, _, ?_, 0, rfl, Nat.zero_le _, rfl, rfl⟩
    exact turn (some 0 :: ids 1 ps.length) nodup_ids0 (by rw [List.length_cons, kids_len]; exact fix_ids0 (Nat.le_refl _)) (lt_ids0 (by simp [kids_len])) (by have h := turn_row2 (ps := ps) (o := []) rfl (fun c hc => by cases hc); simpa [List.append_nil, marks_zero] using h) ⟨tr_mu rfl, tr_i (by cases ps <;> rfl), tr_v, trivial⟩
  rintro k sl H ⟨i, rfl, hi, rfl, rfl⟩
  refine w_seq ?_
  refine w_seq ?_
  refine w_reg rfl ?_
  refine v_move rfl ?_
  refine v_move rfl ?_
  refine v_len_mu lay38 rfl ?_
  refine v_lss lay3 rfl rfl (fun h1 => ?_) (fun h1 => ?_)
  rotate_left
  · refine v_nil ?_
    refine q_n ?_
    refine w_f rfl ?_
    refine w_exit ?_
    refine q_e ?_
    refine q_e ?_
    refine q_hit ?_
    refine q_n ?_
    refine w_seq ?_
    refine w_reg rfl ?_
    refine v_move rfl ?_
    refine v_assign rfl ?_
    refine v_nil ?_
    refine q_n ?_
    refine w_ret ?_
    refine r_r rfl ?_
    obtain rfl : i = ps.length := by omega
    rw [marks_all]
    exact g_ans (H1 := ⟨prf 1 (pmk a ps), 28, true⟩ :: pkd (pmk a ps)) (some 0 :: ids 1 ps.length) nodup_ids0 (by rw [List.length_cons, kids_len]; exact fix_ids0 (Nat.le_refl _)) (lt_ids0 (by simp [kids_len])) (turnp_of (by have h := turn_row2 (ps := pmk a ps) (o := []) pmk_len (fun c hc => by cases hc); rw [List.append_nil] at h; exact h)) tr_v ⟨rfl, rfl⟩
  have hi1 : i < ps.length := by omega
  have hA := pmA_rng (a := a) hP (i := i) (by omega)
  have hA1 : 0 ≤ pmA a ps i ∧ pmA a ps i ≤ 2 ^ 50 := ⟨by omega, by omega⟩
  have hl := hP _ (List.getElem_mem hi1)
  have hst := pmA_step (a := a) hi1
  have hML : (marks (pmf a ps) i ps).length = ps.length := marks_len (by omega)
  have hD : i < (marks (pmf a ps) i ps).length := by omega
  have hDi : (marks (pmf a ps) i ps)[i] = ps[i] := marks_at hi1 hD
  have hkid : (⟨prf 1 (marks (pmf a ps) i ps), 28, true⟩ :: pkd (marks (pmf a ps) i ps))[1 + i]? = some ⟨flat stc ps[i].1, 82, true⟩ := by rw [Nat.add_comm 1 i, List.getElem?_cons_succ, ← hDi]; exact kids_at hD
  have hE : pmf a ps i = ((List.range ps[i].1.length).map (smark (pmA a ps i)), pmA a ps i + 9 * ps[i].1.length, pmA a ps i + 9 * ps[i].1.length + 1) := by rw [pmf, pa_at hi1]; rfl
  have hnew : List.set (⟨setCells (prf 1 (marks (pmf a ps) i ps)) (0 + i * 3 + 1) [.v (.int .i64 (pmA a ps i + 9 * ps[i].1.length))], 28, true⟩ :: (pkd (marks (pmf a ps) i ps)).set i ⟨flat stc ((List.range ps[i].1.length).map (smark (pmA a ps i))), 82, true⟩) 0 ⟨setCells (setCells (prf 1 (marks (pmf a ps) i ps)) (0 + i * 3 + 1) [.v (.int .i64 (pmA a ps i + 9 * ps[i].1.length))]) (0 + i * 3 + 2) [.v (.int .i64 (pmA a ps i + 9 * ps[i].1.length + 1))], 28, true⟩ = ⟨prf 1 (marks (pmf a ps) (i + 1) ps), 28, true⟩ :: pkd (marks (pmf a ps) (i + 1) ps) := by
    rw [List.set_cons_zero, prf_sets hD (by omega) (by omega) (q := (List.range ps[i].1.length).map (smark (pmA a ps i))) (by rw [hDi]; simp), ← marks_step (f := pmf a ps) hi1, hE]
    exact congrArg (List.cons _) (kids_set (kid := fun p : Pln => p.1) (enc := stc) (tt := 82) (x := ((List.range ps[i].1.length).map (smark (pmA a ps i)), pmA a ps i + 9 * ps[i].1.length, pmA a ps i + 9 * ps[i].1.length + 1)) hD).symm
  have hb2 : 0 + i * 3 + 2 + 1 ≤ (setCells (prf 1 (marks (pmf a ps) i ps)) (0 + i * 3 + 1) [.v (.int .i64 (pmA a ps i + 9 * ps[i].1.length))]).length := by unfold setCells; simp only [List.length_append, List.length_take, List.length_drop, List.length_cons, List.length_nil, prf_len]; omega
  refine v_nil ?_
  refine q_n ?_
  refine w_t rfl ?_
  refine w_skip ?_
  refine q_n ?_
  refine w_seq ?_
  refine w_block ?_
  refine w_seq ?_
  refine w_reg rfl ?_
  refine v_move rfl ?_
  refine v_move rfl ?_
  have hq2 : i < _ := hi1
  refine v_idx_mu_n (k := 3) (off := 0) i lay38 lay28 rfl rfl rfl hq2 ?_
  refine v_fa_pt (off' := _) lay28 rfl rfl rfl ?_
  refine v_load_at (.c (.mu (1 + i) 0 ps[i].1.length 9)) lay26 rfl rfl (by rw [prf_len]; show 0 + i * 3 + 0 + 1 ≤ _; omega) (by have e := prf_load (N := 1) (off := 0 + i * 3 + 0) hD (by omega); rw [hDi] at e; show mkV false (sub _ (0 + i * 3 + 0) 1) = _; rw [e]; rfl) ?_
  refine v_move rfl ?_
  refine v_mark (H' := ⟨prf 1 (marks (pmf a ps) i ps), 28, true⟩ :: (pkd (marks (pmf a ps) i ps)).set i ⟨flat stc ((List.range ps[i].1.length).map (smark (pmA a ps i))), 82, true⟩) (c42 ps[i].1 (pmA a ps i) (by omega) hA1) hkid (sc_flat stc_sc _) (sc_flat stc_sc _) rfl (by show List.set (_ :: _) (1 + i) _ = _; rw [Nat.add_comm 1 i]; rfl) rfl rfl ?_
  refine v_assign rfl ?_
  refine v_nil ?_
  refine q_n ?_
  refine w_seq ?_
  refine w_reg rfl ?_
  refine v_move rfl ?_
  refine v_move rfl ?_
  refine v_move rfl ?_
  have hq3 : i < _ := hi1
  refine v_idx_mu_n (k := 3) (off := 0) i lay38 lay28 rfl rfl rfl hq3 ?_
  refine v_fa_pt (off' := _) lay28 rfl rfl rfl ?_
  refine v_store_at (H' := ⟨setCells (prf 1 (marks (pmf a ps) i ps)) (0 + i * 3 + 1) [.v (.int .i64 (pmA a ps i + 9 * ps[i].1.length))], 28, true⟩ :: (pkd (marks (pmf a ps) i ps)).set i ⟨flat stc ((List.range ps[i].1.length).map (smark (pmA a ps i))), 82, true⟩) lay2 rfl rfl rfl rfl (by rw [prf_len]; show 0 + i * 3 + 1 + 1 ≤ _; omega) rfl ?_
  refine v_nil ?_
  refine q_n ?_
  refine w_seq ?_
  refine w_reg rfl ?_
  refine v_move rfl ?_
  refine v_add lay3 rfl rfl (i64r (by omega)) ?_
  refine v_assign rfl ?_
  refine v_nil ?_
  refine q_n ?_
  refine w_seq ?_
  refine w_reg rfl ?_
  refine v_move rfl ?_
  refine v_move rfl ?_
  refine v_move rfl ?_
  have hq4 : i < _ := hi1
  refine v_idx_mu_n (k := 3) (off := 0) i lay38 lay28 rfl rfl rfl hq4 ?_
  refine v_fa_pt (off' := _) lay28 rfl rfl rfl ?_
  refine v_store_at (H' := ⟨prf 1 (marks (pmf a ps) (i + 1) ps), 28, true⟩ :: pkd (marks (pmf a ps) (i + 1) ps)) lay2 rfl rfl rfl rfl hb2 hnew ?_
  refine v_nil ?_
  refine q_n ?_
  refine w_reg rfl ?_
  refine v_move rfl ?_
  refine v_add lay3 rfl rfl (i64r (by omega)) ?_
  refine v_assign rfl ?_
  refine v_nil ?_
  refine q_bn ?_
  refine q_n ?_
  refine w_reg rfl ?_
  refine v_move rfl ?_
  refine v_add lay3 rfl rfl (i64r (by omega)) ?_
  refine v_assign rfl ?_
  refine v_nil ?_
  refine q_n ?_
  have hML2 : (marks (pmf a ps) (i + 1) ps).length = ps.length := marks_len (by omega)
  refine ⟨_, _, _, ?_, ⟨i + 1, rfl, by omega, rfl, rfl⟩, by omega⟩
  exact turn (some 0 :: ids 1 ps.length) nodup_ids0 (by rw [List.length_cons, kids_len]; exact fix_ids0 (Nat.le_refl _)) (lt_ids0 (by simp only [List.length_cons, kids_len]; omega)) (by have h := turn_row2 (ps := marks (pmf a ps) (i + 1) ps) (o := []) hML2 (fun c hc => by cases hc); simpa [List.append_nil] using h) ⟨tr_mu rfl, tr_i (by rw [hst]; omega), tr_i (by push_cast; omega), trivial⟩
end Go.VL
namespace Go.VL
open Go.RowKit
set_option maxRecDepth 20000
set_option maxHeartbeats 8000000
theorem c17n (ps : List Pln) (ts : List Int) (m : Int) (hP : ∀ p ∈ ps, p.1.length ≤ 2 ^ 40) (hx : ps.length ≤ 2 ^ 40) (ht : ts.length ≤ 2 ^ 40) (hc : wcR ps ts m ≠ 0) : LiveC X 17 [.c (pls false ps), .c (ints false ts), cI m] (.tup [.c (.mu 0 0 0 3), cI (wcR ps ts m)]) [⟨[], 28, true⟩] := by
  refine LiveC.of_body (drawD_ok X) (fun _ _ => Go.Proofs.Try.call17 _ _) Go.Proofs.Try.func17 rfl (n := 63) rfl ?_
  refine w_seq ?_
  refine w_reg rfl ?_
  refine v_assign rfl ?_
  refine v_assign (c := .v (.int .i64 0)) rfl ?_
  refine v_nil ?_
  refine q_n ?_
  refine w_seq ?_
  refine w_seq ?_
  refine w_reg rfl ?_
  refine v_move rfl ?_
  refine v_move rfl ?_
  refine v_move rfl ?_
  refine v_call (c46g ps ts m hP hx ht) rfl rfl rfl (.cons vw_sl (.cons vw_sl (.cons vw_v .nil))) ?_
  refine v_assign rfl ?_
  refine v_nil ?_
  refine q_n ?_
  refine w_seq ?_
  refine w_reg rfl ?_
  refine v_move rfl ?_
  refine v_neq lay2 rfl rfl (fun h1 => ?_) (fun h1 => ?_)
  rotate_left
  · exact absurd h1 hc
  refine v_nil ?_
  refine q_n ?_
  refine w_t rfl ?_
  refine w_seq ?_
  refine w_reg rfl ?_
  refine v_move rfl ?_
  refine v_assign rfl ?_
  refine v_assign rfl ?_
  refine v_nil ?_
  refine q_n ?_
  refine w_ret (q_r ?_)
  refine r_r rfl ?_
  exact l_ans [none] rfl rfl ⟨rfl, trivial⟩ (a_tup (.cons (tr_nil rfl) (.cons tr_v .nil)))
theorem c14n (ps : List Pln) (ts : List Int) (m : Int) (hP : ∀ p ∈ ps, p.1.length ≤ 2 ^ 40) (hx : ps.length ≤ 2 ^ 40) (ht : ts.length ≤ 2 ^ 40) (hc : wcR ps ts m ≠ 0) : LiveC X 14 [.c (pls false ps), .c (ints false ts), cI m] (.tup [.c (.mu 0 0 0 3), cI (wcR ps ts m)]) [⟨[], 28, true⟩] := by
  refine LiveC.of_body (drawD_ok X) (fun _ _ => Go.Proofs.Try.call14 _ _) Go.Proofs.Try.func14 rfl (n := 75) rfl ?_
  refine w_seq ?_
  refine w_reg rfl ?_
  refine v_assign rfl ?_
  refine v_assign (c := .v (.int .i64 0)) rfl ?_
  refine v_nil ?_
  refine q_n ?_
  refine w_seq ?_
  refine w_seq ?_
  refine w_reg rfl ?_
  refine v_move rfl ?_
  refine v_move rfl ?_
  refine v_move rfl ?_
  refine v_call (c44g ps ts m hP hx ht) rfl rfl rfl (.cons vw_sl (.cons vw_sl (.cons vw_v .nil))) ?_
  refine v_assign rfl ?_
  refine v_nil ?_
  refine q_n ?_
  refine w_seq ?_
  refine w_reg rfl ?_
  refine v_move rfl ?_
  refine v_neq lay2 rfl rfl (fun h1 => ?_) (fun h1 => ?_)
  rotate_left
  · exact absurd h1 hc
  refine v_nil ?_
  refine q_n ?_
  refine w_t rfl ?_
  refine w_seq ?_
  refine w_reg rfl ?_
  refine v_lit (flat plc []) (H' := [_]) lay38 lay28 rfl rfl ⟨by decide, by decide⟩ rfl rfl ?_
  refine v_move rfl ?_
  refine v_assign rfl ?_
  refine v_assign rfl ?_
  refine v_nil ?_
  refine q_n ?_
  refine w_ret (q_r ?_)
  refine r_r rfl ?_
  exact l_ans [some 0] rfl rfl ⟨⟨_, rfl, .nil⟩, trivial⟩ (a_tup (.cons (tr_mu rfl) (.cons tr_v .nil)))
end Go.VL
namespace Go.VL
open Go.RowKit
set_option maxRecDepth 20000
set_option maxHeartbeats 8000000
abbrev rowO (ps : List Pln) : List Ob := ⟨prf 1 ps, 28, true⟩ :: pkd ps
theorem c17l (ps : List Pln) (ts : List Int) (m n : Nat) (hW : okW ps ts m n) : LiveC X 17 [.c (pls false ps), .c (ints false ts), cI m] (.tup [.c (.mu 0 0 ps.length 3), cI 0]) (rowO (wvL ps ts m n)) := by
  refine LiveC.of_body (drawD_ok X) (fun _ _ => Go.Proofs.Try.call17 _ _) Go.Proofs.Try.func17 rfl (n := 63) rfl ?_
  have w1 := hW.ne
  have w2 := hW.le
  have w3 := hW.tl
  have w4 := hW.mm
  refine w_seq ?_
  refine w_reg rfl ?_
  refine v_assign rfl ?_
  refine v_assign (c := .v (.int .i64 0)) rfl ?_
  refine v_nil ?_
  refine q_n ?_
  refine w_seq ?_
  refine w_seq ?_
  refine w_reg rfl ?_
  refine v_move rfl ?_
  refine v_move rfl ?_
  refine v_move rfl ?_
  refine v_call (c46 ps ts m n hW) rfl rfl rfl (.cons vw_sl (.cons vw_sl (.cons vw_v .nil))) ?_
  refine v_assign rfl ?_
  refine v_nil ?_
  refine q_n ?_
  refine w_seq ?_
  refine w_reg rfl ?_
  refine v_move rfl ?_
  refine v_neq lay2 rfl rfl (fun h1 => ?_) (fun h1 => ?_)
  · exact absurd (by decide) h1
  refine v_nil ?_
  refine q_n ?_
  refine w_f rfl ?_
  refine w_skip ?_
  refine q_n ?_
  refine w_seq ?_
  refine w_reg rfl ?_
  refine v_lit (flat plc []) (H' := [_]) lay38 lay28 rfl rfl ⟨by decide, by decide⟩ rfl rfl ?_
  refine v_assign rfl ?_
  refine v_assign (c := .v (.int .i64 0)) rfl ?_
  refine v_nil ?_
  refine q_n ?_
  refine w_seq ?_
  refine w_seq ?_
  refine w_reg rfl ?_
  refine v_move rfl ?_
  refine v_len_sl lay38 rfl ?_
  refine v_move (c := .v (.int .i64 0)) rfl ?_
  refine v_nil ?_
  refine q_n ?_
  refine w_block ?_
  refine w_loop (fun k sl H => ∃ i : Nat, k = ps.length - i ∧ i ≤ ps.length ∧ sl = sls [(1, .c (ints false ts)), (2, cI m), (9, .c (.mu 0 0 i 3)), (10, cI (gG ps ts m n i)), (23, .c (pls false ps)), (24, cI ps.length), (25, cI i)] ∧ H = rowO ((List.range i).map (wvp ps ts m n)) ++ []) ?_ ?_
  · refine ⟨_, _, _, ?_, 0, rfl, Nat.zero_le _, rfl, rfl⟩
    exact turn [some 0] rfl rfl rfl ⟨⟨_, rfl, (show TrC _ _ [] [] from .nil)⟩, trivial⟩ ⟨tr_sl, tr_v, tr_mun rfl rfl, tr_v, tr_sl, tr_v, tr_v, trivial⟩
  rintro k sl H ⟨i, rfl, hi, rfl, rfl⟩
  have hA : (rowO ((List.range i).map (wvp ps ts m n))).length = i + 1 := by simp [kids_len]
  refine w_seq ?_
  refine w_reg rfl ?_
  refine v_lss lay3 rfl rfl (fun h2 => ?_) (fun h2 => ?_)
  rotate_left
  · refine v_nil ?_
    refine q_n ?_
    refine w_seq ?_
    refine w_f rfl ?_
    refine w_exit ?_
    refine q_e ?_
    refine q_e ?_
    refine q_hit ?_
    refine q_n ?_
    refine w_seq ?_
    refine w_reg rfl ?_
    refine v_move rfl ?_
    refine v_assign rfl ?_
    refine v_assign (c := .v (.int .i64 0)) rfl ?_
    refine v_nil ?_
    refine q_n ?_
    refine w_ret ?_
    refine r_r rfl ?_
    obtain rfl : i = ps.length := by omega
    rw [List.append_nil (rowO _)]
    exact l_ans (some 0 :: ids 1 ps.length) nodup_ids0 (lt_ids0 (by simp [kids_len])) (by have h := turn_row2 (ps := wvL ps ts m n) (o := []) wvL_len (fun c hc => by cases hc); rw [List.append_nil] at h; exact h) (a_tup (.cons (tr_mu rfl) (.cons tr_v .nil)))
  have hi1 : i < ps.length := by omega
  obtain ⟨hk, hn, hg⟩ := hW.at hi1
  obtain ⟨n1, n2, n3, n4, n5⟩ := ok_n hk hn
  refine v_nil ?_
  refine q_n ?_
  refine w_seq ?_
  refine w_t rfl ?_
  refine w_skip ?_
  refine q_n ?_
  refine w_seq ?_
  refine w_block ?_
  refine w_seq ?_
  refine w_reg rfl ?_
  refine v_move rfl ?_
  refine v_idx_e (k := 3) (i) plc_len lay38 lay28 rfl rfl rfl (rfl) rfl (rfl) (hi1) ?_
  refine v_load_vw (.agg [_, .v _, .v _]) lay28 rfl rfl rfl ?_
  refine p_alloc hA (m := 0) (H' := [⟨[.v _, .v _, .v _], 28, true⟩]) lay28 rfl rfl ?_
  refine v_assign rfl ?_
  refine p_store hA (H' := [⟨[_, _, _], 28, true⟩]) lay28 rfl rfl rfl rfl rfl rfl ?_
  refine v_nil ?_
  refine q_n ?_
  refine w_seq ?_
  refine w_reg rfl ?_
  refine p_load_pt hA (.agg [_, _, _]) lay28 rfl rfl rfl rfl ?_
  refine v_move rfl ?_
  refine v_fa_pt (off' := 2) lay28 rfl rfl rfl ?_
  refine p_load_pt hA (.c _) lay2 rfl rfl rfl rfl ?_
  refine v_call (c48 _ _ _ _ hk m n hn w4 (by omega)) rfl rfl rfl (.cons (vw_agg (.cons vw_sl (.cons vw_v (.cons vw_v .nil)))) (.cons vw_v (.cons vw_v .nil))) ?_
  refine v_call (c47 _ grL_len (by omega)) rfl rfl rfl (.cons vw_sl (.cons vw_v .nil)) ?_
  refine v_assign rfl ?_
  refine v_nil ?_
  refine q_n ?_
  refine w_seq ?_
  refine w_reg rfl ?_
  refine p_load_pt hA (.agg [_, _, _]) lay28 rfl rfl rfl rfl ?_
  refine p_live1 hA (N := 1) (H' := [_, _]) (c38l _ _ _ (by omega)) (sc_flat stc_sc _) rfl rfl rfl rfl rfl rfl (.cons (vw_agg (.cons vw_sl (.cons vw_v (.cons vw_v .nil)))) .nil) ?_
  refine p_alloc hA (m := 2) (H' := [_, _, ⟨[.v _, .v _, .v _], 28, true⟩]) lay28 rfl rfl ?_
  refine p_store hA (H' := [_, _, ⟨[_, _, _], 28, true⟩]) lay28 rfl rfl rfl rfl rfl rfl ?_
  refine v_nil ?_
  refine q_n ?_
  refine w_seq ?_
  refine w_seq ?_
  refine w_reg rfl ?_
  refine v_move rfl ?_
  refine v_gtr lay3 rfl rfl (fun h4 => ?_) (fun h4 => ?_)
  rotate_left
  · obtain rfl : i = 0 := by omega
    have hbi := bgn_rng hg
    have hbu : bgn ps[0] m n = fix (fun x => x = true) (grL ps[0].1 ps[0].2.1 ps[0].2.2 m n ps[0].2.2) := rfl
    rw [hbu] at hbi
    refine v_nil ?_
    refine q_n ?_
    refine w_f rfl ?_
    refine w_skip ?_
    refine q_n ?_
    refine w_seq ?_
    refine w_reg rfl ?_
    refine v_fa_pt (off' := 2) lay28 rfl rfl rfl ?_
    refine p_load_pt hA (.c _) lay2 rfl rfl rfl rfl ?_
    refine v_move rfl ?_
    refine v_add lay2 rfl rfl (i64r (by omega)) ?_
    refine v_assign rfl ?_
    refine v_nil ?_
    refine q_n ?_
    refine w_reg rfl ?_
    refine v_move rfl ?_
    refine p_load_pt hA (.agg [_, _, _]) lay28 rfl rfl rfl rfl ?_
    refine p_lit hA ([.mu (0 + 1 + 1) 0 _ 9, .v _, .v _]) (H' := [_, _, _, _]) lay38 lay28 rfl rfl ⟨by decide, by decide⟩ rfl rfl ?_
    refine p_app hA (A' := ⟨prf 1 ((List.range (0)).map (wvp ps ts m n)), 28, false⟩ :: pkd ((List.range (0)).map (wvp ps ts m n))) (H' := [_, _, _, _, _]) lay38 lay28 rfl rfl rfl rfl rfl rfl (by decide) (by rw [prf_len, List.length_map, List.length_range]) (by unfold maxLen; simp only []; omega) rfl rfl rfl ?_
    refine v_assign rfl ?_
    refine v_nil ?_
    refine q_bn ?_
    refine q_n ?_
    refine w_reg rfl ?_
    refine v_add lay3 rfl rfl (i64r (by omega)) ?_
    refine v_move rfl ?_
    refine v_nil ?_
    refine q_n ?_
    have hWP : wvp ps ts m n (0) = (ps[0].1, ps[0].2.1, ps[0].2.2) := by unfold wvp; rw [wof_0 (by rw [pa_at hi1]; exact ⟨n3, n4⟩), pa_at hi1]
    have hA2 : (⟨prf 1 ((List.range (0)).map (wvp ps ts m n)), 28, false⟩ :: pkd ((List.range (0)).map (wvp ps ts m n)) : List Ob).length = (0 + 1) := by simp [kids_len]
    refine ⟨_, _, _, ?_, ⟨0 + 1, rfl, by omega, rfl, rfl⟩, by omega⟩
    rw [List.append_nil (rowO _), range_step (wvp ps ts m n) (0), hWP]
    exact turn (some ((0 + 1) + 4) :: (ids 1 (0) ++ [some ((0 + 1) + 1)])) (nodup_grow (by omega) (by omega)) rfl (lt_grow (by rw [pre_len (m := 5) hA2 rfl]; omega) (by rw [pre_len (m := 5) hA2 rfl]; omega) (by rw [pre_len (m := 5) hA2 rfl]; omega)) (turn_grow stc_sc (fun _ => rfl) (by simp) (pre_at hA2 rfl) rfl (fun q hq => by rw [List.getElem?_append_left (by rw [List.length_cons, kids_len]; omega), Nat.add_comm 1 q, List.getElem?_cons_succ]; exact kids_at hq) (pre_at hA2 rfl)) ⟨tr_sl, tr_v, tr_mun rfl rfl, tr_i (by simp only [gG]; rw [wof_0 (by rw [pa_at hi1]; exact ⟨n3, n4⟩), pa_at hi1]; rfl), tr_sl, tr_v, tr_v, trivial⟩
  obtain ⟨j, rfl⟩ : ∃ j, i = j + 1 := ⟨i - 1, by omega⟩
  have hj : j < ts.length := by omega
  have htj := hW.tr _ (List.getElem_mem hj)
  have hwj := wof_rng (ps := ps) (ts := ts) (m := m) (i := j) (show 0 < n by omega)
  have hbj := bgn_rng (hW.at (show j < ps.length by omega)).2.2
  have hbi := bgn_rng hg
  have hwo := wof_step (ps := ps) (m := m) hj (show 0 < n by omega)
  rw [pa_at hi1] at hwo
  have hgv : gG ps ts m n (j + 1) = wof ps ts m n j + bgn ps[j] m n := by simp only [gG]; rw [pa_at (by omega)]
  have hbu : bgn ps[j + 1] m n = fix (fun x => x = true) (grL ps[j + 1].1 ps[j + 1].2.1 ps[j + 1].2.2 m n ps[j + 1].2.2) := rfl
  rw [hbu] at hbi
  have hwr := wof_rng (ps := ps) (ts := ts) (m := m) (i := j + 1) (show 0 < n by omega)
  rw [← hwo, hbu] at hwr
  rw [hbu] at hwo
  refine v_nil ?_
  refine q_n ?_
  refine w_t rfl ?_
  refine w_draw [0, 0, 0, 4, 14, 30, 63, 0, 255, 0, 512, 2047, 4095, 8191] [⟨0, 0, []⟩, ⟨1, 0, []⟩, ⟨2, 0, []⟩, ⟨3, 0, []⟩, ⟨4, 0, []⟩, ⟨5, 0, []⟩, ⟨6, 0, []⟩, ⟨7, 0, []⟩, ⟨8, 0, []⟩, ⟨9, 0, []⟩, ⟨10, 0, []⟩, ⟨11, 0, []⟩, ⟨12, 0, []⟩, ⟨13, 1, []⟩] rfl rfl ?_
  refine d_q rfl rfl rfl rfl rfl ?_
  refine v_move rfl ?_
  refine v_nil ?_
  refine d_q rfl rfl rfl rfl rfl ?_
  refine v_move rfl ?_
  refine v_nil ?_
  refine d_q rfl rfl rfl rfl rfl ?_
  refine v_move rfl ?_
  refine v_nil ?_
  refine d_q rfl rfl rfl rfl rfl ?_
  refine v_sub lay3 rfl rfl (i64r (by omega)) ?_
  refine v_nil ?_
  refine d_q rfl rfl rfl rfl rfl ?_
  refine v_idx_e (k := 1) (j) int_len lay36 lay2 rfl rfl rfl (rfl) rfl (by push_cast; omega) (hj) ?_
  refine v_nil ?_
  refine d_q rfl rfl rfl rfl rfl ?_
  refine v_load_vw (.c (.v _)) lay2 rfl rfl rfl ?_
  refine v_nil ?_
  refine d_q rfl rfl rfl rfl rfl ?_
  refine v_add lay2 rfl rfl (i64r (by omega)) ?_
  refine v_nil ?_
  refine d_q rfl rfl rfl rfl rfl ?_
  refine v_move rfl ?_
  refine v_nil ?_
  refine d_q rfl rfl rfl rfl rfl ?_
  refine v_sub lay2 rfl rfl (i64r (by omega)) ?_
  refine v_nil ?_
  refine d_q rfl rfl rfl rfl rfl ?_
  refine p_load_pt hA (.agg [_, _, _]) lay28 rfl rfl rfl rfl ?_
  refine v_nil ?_
  refine d_call (c40n _ _ _ hk hn) rfl rfl rfl rfl rfl (.cons (vw_agg (.cons vw_sl (.cons vw_v (.cons vw_v .nil)))) .nil) ?_
  refine d_call (c39 _ _ (by omega) (by omega)) rfl rfl rfl rfl rfl (.cons vw_v (.cons vw_v .nil)) ?_
  refine d_q rfl rfl rfl rfl rfl ?_
  refine v_fa_pt (off' := 2) lay28 rfl rfl rfl ?_
  refine v_nil ?_
  refine d_e rfl rfl rfl ?_
  refine p_store hA (H' := [_, _, ⟨[_, _, _], 28, true⟩]) lay2 rfl rfl rfl rfl rfl rfl ?_
  refine v_nil ⟨again_nil, ?_⟩
  refine d_nil ?_
  refine q_n ?_
  refine w_seq ?_
  refine w_reg rfl ?_
  refine v_fa_pt (off' := 2) lay28 rfl rfl rfl ?_
  refine p_load_pt hA (.c _) lay2 rfl rfl rfl rfl ?_
  refine v_move rfl ?_
  refine v_add lay2 rfl rfl (i64r (by omega)) ?_
  refine v_assign rfl ?_
  refine v_nil ?_
  refine q_n ?_
  refine w_reg rfl ?_
  refine v_move rfl ?_
  refine p_load_pt hA (.agg [_, _, _]) lay28 rfl rfl rfl rfl ?_
  refine p_lit hA ([.mu (j + 1 + 1 + 1) 0 _ 9, .v _, .v _]) (H' := [_, _, _, _]) lay38 lay28 rfl rfl ⟨by decide, by decide⟩ rfl rfl ?_
  refine p_app hA (A' := ⟨prf 1 ((List.range (j + 1)).map (wvp ps ts m n)), 28, false⟩ :: pkd ((List.range (j + 1)).map (wvp ps ts m n))) (H' := [_, _, _, _, _]) lay38 lay28 rfl rfl rfl rfl rfl rfl (by decide) (by rw [prf_len, List.length_map, List.length_range]) (by unfold maxLen; simp only []; omega) rfl rfl rfl ?_
  refine v_assign rfl ?_
  refine v_nil ?_
  refine q_bn ?_
  refine q_n ?_
  refine w_reg rfl ?_
  refine v_add lay3 rfl rfl (i64r (by omega)) ?_
  refine v_move rfl ?_
  refine v_nil ?_
  refine q_n ?_
  have hWP : wvp ps ts m n (j + 1) = (ps[j + 1].1, ps[j + 1].2.1, ((gG ps ts m n (j + 1) + ts[j] - fix (fun x => x = true) (grL ps[j + 1].1 ps[j + 1].2.1 ps[j + 1].2.2 m n ps[j + 1].2.2)).tmod n + n).tmod n) := by unfold wvp; rw [pa_at hi1]; exact congrArg (fun z => ((ps[j + 1].1, ps[j + 1].2.1, z) : Pln)) hwo.symm
  have hA2 : (⟨prf 1 ((List.range (j + 1)).map (wvp ps ts m n)), 28, false⟩ :: pkd ((List.range (j + 1)).map (wvp ps ts m n)) : List Ob).length = (j + 1 + 1) := by simp [kids_len]
  refine ⟨_, _, _, ?_, ⟨j + 1 + 1, rfl, by omega, rfl, rfl⟩, by omega⟩
  rw [List.append_nil (rowO _), range_step (wvp ps ts m n) (j + 1), hWP]
  exact turn (some ((j + 1 + 1) + 4) :: (ids 1 (j + 1) ++ [some ((j + 1 + 1) + 1)])) (nodup_grow (by omega) (by omega)) rfl (lt_grow (by rw [pre_len (m := 5) hA2 rfl]; omega) (by rw [pre_len (m := 5) hA2 rfl]; omega) (by rw [pre_len (m := 5) hA2 rfl]; omega)) (turn_grow stc_sc (fun _ => rfl) (by simp) (pre_at hA2 rfl) rfl (fun q hq => by rw [List.getElem?_append_left (by rw [List.length_cons, kids_len]; omega), Nat.add_comm 1 q, List.getElem?_cons_succ]; exact kids_at hq) (pre_at hA2 rfl)) ⟨tr_sl, tr_v, tr_mun rfl rfl, tr_i (by rw [hwo, ← hbu, ← pa_at hi1]; rfl), tr_sl, tr_v, tr_v, trivial⟩
end Go.VL
namespace Go.VL
open Go.RowKit
set_option maxRecDepth 20000
set_option maxHeartbeats 8000000
theorem row_len {ps : List Pln} : (rowO ps).length = ps.length + 1 := by simp [kids_len]
theorem row_dn (ps : List Pln) {n : Nat} (hn : n = ps.length) : Dn false (rowO ps) (fun _ => True) (.mu 0 0 n 3) (.sl false n 3 (flat plc ps)) :=
  dn_mu (t := 28) rfl trivial (by rw [refs_len (K := 3) (fun _ => rfl), hn]) (dnl_refs (tt := 82) stc_sc stc_len (fun _ => rfl) fun i hi => ⟨by rw [Nat.add_comm 1 i, List.getElem?_cons_succ]; exact kids_at hi, trivial⟩)
theorem refs_all {P : C → Bool} {α β : Type} {kid : α → List β} {k : Nat} {rest : α → List C} : ∀ {xs : List α} {N : Nat}, (∀ i, i < xs.length → ∀ n, P (.mu (N + i) 0 n k) = true) → (∀ x, (rest x).all P = true) → ∀ c ∈ refs kid k rest N xs, P c = true
  | [], _, _, _, c, hc => by cases hc
  | x :: r, N, h, hr, c, hc => by
    simp only [refs, List.mem_append, List.mem_cons] at hc
    rcases hc with (rfl | hc) | hc
    · exact h 0 (by simp) _
    · exact List.all_eq_true.1 (hr x) c hc
    · refine refs_all (N := N + 1) (fun i hi n => ?_) hr c hc
      have := h (i + 1) (by simpa using hi) n
      rwa [show N + (i + 1) = N + 1 + i by omega] at this
theorem row_ans (ps : List Pln) : ∀ o ∈ rowO ps, ∀ c ∈ o.cs, ansC c = true := fun o ho c hc => by
  rcases List.mem_cons.1 ho with rfl | ho
  · exact refs_all (P := ansC) (fun _ _ _ => rfl) (fun _ => rfl) c hc
  · obtain ⟨p, -, rfl⟩ := List.mem_map.1 ho
    exact ans_sc (sc_flat stc_sc _) c hc
theorem row_live (ps : List Pln) : ∀ o ∈ rowO ps, o.live = true := fun o ho => by
  rcases List.mem_cons.1 ho with rfl | ho
  · rfl
  · obtain ⟨p, -, rfl⟩ := List.mem_map.1 ho
    rfl
theorem cl_sc {n : Nat} {c : C} (h : sc c = true) : clC n c = true := by cases c <;> first | rfl | cases h
theorem row_cl (ps : List Pln) {n : Nat} (hn : ps.length < n) : ∀ o ∈ rowO ps, ∀ c ∈ o.cs, clC n c = true := fun o ho c hc => by
  rcases List.mem_cons.1 ho with rfl | ho
  · exact refs_all (P := clC n) (fun i hi m => by simp only [clC, decide_eq_true_eq]; omega) (fun _ => rfl) c hc
  · obtain ⟨p, -, rfl⟩ := List.mem_map.1 ho
    exact cl_sc (sc_flat stc_sc _ c hc)
abbrev tsO (ts : List Int) : List Ob := [⟨flat int ts, 2, true⟩]
theorem ts_dn (ts : List Int) {n : Nat} (hn : n = ts.length) : Dn false (tsO ts) (fun _ => True) (.mu 0 0 n 1) (.sl false n 1 (flat int ts)) := dn_flat int_sc int_len rfl trivial hn
theorem ts_ans (ts : List Int) : ∀ o ∈ tsO ts, ∀ c ∈ o.cs, ansC c = true := fun o ho c hc => by
  rcases List.mem_cons.1 ho with rfl | ho
  · exact ans_sc (sc_flat int_sc _) c hc
  · cases ho
theorem ts_live (ts : List Int) : ∀ o ∈ tsO ts, o.live = true := fun o ho => by
  rcases List.mem_cons.1 ho with rfl | ho
  · rfl
  · cases ho
theorem ts_cl (ts : List Int) {n : Nat} : ∀ o ∈ tsO ts, ∀ c ∈ o.cs, clC n c = true := fun o ho c hc => by
  rcases List.mem_cons.1 ho with rfl | ho
  · exact cl_sc (sc_flat int_sc _ c hc)
  · cases ho
abbrev imk (a : Int) (ts : List Int) : List Int := (List.range ts.length).map (imark a)
theorem szPS_le {ps : List Pln} {l : Int} (hl : 0 ≤ l ∧ l ≤ 2 ^ 20) (h : ¬ szPS ps l < 0) : ps.length ≤ 2 ^ 20 ∧ ∀ p ∈ ps, p.1.length ≤ 2 ^ 20 := by
  unfold szPS at h
  split at h
  · omega
  · exact ⟨by omega, (szF_le (ps := ps) (l := l - ps.length) (by omega) (by omega)).1⟩
/-- What a wave is, whatever the row: both sides answer so. -/
theorem wave_ex (ps : List Pln) (ts : List Int) (m : Int) (hP : ∀ p ∈ ps, p.1.length ≤ 2 ^ 20) (hx : ps.length ≤ 2 ^ 20) (ht : ts.length ≤ 2 ^ 20) : ∃ (gs : List Pln) (cd : Int), (gs.length ≤ 2 ^ 20 ∧ ∀ p ∈ gs, p.1.length ≤ 2 ^ 20)
    ∧ LiveC X 17 [.c (pls false ps), .c (ints false ts), cI m] (.tup [.c (.mu 0 0 gs.length 3), cI cd]) (rowO gs) ∧ PureC X 17 [.c (pls false ps), .c (ints false ts), cI m] (.tup [.c (pls true gs), cI cd]) ∧ PureC X 14 [.c (pls false ps), .c (ints false ts), cI m] (.tup [.c (pls true gs), cI cd]) := by
  have hP' : ∀ p ∈ ps, p.1.length ≤ 2 ^ 40 := fun p hp => by have := hP p hp; omega
  by_cases hc : wcR ps ts m = 0
  · obtain ⟨m', n, rfl, hW⟩ := okW_of hc
    have hl : (wvL ps ts m' n).length = ps.length := wvL_len
    refine ⟨wvL ps ts m' n, 0, ⟨by omega, fun p hp => ?_⟩, ?_, ?_, ?_⟩
    · obtain ⟨i, hi, rfl⟩ := List.mem_map.1 hp
      have hi := List.mem_range.1 hi
      have := hP _ (List.getElem_mem hi)
      simp only [wvp]
      rw [pa_at hi]
      exact this
    · have h := c17l ps ts m' n hW
      rw [← hl] at h
      exact h
    · have h := c17w ps ts m' n hW
      rw [← hl] at h
      exact h
    · have h := c14w ps ts m' n hW
      rw [← hl] at h
      exact h
  · have h1 := c17n ps ts m hP' (by omega) (by omega) hc
    have h2 := c14n ps ts m hP' (by omega) (by omega) hc
    refine ⟨[], wcR ps ts m, ⟨by simp, fun p hp => by cases hp⟩, h1, ?_, ?_⟩
    · exact h1.pure (a_tup (.cons (a_flatz (xs := []) plc_sc plc_len rfl rfl rfl rfl) (.cons tr_v .nil)))
    · exact h2.pure (a_tup (.cons (a_flatz (xs := []) plc_sc plc_len rfl rfl rfl rfl) (.cons tr_v .nil)))
theorem c21 (xs : List Int) (a : Int) (hx : xs.length ≤ 2 ^ 40) (ha : 0 ≤ a ∧ a ≤ 2 ^ 50) : MarkC X 21 xs.length 1 2 (flat int xs) (.int .i64 a) (.int .i64 (a + xs.length)) (flat int ((List.range xs.length).map (imark a))) := by
  refine MarkC.of_body (drawD_ok X) (fun _ _ => Go.Proofs.Try.call21 _ _) Go.Proofs.Try.func21 rfl (sc_flat int_sc _) (q := 19) rfl ?_
  refine w_seq ?_
  refine w_reg rfl ?_
  refine v_assign (c := .v (.int .i64 0)) rfl ?_
  refine v_nil ?_
  refine q_n ?_
  refine w_seq ?_
  refine w_seq ?_
  refine w_reg rfl ?_
  refine v_assign (c := .v (.int .i64 0)) rfl ?_
  refine v_nil ?_
  refine q_n ?_
  refine w_block ?_
  refine w_loop (fun k sl H => ∃ i : Nat, k = xs.length - i ∧ i ≤ xs.length ∧ sl = sls [(0, .c (.mu 0 0 xs.length 1)), (1, cI (a + i)), (5, cI i)] ∧ H = [⟨flat int (marks (imark a) i xs), 2, true⟩]) ?_ ?_
  · refine ⟨_, _, _, ?_, 0, rfl, Nat.zero_le _, rfl, rfl⟩
    exact turn [some 0] rfl rfl rfl ⟨⟨_, rfl, trc_flat int_sc rfl⟩, trivial⟩ ⟨tr_mu rfl, tr_i (by simp), tr_v, trivial⟩
  rintro k sl H ⟨i, rfl, hi, rfl, rfl⟩
  refine w_seq ?_
  refine w_seq ?_
  refine w_reg rfl ?_
  refine v_move rfl ?_
  refine v_move rfl ?_
  refine v_len_mu lay36 rfl ?_
  refine v_lss lay3 rfl rfl (fun h1 => ?_) (fun h1 => ?_)
  rotate_left
  · refine v_nil ?_
    refine q_n ?_
    refine w_f rfl ?_
    refine w_exit ?_
    refine q_e ?_
    refine q_e ?_
    refine q_hit ?_
    refine q_n ?_
    refine w_seq ?_
    refine w_reg rfl ?_
    refine v_move rfl ?_
    refine v_assign rfl ?_
    refine v_nil ?_
    refine q_n ?_
    refine w_ret ?_
    refine r_r rfl ?_
    obtain rfl : i = xs.length := by omega
    exact ⟨rfl, [], by rw [← marks_all]⟩
  have hi1 : i < xs.length := by omega
  refine v_nil ?_
  refine q_n ?_
  refine w_t rfl ?_
  refine w_skip ?_
  refine q_n ?_
  refine w_seq ?_
  refine w_block ?_
  refine w_seq ?_
  refine w_reg rfl ?_
  refine v_move rfl ?_
  refine v_move rfl ?_
  refine v_move rfl ?_
  refine v_idx_mu_e (k := 1) (off := 0) (i) lay36 lay2 rfl rfl rfl (rfl) (by omega) ?_
  refine v_store_flat (H' := [_]) i 0 ((a + i)) int_len lay2 rfl rfl rfl (by omega) (by rw [marks_len (by omega)]; omega) rfl rfl (rfl) rfl ?_
  refine v_nil ?_
  refine q_n ?_
  refine w_reg rfl ?_
  refine v_move rfl ?_
  refine v_add lay3 rfl rfl (i64r (by omega)) ?_
  refine v_assign rfl ?_
  refine v_nil ?_
  refine q_bn ?_
  refine q_n ?_
  refine w_reg rfl ?_
  refine v_move rfl ?_
  refine v_add lay3 rfl rfl (i64r (by omega)) ?_
  refine v_assign rfl ?_
  refine v_nil ?_
  refine q_n ?_
  refine ⟨_, _, _, ?_, ⟨i + 1, rfl, by omega, rfl, rfl⟩, by omega⟩
  exact turn [some 0] rfl rfl rfl ⟨⟨_, rfl, trc_flat int_sc (congrArg (flat int) (imark_step (by omega)))⟩, trivial⟩ ⟨tr_mu rfl, tr_i (by push_cast; omega), tr_v, trivial⟩
theorem c4 (ps : List Pln) (ts : List Int) (m : Int) (hx : ps.length ≤ maxLen) (hM : ∀ p ∈ ps, p.1.length ≤ maxLen) : PureC X 4 [.c (pls false ps), .c (ints false ts), cI m] (cB true) := by
  refine PureC.of_body (drawD_ok X) (fun _ _ => Go.Proofs.Try.call4 _ _) Go.Proofs.Try.func4 rfl (n := 122) rfl ?_
  refine w_seq ?_
  refine w_reg rfl ?_
  refine v_assign (c := .v (.bool false)) rfl ?_
  refine v_nil ?_
  refine q_n ?_
  refine w_seq ?_
  refine w_seq ?_
  refine w_reg rfl ?_
  refine v_move rfl ?_
  refine v_len_sl lay36 rfl ?_
  refine v_gtr lay3 rfl rfl (fun h1 => ?_) (fun h1 => ?_)
  · refine v_nil ?_
    refine q_n ?_
    refine w_t rfl ?_
    refine w_seq ?_
    refine w_reg rfl ?_
    refine v_assign (c := .v (.bool true)) rfl ?_
    refine v_nil ?_
    refine q_n ?_
    refine w_ret (q_r ?_)
    refine r_r rfl ?_
    exact tr_v
  refine v_nil ?_
  refine q_n ?_
  refine w_f rfl ?_
  refine w_skip ?_
  refine q_n ?_
  refine w_seq ?_
  refine w_reg rfl ?_
  refine v_assign (c := .v (.int .i64 1048576)) rfl ?_
  refine v_nil ?_
  refine q_n ?_
  refine w_seq ?_
  refine w_reg rfl ?_
  refine v_move rfl ?_
  refine v_move rfl ?_
  refine v_call (c13 ps 1048576 (by omega) hx hM) rfl rfl rfl (.cons vw_sl (.cons vw_v .nil)) ?_
  refine v_assign rfl ?_
  refine v_nil ?_
  refine q_n ?_
  refine w_seq ?_
  refine w_seq ?_
  refine w_reg rfl ?_
  refine v_move rfl ?_
  refine v_lss lay3 rfl rfl (fun h2 => ?_) (fun h2 => ?_)
  · refine v_nil ?_
    refine q_n ?_
    refine w_t rfl ?_
    refine w_seq ?_
    refine w_reg rfl ?_
    refine v_assign (c := .v (.bool true)) rfl ?_
    refine v_nil ?_
    refine q_n ?_
    refine w_ret (q_r ?_)
    refine r_r rfl ?_
    exact tr_v
  obtain ⟨hx2, hP⟩ := szPS_le (by omega) h2
  obtain ⟨gs, cd, ⟨hg, hG⟩, h17, h17p, h14⟩ := wave_ex ps ts m hP (by omega) (by omega)
  have a1 := pmA_rng (a := 1) hP (i := ps.length) (by omega)
  have a2 := pmA_rng (a := 1) hG (i := gs.length) (by omega)
  refine v_nil ?_
  refine q_n ?_
  refine w_f rfl ?_
  refine w_skip ?_
  refine q_n ?_
  refine w_seq ?_
  refine w_reg rfl ?_
  refine v_move rfl ?_
  refine v_call (c15 ps (by omega) (fun p hp => by have := hP p hp; omega)) rfl rfl rfl (.cons vw_sl .nil) ?_
  refine v_move rfl ?_
  refine v_call (c16 ts (by omega)) rfl rfl rfl (.cons vw_sl .nil) ?_
  refine v_move rfl ?_
  refine v_call (h14) rfl rfl rfl (.cons vw_sl (.cons vw_sl (.cons vw_v .nil))) ?_
  refine v_move_t rfl ?_
  refine v_extract_c rfl rfl ?_
  refine v_extract_c rfl rfl ?_
  refine v_assign rfl ?_
  refine v_assign rfl ?_
  refine v_nil ?_
  refine q_n ?_
  refine w_seq ?_
  refine w_reg rfl ?_
  refine v_move rfl ?_
  refine vg_live (segs := []) (segs' := [rowO ps]) (N := 0) (c15l ps (by omega) (fun p hp => by have := hP p hp; omega)) (rfl) rfl (row_ans ps) rfl rfl rfl rfl (.cons vw_sl .nil) ?_
  refine v_assign rfl ?_
  refine v_nil ?_
  refine q_n ?_
  refine w_seq ?_
  refine w_reg rfl ?_
  refine v_move rfl ?_
  refine vg_live (segs := [rowO ps]) (segs' := [rowO ps, tsO ts]) (N := ps.length + 1) (c16l ts (by omega)) (by simp [offs, kids_len, pmk_len]) rfl (ts_ans ts) rfl rfl rfl rfl (.cons vw_sl .nil) ?_
  refine v_assign rfl ?_
  refine v_nil ?_
  refine q_n ?_
  refine w_seq ?_
  refine w_reg rfl ?_
  refine v_move rfl ?_
  refine v_move rfl ?_
  refine v_move rfl ?_
  refine vg_live (segs := [rowO ps, tsO ts]) (segs' := [rowO ps, tsO ts, rowO gs]) (N := ps.length + 2) (h17) (by simp [offs, kids_len, pmk_len]) rfl (row_ans gs) rfl rfl rfl rfl (.cons (vg 0 rfl (rfl) (row_dn ps rfl) rfl) (.cons (vg 1 rfl (by simp [offs, kids_len, pmk_len]) (ts_dn ts rfl) rfl) (.cons vw_v .nil))) ?_
  refine v_move_t rfl ?_
  refine v_extract_c rfl rfl ?_
  refine v_extract_c rfl rfl ?_
  refine v_assign rfl ?_
  refine v_assign rfl ?_
  refine v_nil ?_
  refine q_n ?_
  refine w_seq ?_
  refine w_seq ?_
  refine w_reg rfl ?_
  refine v_move rfl ?_
  refine v_move rfl ?_
  refine v_callb (c18 gs gs (fun p hp => by have := hG p hp; omega) (by omega)) rfl rfl (.cons (vg 2 rfl (by simp [offs, kids_len, pmk_len]) (row_dn gs rfl) rfl) (.cons vw_sl .nil)) (fun h3 => ?_) (fun h3 => ?_)
  rotate_left
  · exact absurd rfl h3
  refine v_not false rfl rfl ?_
  refine v_move rfl ?_
  refine v_guard_on rfl rfl ?_
  refine v_move rfl ?_
  refine v_guard_on rfl rfl ?_
  refine v_move rfl ?_
  refine v_guard_on rfl rfl ?_
  refine v_neq lay2 rfl rfl (fun h4 => ?_) (fun h4 => ?_)
  · exact absurd rfl h4
  refine v_pick_f rfl rfl ?_
  refine v_nil ?_
  refine q_n ?_
  refine w_f rfl ?_
  refine w_skip ?_
  refine q_n ?_
  refine w_seq ?_
  refine w_seq ?_
  refine w_reg rfl ?_
  refine v_move rfl ?_
  refine v_move rfl ?_
  refine v_call (c15 ps (by omega) (fun p hp => by have := hP p hp; omega)) rfl rfl rfl (.cons vw_sl .nil) ?_
  refine v_callb (c18 ps ps (fun p hp => by have := hP p hp; omega) (by omega)) rfl rfl (.cons (vg 0 rfl (rfl) (row_dn ps rfl) rfl) (.cons vw_sl .nil)) (fun h5 => ?_) (fun h5 => ?_)
  rotate_left
  · exact absurd rfl h5
  refine v_not false rfl rfl ?_
  refine v_nil ?_
  refine q_n ?_
  refine w_f rfl ?_
  refine w_skip ?_
  refine q_n ?_
  refine w_seq ?_
  refine w_seq ?_
  refine w_reg rfl ?_
  refine v_move rfl ?_
  refine v_move rfl ?_
  refine v_call (c16 ts (by omega)) rfl rfl rfl (.cons vw_sl .nil) ?_
  refine v_callb (c19 ts ts (by omega)) rfl rfl (.cons (vg 1 rfl (by simp [offs, kids_len, pmk_len]) (ts_dn ts rfl) rfl) (.cons vw_sl .nil)) (fun h6 => ?_) (fun h6 => ?_)
  rotate_left
  · exact absurd rfl h6
  refine v_not false rfl rfl ?_
  refine v_nil ?_
  refine q_n ?_
  refine w_f rfl ?_
  refine w_skip ?_
  refine q_n ?_
  refine w_seq ?_
  refine w_reg rfl ?_
  refine v_assign (c := .v (.int .i64 1)) rfl ?_
  refine v_nil ?_
  refine q_n ?_
  refine w_seq ?_
  refine w_reg rfl ?_
  refine v_move rfl ?_
  refine v_move rfl ?_
  refine vg_det (segs := [rowO ps, tsO ts, rowO gs]) (segs' := [rowO (pmk 1 ps), tsO ts, rowO gs]) (N := 0) (args0 := [.c (.mu 0 0 ps.length 3), cI 1]) 0 (c20 ps 1 (by omega) hP (by omega)) rfl (rfl) (by simp [kids_len, pmk_len]) (row_live ps) (row_cl ps (by rw [row_len]; omega)) (row_cl _ (by rw [row_len, pmk_len]; omega)) (by simp [clV1, clC]) rfl rfl rfl rfl rfl ?_
  refine v_assign rfl ?_
  refine v_nil ?_
  refine q_n ?_
  refine w_seq ?_
  refine w_reg rfl ?_
  refine v_move rfl ?_
  refine v_move rfl ?_
  refine vg_det (segs := [rowO (pmk 1 ps), tsO ts, rowO gs]) (segs' := [rowO (pmk 1 ps), tsO (imk (pmA 1 ps ps.length) ts), rowO gs]) (N := ps.length + 1) (args0 := [.c (.mu 0 0 ts.length 1), cI (pmA 1 ps ps.length)]) 1 (c21 ts (pmA 1 ps ps.length) (by omega) (by omega)) rfl (by simp [offs, kids_len, pmk_len]) (rfl) (ts_live ts) (ts_cl ts) (ts_cl _) (by simp [clV1, clC]) rfl rfl rfl rfl rfl ?_
  refine v_assign rfl ?_
  refine v_nil ?_
  refine q_n ?_
  refine w_seq ?_
  refine w_seq ?_
  refine w_reg rfl ?_
  refine v_move rfl ?_
  refine v_lss lay3 rfl rfl (fun h7 => ?_) (fun h7 => ?_)
  · exact absurd h7 (by omega)
  refine v_move rfl ?_
  refine v_guard_on rfl rfl ?_
  refine v_move rfl ?_
  refine v_guard_on rfl rfl ?_
  refine v_move rfl ?_
  refine v_guard_on rfl rfl ?_
  refine v_callb (c18 gs gs (fun p hp => by have := hG p hp; omega) (by omega)) rfl rfl (.cons (vg 2 rfl (by simp [offs, kids_len, pmk_len]) (row_dn gs rfl) rfl) (.cons vw_sl .nil)) (fun h8 => ?_) (fun h8 => ?_)
  rotate_left
  · exact absurd rfl h8
  refine v_guard_on rfl rfl ?_
  refine v_not false rfl rfl ?_
  refine v_pick_f rfl rfl ?_
  refine v_move rfl ?_
  refine v_guard_on rfl rfl ?_
  refine v_move rfl ?_
  refine v_guard_on rfl rfl ?_
  refine v_move rfl ?_
  refine v_guard_on rfl rfl ?_
  refine v_neq lay2 rfl rfl (fun h9 => ?_) (fun h9 => ?_)
  · exact absurd rfl h9
  refine v_pick_f rfl rfl ?_
  refine v_nil ?_
  refine q_n ?_
  refine w_f rfl ?_
  refine w_skip ?_
  refine q_n ?_
  refine w_seq ?_
  refine w_reg rfl ?_
  refine v_assign (c := .v (.int .i64 1)) rfl ?_
  refine v_nil ?_
  refine q_n ?_
  refine w_seq ?_
  refine w_reg rfl ?_
  refine v_move rfl ?_
  refine v_move rfl ?_
  refine vg_det (segs := [rowO (pmk 1 ps), tsO (imk (pmA 1 ps ps.length) ts), rowO gs]) (segs' := [rowO (pmk 1 ps), tsO (imk (pmA 1 ps ps.length) ts), rowO (pmk 1 gs)]) (N := ps.length + 2) (args0 := [.c (.mu 0 0 gs.length 3), cI 1]) 2 (c20 gs 1 (by omega) hG (by omega)) rfl (by simp [offs, kids_len, pmk_len]) (by simp [kids_len, pmk_len]) (row_live gs) (row_cl gs (by rw [row_len]; omega)) (row_cl _ (by rw [row_len, pmk_len]; omega)) (by simp [clV1, clC]) rfl rfl rfl rfl rfl ?_
  refine v_assign rfl ?_
  refine v_nil ?_
  refine q_n ?_
  refine w_seq ?_
  refine w_reg rfl ?_
  refine v_assign (c := .v (.int .i64 1)) rfl ?_
  refine v_nil ?_
  refine q_n ?_
  refine w_seq ?_
  refine w_reg rfl ?_
  refine v_move rfl ?_
  refine v_move rfl ?_
  refine v_call (c22 gs 1 (by omega) hG (by omega)) rfl rfl rfl (.cons (vg 2 rfl (by simp [offs, kids_len, pmk_len]) (row_dn (pmk 1 gs) pmk_len.symm) rfl) (.cons vw_v .nil)) ?_
  refine v_assign rfl ?_
  refine v_nil ?_
  refine q_n ?_
  refine w_seq ?_
  refine w_seq ?_
  refine w_reg rfl ?_
  refine v_move rfl ?_
  refine v_lss lay3 rfl rfl (fun h10 => ?_) (fun h10 => ?_)
  · exact absurd h10 (by omega)
  refine v_nil ?_
  refine q_n ?_
  refine w_f rfl ?_
  refine w_skip ?_
  refine q_n ?_
  refine w_seq ?_
  refine w_seq ?_
  refine w_reg rfl ?_
  refine v_move rfl ?_
  refine v_move rfl ?_
  refine v_neq lay3 rfl rfl (fun h11 => ?_) (fun h11 => ?_)
  · exact absurd rfl h11
  refine v_nil ?_
  refine q_n ?_
  refine w_f rfl ?_
  refine w_skip ?_
  refine q_n ?_
  refine w_seq ?_
  refine w_reg rfl ?_
  refine v_move rfl ?_
  refine v_call (c15 ps (by omega) (fun p hp => by have := hP p hp; omega)) rfl rfl rfl (.cons vw_sl .nil) ?_
  refine v_move rfl ?_
  refine v_call (c16 ts (by omega)) rfl rfl rfl (.cons vw_sl .nil) ?_
  refine v_move rfl ?_
  refine v_call (h17p) rfl rfl rfl (.cons vw_sl (.cons vw_sl (.cons vw_v .nil))) ?_
  refine v_move_t rfl ?_
  refine v_extract_c rfl rfl ?_
  refine v_extract_c rfl rfl ?_
  refine v_assign rfl ?_
  refine v_assign rfl ?_
  refine v_nil ?_
  refine q_n ?_
  refine w_seq ?_
  refine w_seq ?_
  refine w_reg rfl ?_
  refine v_move rfl ?_
  refine v_move rfl ?_
  refine v_callb (c18 gs gs (fun p hp => by have := hG p hp; omega) (by omega)) rfl rfl (.cons vw_sl (.cons vw_sl .nil)) (fun h12 => ?_) (fun h12 => ?_)
  rotate_left
  · exact absurd rfl h12
  refine v_not false rfl rfl ?_
  refine v_move rfl ?_
  refine v_guard_on rfl rfl ?_
  refine v_move rfl ?_
  refine v_guard_on rfl rfl ?_
  refine v_move rfl ?_
  refine v_guard_on rfl rfl ?_
  refine v_neq lay2 rfl rfl (fun h13 => ?_) (fun h13 => ?_)
  · exact absurd rfl h13
  refine v_pick_f rfl rfl ?_
  refine v_nil ?_
  refine q_n ?_
  refine w_f rfl ?_
  refine w_skip ?_
  refine q_n ?_
  refine w_seq ?_
  refine w_reg rfl ?_
  refine v_assign (c := .v (.int .i64 1)) rfl ?_
  refine v_nil ?_
  refine q_n ?_
  refine w_seq ?_
  refine w_reg rfl ?_
  refine v_move rfl ?_
  refine v_move rfl ?_
  refine v_call (c22 gs 1 (by omega) hG (by omega)) rfl rfl rfl (.cons (vg 2 rfl (by simp [offs, kids_len, pmk_len]) (row_dn (pmk 1 gs) pmk_len.symm) rfl) (.cons vw_v .nil)) ?_
  refine v_assign rfl ?_
  refine v_nil ?_
  refine q_n ?_
  refine w_seq ?_
  refine w_seq ?_
  refine w_reg rfl ?_
  refine v_move rfl ?_
  refine v_lss lay3 rfl rfl (fun h14 => ?_) (fun h14 => ?_)
  · exact absurd h14 (by omega)
  refine v_nil ?_
  refine q_n ?_
  refine w_f rfl ?_
  refine w_skip ?_
  refine q_n ?_
  refine w_seq ?_
  refine w_seq ?_
  refine w_reg rfl ?_
  refine v_move rfl ?_
  refine v_move rfl ?_
  refine v_neq lay3 rfl rfl (fun h15 => ?_) (fun h15 => ?_)
  · exact absurd rfl h15
  refine v_nil ?_
  refine q_n ?_
  refine w_f rfl ?_
  refine w_skip ?_
  refine q_n ?_
  refine w_seq ?_
  refine w_reg rfl ?_
  refine v_assign (c := .v (.bool true)) rfl ?_
  refine v_nil ?_
  refine q_n ?_
  refine w_ret ?_
  refine r_r rfl ?_
  exact tr_v
end Go.VL
namespace Go.Proofs.Ythamafbbdaembaa
namespace B0
open Go.RowKit Go.WideShapes Go.ChangeShapes Go.ChangeAt
section
variable {H : Type} {enc : TypeId × Value → H} {P : Program}

theorem post_of_below {f : Func} {s : ChangeSpec} {apart fresh handsOn again : Bool} {W W' : World} {args : Array Value} {v : Value} {ds gs : List (DataW H)} {before pa pv : List MemPlace}
    (hW : DataW.Whole enc P f.params.toList s.vars apart W args.toList ds gs before)
    (hres : ∀ (b : Nat) (sp : Nat → Bool) (hd : Bool), DataW.TrodAll enc P W' b sp hd f.resultTypes.toList (v.resultList f.resultTypes.size) (s.fn H (ds ++ gs)).results [])
    (hargs : ∀ sp : Nat → Bool, (∀ p ∈ before, sp p.block = true) → DataW.TrodAll enc P W' 0 sp true f.params.toList args.toList (s.fn H (ds ++ gs)).args pa)
    (hvars : ∀ sp : Nat → Bool, (∀ p ∈ before, sp p.block = true) → DataW.TrodVars enc P W' sp s.vars (s.fn H (ds ++ gs)).vars pv)
    (hps : before = pa ++ pv) (hb : Below W.heap.size W W')
    (hok : ∀ (j : Nat) (t : TypeId) (r : Value), f.resultTypes[j]? = some t → (v.resultList f.resultTypes.size)[j]? = some r → Value.okWide P W' .any 0 t r) :
    s.post enc P f apart fresh handsOn again W args v W' := by
  have hlt : ∀ p ∈ before, p.block < W.heap.size := fun p hp => hW.lt p hp
  have hold : ∀ p ∈ before, (fun b => decide (b < W.heap.size)) p.block = true := fun p hp => by simpa using hlt p hp
  refine ⟨ds, gs, before, [], pa, pv, hW, hres _ _ _, hargs _ hold, hvars _ hold, World.keptBut_mono (fun p hp => ⟨hp, ?_⟩) (hb.frame (· ∈ before)), fun _ => ?_⟩
  · rw [hps, List.mem_append] at hp
    exact Or.inr hp
  · obtain ⟨_, _, _, _, _, hz, hn⟩ := hW
    refine ⟨hok, _, _, ([] ++ pa) ++ pv, ⟨[] ++ pa, pv, trodAll_append (hargs _ (fun _ _ => rfl)) (hres _ _ _), hvars _ (fun _ _ => rfl), rfl, ?_, ?_⟩, ?_⟩
    · intro b off hp
      have hin : MemPlace.cell b off ∈ before := by rw [hps]; simpa using hp
      rw [hb.frozen (hlt _ hin)]
      exact hz b off hin
    · intro ha
      have := hn ha
      rw [hps] at this
      simpa using this
    · intro p hp _
      rw [hps]
      simpa using hp

theorem trodAll_stays (hl : laidOutB P = true) {W W' : World} {sp' : Nat → Bool} : ∀ {ts : List TypeId} {vs : List Value} {ds : List (DataW H)} {ps : List MemPlace},
    (∀ t ∈ ts, P.readableRec t = true ∧ t < P.types.size) → DataW.TrodAll enc P W 0 (fun _ => true) true ts vs ds ps → (∀ p ∈ ps, W.sameAt W' p) → (∀ p ∈ ps, sp' p.block = true) →
    DataW.TrodAll enc P W' 0 sp' true ts vs ds ps
  | [], vs, ds, ps, _, h, _, _ => by
    obtain ⟨rfl, rfl, rfl⟩ := trodAll_nil h
    exact rfl
  | t :: ts, vs, ds, ps, ht, h, hsame, hsp => by
    obtain ⟨v, vs', d, ds', p, q, rfl, rfl, rfl, h0, h1⟩ := trodAll_cons h
    exact ⟨p, q, Go.WideElems.Trod_stays hl (ht t (by simp)).1 (ht t (by simp)).2 h0 (fun x hx => hsame x (by simp [hx])) (fun x hx => hsp x (by simp [hx])),
      trodAll_stays hl (fun u hu => ht u (by simp [hu])) h1 (fun x hx => hsame x (by simp [hx])) (fun x hx => hsp x (by simp [hx])), rfl⟩

/-- A law: whatever the arguments, the call returns true and turns nothing that was there. -/
theorem lift {C : Checked} {os : Os} {f : FuncId} {fn : Func} {s : ChangeSpec} {conds : List PathCond} {tb : TypeId}
    (own : ownKnob C.prog.godebug = none) (started : os.Started) (noInit : C.prog.inits.idxOf? f = none) (hfn : C.prog.funcs[f]? = some fn)
    (witness : ∃ (w : World) (tape : Tape) (i : Input), w.os = os ∧ (w.forCall tape i).Shaped C.prog ∧ i.vars = [] ∧ Input.okWide C.prog (w.forCall tape i) .any w.heap.size f i ∧
      s.pre6 enc C.prog fn conds false (w.forCall tape i).memory i.args ∧ ({} : Assume).holds C.prog (lone (Frame.enter C.prog f i.args .normal) [] (w.forCall tape i)))
    (hl : laidOutB C.prog = true) (hp : (fn.params.toList.all fun t => C.prog.readableRec t && decide (t < C.prog.types.size)) = true)
    (hv : s.vars = []) (hr : fn.resultTypes = #[tb]) (htb : C.prog.underlying tb = some .bool)
    (hs : ∀ ds : List (DataW H), ds.length = fn.params.toList.length → s.fn H ds = { results := [.lit (.bool true)], args := ds })
    (contract : ∀ (W : World) (base : Nat) (args : Array Value) (ds : List (DataW H)) (p : List MemPlace),
      (∀ (j : Nat) t v, fn.params[j]? = some t → args[j]? = some v → Value.okWide C.prog W .any base t v) →
      DataW.TrodAll enc C.prog W 0 (fun _ => true) true fn.params.toList args.toList ds p →
      Calls C.prog f args W fun e W' => e = .returned (.bool true) ∧ Below W.heap.size W W') :
    ReturnsInHanded {} C os f .any (s.pre6 enc C.prog fn conds false) (s.post enc C.prog fn false true false false) := by
  refine returnsInHanded_of_change own started noInit hfn witness ?_
  intro W base args ds gs before hval hW _ _
  have hW' := hW
  obtain ⟨p, q, hA, hV, rfl, hfz, hnd⟩ := hW
  rw [hv] at hV
  obtain ⟨rfl, rfl⟩ := trodVars_none hV
  have hlen : ∀ {ts : List TypeId} {vs : List Value} {ds : List (DataW H)} {ps : List MemPlace}, DataW.TrodAll enc C.prog W 0 (fun _ => true) true ts vs ds ps → ds.length = ts.length := by
    intro ts
    induction ts with
    | nil => intro vs ds ps h; obtain ⟨rfl, rfl, rfl⟩ := trodAll_nil h; rfl
    | cons t ts ih => intro vs ds ps h; obtain ⟨v, vs', d, ds', p, q, rfl, rfl, rfl, h0, h1⟩ := trodAll_cons h; simp [ih h1]
  have hsd : s.fn H (ds ++ []) = { results := [.lit (.bool true)], args := ds } := by rw [List.append_nil]; exact hs ds (hlen hA)
  have hp' : ∀ t ∈ fn.params.toList, C.prog.readableRec t = true ∧ t < C.prog.types.size := fun t ht => by simpa using List.all_eq_true.1 hp t ht
  refine (contract W base args ds p hval hA).mono fun e W' ⟨he, hb⟩ => ?_
  refine ⟨.bool true, he, post_of_below (pa := p) (pv := []) hW' ?_ ?_ ?_ rfl hb ?_⟩
  · intro b sp hd
    rw [hsd, hr]
    exact trodAll_mk1 ⟨1, by simp [DataW.trod, Value.cells, htb]⟩
  · intro sp hsp
    rw [hsd]
    exact trodAll_stays hl hp' hA (fun x hx => hb.same (hW'.lt x (by simp [hx]))) (fun x hx => hsp x (by simp [hx]))
  · intro sp hsp
    rw [hsd, hv]
    exact rfl
  · exact ok_one hr rfl (okWide_bool_mk htb true)
end
end B0
end Go.Proofs.Ythamafbbdaembaa
