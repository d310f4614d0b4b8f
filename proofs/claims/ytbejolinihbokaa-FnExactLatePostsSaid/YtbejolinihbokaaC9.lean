/- Whether all posts follow their newest plans: both walks, and the law's. -/
import Derived.Test.YtbejolinihbokaaC8
import Derived.Test.YtbejolinihbokaaV40
namespace Go.VL
open Go.RowKit
set_option maxRecDepth 20000
set_option maxHeartbeats 8000000
theorem rq46 {x y : Operand} {ty2 : TypeId} {ρ : Operand → V} {a b : Po} (hx : ρ x = .agg (pe a)) (hy : ρ y = .agg (pe b)) : RawQ X (.binOp .neq 46 x y ty2) ρ (cB (decide (¬ a = b))) :=
  rq_neq (X := X) (p := a = b) [(2, 0), (2, 1)] (by kernel_rfl) (by kernel_rfl) (by kernel_rfl) (by kernel_rfl)
    (fun q hq => by
      simp only [List.mem_cons, List.not_mem_nil, or_false] at hq
      rcases hq with rfl | rfl
      · exact ⟨.i64, a.1, b.1, by kernel_rfl, rfl, rfl⟩
      · exact ⟨.i64, a.2, b.2, by kernel_rfl, rfl, rfl⟩)
    ⟨fun h q _ => by rw [h], fun h => by
      have h1 := h (2, 0) (by simp)
      have h2 := h (2, 1) (by simp)
      simp [pe] at h1 h2
      exact Prod.ext h1 h2⟩ hx hy
abbrev agV (r : Bool × Int) : V := .tup [cB r.1, cI r.2]
/-- Whether all posts follow their newest plans. -/
def agR (p : Int) (fs : List Int) (ds : List De) : Bool × Int := if gvR p fs ds ≠ 0 then (false, gvR p fs ds) else (decide ((stB p fs ds ds.length).1.ps = (stB p fs ds ds.length).1.nw), 0)
theorem a_ag {H : List Ob} {r : Bool × Int} {x : Bool} {z : Int} (h : r = (x, z)) : TrV H [] (.tup [cB x, cI z]) (agV r) := by
  subst h
  exact a_tup (.cons tr_v (.cons tr_v .nil))
theorem ag_bad {p : Int} {fs : List Int} {ds : List De} (h : gvR p fs ds ≠ 0) : agR p fs ds = (false, gvR p fs ds) := by
  unfold agR
  rw [if_pos h]
theorem ag_bad2 {p : Int} {fs : List Int} {ds : List De} (h : dcR p fs ds 0 ≠ 0) : agR p fs ds = (false, dcR p fs ds 0) := by
  rw [dc_gv] at h ⊢
  exact ag_bad h
theorem ag_of {p : Int} {fs : List Int} {ds : List De} {q : Bool} (h : gvR p fs ds = 0) (hq : q = decide ((stB p fs ds ds.length).1.ps = (stB p fs ds ds.length).1.nw)) : agR p fs ds = (q, 0) := by
  unfold agR
  rw [h, if_neg (by simp), hq]
theorem take_all_eq {α : Type} {xs ys : List α} {i : Nat} (h : xs.take i = ys.take i) (h1 : i = xs.length) (h2 : ys.length = xs.length) : xs = ys := by
  subst h1
  rwa [List.take_length, ← h2, List.take_length] at h
theorem take_step_eq {α : Type} {xs ys : List α} {i : Nat} (h : xs.take i = ys.take i) (h1 : i < xs.length) (h2 : i < ys.length) (he : xs[i] = ys[i]) : xs.take (i + 1) = ys.take (i + 1) := by
  rw [List.take_succ_eq_append_getElem h1, List.take_succ_eq_append_getElem h2, h, he]
theorem ne_at {α : Type} {xs ys : List α} {i : Nat} (h1 : i < xs.length) (h2 : i < ys.length) (he : ¬ xs[i] = ys[i]) : ¬ xs = ys := by
  rintro rfl
  exact he rfl
theorem c66 (b : Bd) (hl : b.nw.length = b.ps.length) (hb : b.ps.length ≤ 2 ^ 40) : PureC X 66 [.c (.vw false (bdv true b) 0)] (cB (decide (b.ps = b.nw))) := by
  refine PureC.of_body (drawD_ok X) (fun _ _ => Go.Proofs.Try.call66 _ _) Go.Proofs.Try.func66 rfl (n := 31) rfl ?_
  refine w_seq ?_
  refine w_reg rfl ?_
  refine v_assign (c := .v (.bool false)) rfl ?_
  refine v_nil ?_
  refine q_n ?_
  refine w_seq ?_
  refine w_seq ?_
  refine w_reg rfl ?_
  refine v_assign (c := .v (.int .i64 0)) rfl ?_
  refine v_nil ?_
  refine q_n ?_
  refine w_block ?_
  refine w_loop (fun k sl H => ∃ i : Nat, k = b.ps.length - i ∧ i ≤ b.ps.length ∧ b.ps.take i = b.nw.take i ∧ sl = sls [(0, .c (.vw false (bdv true b) 0)), (3, cI i)] ∧ H = []) ?_ ?_
  · refine ⟨_, _, _, ?_, 0, rfl, Nat.zero_le _, rfl, rfl, rfl⟩
    exact turn0 ⟨tr_vw, tr_v, trivial⟩
  · rintro k sl H ⟨i, rfl, hi, hp, rfl, rfl⟩
    refine w_seq ?_
    refine w_seq ?_
    refine w_reg rfl ?_
    refine v_move rfl ?_
    refine v_move rfl ?_
    refine v_nil_vw rfl ?_
    refine v_fa_vw (off' := 1) lay90 rfl rfl rfl ?_
    refine v_fa_vw (off' := 2) lay64 rfl rfl rfl ?_
    refine v_load_vw (.c (_)) lay61 rfl rfl rfl ?_
    refine v_len_sl lay61 rfl ?_
    refine v_lss lay3 rfl rfl (fun h1 => ?_) (fun h1 => ?_)
    · skip
      have i1 : i < b.ps.length := by omega
      have i2 : i < b.nw.length := by omega
      refine v_nil ?_
      refine q_n ?_
      refine w_t rfl ?_
      refine w_skip ?_
      refine q_n ?_
      refine w_seq ?_
      refine w_block ?_
      refine w_seq ?_
      refine w_draw [0, 1, 3, 7, 15, 0, 63, 127, 0, 256, 768, 1792, 3840, 0, 16128, 32512, 65535] [⟨0, 0, []⟩, ⟨1, 0, []⟩, ⟨2, 0, []⟩, ⟨3, 0, []⟩, ⟨4, 0, []⟩, ⟨5, 0, []⟩, ⟨6, 0, []⟩, ⟨7, 0, []⟩, ⟨8, 0, []⟩, ⟨9, 0, []⟩, ⟨10, 0, []⟩, ⟨11, 0, []⟩, ⟨12, 0, []⟩, ⟨13, 0, []⟩, ⟨14, 0, []⟩, ⟨15, 0, []⟩, ⟨16, 0, []⟩] rfl rfl ?_
      refine d_q rfl rfl rfl rfl rfl ?_
      refine v_move rfl ?_
      refine v_nil ?_
      refine d_q rfl rfl rfl rfl rfl ?_
      refine v_nil_vw rfl ?_
      refine v_nil ?_
      refine d_q rfl rfl rfl rfl rfl ?_
      refine v_fa_vw (off' := 1) lay90 rfl rfl rfl ?_
      refine v_nil ?_
      refine d_q rfl rfl rfl rfl rfl ?_
      refine v_fa_vw (off' := 2) lay64 rfl rfl rfl ?_
      refine v_nil ?_
      refine d_q rfl rfl rfl rfl rfl ?_
      refine v_load_vw (.c (_)) lay61 rfl rfl rfl ?_
      refine v_nil ?_
      refine d_q rfl rfl rfl rfl rfl ?_
      refine v_move rfl ?_
      refine v_nil ?_
      refine d_q rfl rfl rfl rfl rfl ?_
      refine v_idx_e (k := 2) (i) pe_len lay61 lay46 rfl rfl rfl (rfl) rfl (rfl) (by omega) ?_
      refine v_nil ?_
      refine d_q rfl rfl rfl rfl rfl ?_
      refine v_load_vw (.agg [.v _, .v _]) lay46 rfl rfl rfl ?_
      refine v_nil ?_
      refine d_q rfl rfl rfl rfl rfl ?_
      refine v_move rfl ?_
      refine v_nil ?_
      refine d_q rfl rfl rfl rfl rfl ?_
      refine v_nil_vw rfl ?_
      refine v_nil ?_
      refine d_q rfl rfl rfl rfl rfl ?_
      refine v_fa_vw (off' := 1) lay90 rfl rfl rfl ?_
      refine v_nil ?_
      refine d_q rfl rfl rfl rfl rfl ?_
      refine v_fa_vw (off' := 1) lay64 rfl rfl rfl ?_
      refine v_nil ?_
      refine d_q rfl rfl rfl rfl rfl ?_
      refine v_load_vw (.c (_)) lay61 rfl rfl rfl ?_
      refine v_nil ?_
      refine d_q rfl rfl rfl rfl rfl ?_
      refine v_move rfl ?_
      refine v_nil ?_
      refine d_q rfl rfl rfl rfl rfl ?_
      refine v_idx_e (k := 2) (i) pe_len lay61 lay46 rfl rfl rfl (rfl) rfl (rfl) (by omega) ?_
      refine v_nil ?_
      refine d_q rfl rfl rfl rfl rfl ?_
      refine v_load_vw (.agg [.v _, .v _]) lay46 rfl rfl rfl ?_
      refine v_nil ?_
      refine d_rawb (rq46 (a := b.ps[i]) (b := b.nw[i]) rfl rfl) rfl rfl rfl rfl rfl (fun h4 => ?_) (fun h4 => ?_)
      · skip
        have hne := h4
        refine d_nil ?_
        refine q_n ?_
        refine w_t rfl ?_
        refine w_seq ?_
        refine w_reg rfl ?_
        refine v_assign (c := .v (.bool false)) rfl ?_
        refine v_nil ?_
        refine q_n ?_
        refine w_ret (q_br (q_r (q_r (q_br (q_r ?_)))))
        refine r_r rfl ?_
        exact a_b (by simp only [Bool.false_eq_true, false_iff]; exact ne_at i1 i2 hne)
      · skip
        have hne := h4
        refine d_nil ?_
        refine q_n ?_
        refine w_f rfl ?_
        refine w_skip ?_
        refine q_bn ?_
        refine q_n ?_
        refine w_reg rfl ?_
        refine v_move rfl ?_
        refine v_add lay3 rfl rfl (i64r (by omega)) ?_
        refine v_assign rfl ?_
        refine v_nil ?_
        refine q_n ?_
        refine ⟨_, _, _, ?_, ⟨i + 1, rfl, by omega, take_step_eq hp (by omega) (by omega) (Decidable.of_not_not hne), rfl, rfl⟩, by omega⟩
        exact turn0 ⟨tr_vw, tr_v, trivial⟩
    · skip
      refine v_nil ?_
      refine q_n ?_
      refine w_f rfl ?_
      refine w_exit ?_
      refine q_e ?_
      refine q_e ?_
      refine q_hit ?_
      refine q_n ?_
      refine w_seq ?_
      refine w_reg rfl ?_
      refine v_assign (c := .v (.bool true)) rfl ?_
      refine v_nil ?_
      refine q_n ?_
      refine w_ret ?_
      refine r_r rfl ?_
      exact a_b (by simp only [true_iff]; exact take_all_eq hp (by omega) (by omega))

theorem c93 (xs ys : List Po) (hx : xs.length ≤ 2 ^ 40) : PureC X 93 [.c (.sl false xs.length 2 (flat pe xs)), .c (.sl false ys.length 2 (flat pe ys))] (cB (decide (xs = ys))) := by
  refine PureC.of_body (drawD_ok X) (fun _ _ => Go.Proofs.Try.call93 _ _) Go.Proofs.Try.func93 rfl (n := 26) rfl ?_
  refine w_seq ?_
  refine w_reg rfl ?_
  refine v_assign (c := .v (.bool false)) rfl ?_
  refine v_nil ?_
  refine q_n ?_
  refine w_seq ?_
  refine w_seq ?_
  refine w_reg rfl ?_
  refine v_move rfl ?_
  refine v_len_sl lay61 rfl ?_
  refine v_move rfl ?_
  refine v_len_sl lay61 rfl ?_
  refine v_neq lay3 rfl rfl (fun h1 => ?_) (fun h1 => ?_)
  · skip
    refine v_nil ?_
    refine q_n ?_
    refine w_t rfl ?_
    refine w_seq ?_
    refine w_reg rfl ?_
    refine v_assign (c := .v (.bool false)) rfl ?_
    refine v_nil ?_
    refine q_n ?_
    refine w_ret (q_r ?_)
    refine r_r rfl ?_
    exact a_b (by simp only [Bool.false_eq_true, false_iff]; rintro rfl; exact h1 rfl)
  · skip
    refine v_nil ?_
    refine q_n ?_
    refine w_f rfl ?_
    refine w_skip ?_
    refine q_n ?_
    refine w_seq ?_
    refine w_seq ?_
    refine w_reg rfl ?_
    refine v_move rfl ?_
    refine v_len_sl lay61 rfl ?_
    refine v_move (c := .v (.int .i64 0)) rfl ?_
    refine v_nil ?_
    refine q_n ?_
    refine w_block ?_
    refine w_loop (fun k sl H => ∃ i : Nat, k = xs.length - i ∧ i ≤ xs.length ∧ xs.take i = ys.take i ∧ sl = sls [(0, .c (.sl false xs.length 2 (flat pe xs))), (1, .c (.sl false ys.length 2 (flat pe ys))), (12, cI xs.length), (13, cI i)] ∧ H = []) ?_ ?_
    · refine ⟨_, _, _, ?_, 0, rfl, Nat.zero_le _, rfl, rfl, rfl⟩
      exact turn0 ⟨tr_sl, tr_sl, tr_v, tr_v, trivial⟩
    · rintro k sl H ⟨i, rfl, hi, hp, rfl, rfl⟩
      refine w_seq ?_
      refine w_reg rfl ?_
      refine v_lss lay3 rfl rfl (fun h2 => ?_) (fun h2 => ?_)
      · skip
        have i1 : i < xs.length := by omega
        have i2 : i < ys.length := by omega
        refine v_nil ?_
        refine q_n ?_
        refine w_seq ?_
        refine w_t rfl ?_
        refine w_skip ?_
        refine q_n ?_
        refine w_seq ?_
        refine w_block ?_
        refine w_seq ?_
        refine w_reg rfl ?_
        refine v_move rfl ?_
        refine v_assign rfl ?_
        refine v_nil ?_
        refine q_n ?_
        refine w_seq ?_
        refine w_draw [0, 0, 3, 7, 0, 0, 48, 112, 255] [⟨0, 0, []⟩, ⟨1, 0, []⟩, ⟨2, 0, []⟩, ⟨3, 0, []⟩, ⟨4, 0, []⟩, ⟨5, 0, []⟩, ⟨6, 0, []⟩, ⟨7, 0, []⟩, ⟨8, 0, []⟩] rfl rfl ?_
        refine d_q rfl rfl rfl rfl rfl ?_
        refine v_move rfl ?_
        refine v_nil ?_
        refine d_q rfl rfl rfl rfl rfl ?_
        refine v_move rfl ?_
        refine v_nil ?_
        refine d_q rfl rfl rfl rfl rfl ?_
        refine v_idx_e (k := 2) (i) pe_len lay61 lay46 rfl rfl rfl (rfl) rfl (rfl) (by omega) ?_
        refine v_nil ?_
        refine d_q rfl rfl rfl rfl rfl ?_
        refine v_load_vw (.agg [.v _, .v _]) lay46 rfl rfl rfl ?_
        refine v_nil ?_
        refine d_q rfl rfl rfl rfl rfl ?_
        refine v_move rfl ?_
        refine v_nil ?_
        refine d_q rfl rfl rfl rfl rfl ?_
        refine v_move rfl ?_
        refine v_nil ?_
        refine d_q rfl rfl rfl rfl rfl ?_
        refine v_idx_e (k := 2) (i) pe_len lay61 lay46 rfl rfl rfl (rfl) rfl (rfl) (by omega) ?_
        refine v_nil ?_
        refine d_q rfl rfl rfl rfl rfl ?_
        refine v_load_vw (.agg [.v _, .v _]) lay46 rfl rfl rfl ?_
        refine v_nil ?_
        refine d_rawb (rq46 (a := xs[i]) (b := ys[i]) rfl rfl) rfl rfl rfl rfl rfl (fun h5 => ?_) (fun h5 => ?_)
        · skip
          have hne := h5
          refine d_nil ?_
          refine q_n ?_
          refine w_t rfl ?_
          refine w_seq ?_
          refine w_reg rfl ?_
          refine v_assign (c := .v (.bool false)) rfl ?_
          refine v_nil ?_
          refine q_n ?_
          refine w_ret (q_br (q_r (q_r (q_br (q_r ?_)))))
          refine r_r rfl ?_
          exact a_b (by simp only [Bool.false_eq_true, false_iff]; exact ne_at i1 i2 hne)
        · skip
          have hne := h5
          refine d_nil ?_
          refine q_n ?_
          refine w_f rfl ?_
          refine w_skip ?_
          refine q_bn ?_
          refine q_n ?_
          refine w_reg rfl ?_
          refine v_add lay3 rfl rfl (i64r (by omega)) ?_
          refine v_move rfl ?_
          refine v_nil ?_
          refine q_n ?_
          refine ⟨_, _, _, ?_, ⟨i + 1, rfl, by omega, take_step_eq hp (by omega) (by omega) (Decidable.of_not_not hne), rfl, rfl⟩, by omega⟩
          exact turn0 ⟨tr_sl, tr_sl, tr_v, tr_v, trivial⟩
      · skip
        refine v_nil ?_
        refine q_n ?_
        refine w_seq ?_
        refine w_f rfl ?_
        refine w_exit ?_
        refine q_e ?_
        refine q_e ?_
        refine q_hit ?_
        refine q_n ?_
        refine w_seq ?_
        refine w_reg rfl ?_
        refine v_assign (c := .v (.bool true)) rfl ?_
        refine v_nil ?_
        refine q_n ?_
        refine w_ret ?_
        refine r_r rfl ?_
        exact a_b (by simp only [true_iff]; exact take_all_eq hp (by omega) (by omega))

theorem c67 (b : Bd) (hb : b.ps.length ≤ 2 ^ 40) : PureC X 67 [.c (.vw false (bdw b) 0)] (cB (decide (b.ps = b.nw))) := by
  refine PureC.of_body (drawD_ok X) (fun _ _ => Go.Proofs.Try.call67 _ _) Go.Proofs.Try.func67 rfl (n := 14) rfl ?_
  refine w_seq ?_
  refine w_reg rfl ?_
  refine v_assign (c := .v (.bool false)) rfl ?_
  refine v_nil ?_
  refine q_n ?_
  refine w_seq ?_
  refine w_draw [0, 1, 3, 7, 15, 0, 32, 96, 224, 480, 1023, 2047] [⟨0, 0, []⟩, ⟨1, 0, []⟩, ⟨2, 0, []⟩, ⟨3, 0, []⟩, ⟨4, 0, []⟩, ⟨5, 0, []⟩, ⟨6, 0, []⟩, ⟨7, 0, []⟩, ⟨8, 0, []⟩, ⟨9, 0, []⟩, ⟨10, 0, []⟩, ⟨11, 0, []⟩] rfl rfl ?_
  refine d_q rfl rfl rfl rfl rfl ?_
  refine v_move rfl ?_
  refine v_nil ?_
  refine d_q rfl rfl rfl rfl rfl ?_
  refine v_nil_vw rfl ?_
  refine v_nil ?_
  refine d_q rfl rfl rfl rfl rfl ?_
  refine v_fa_vw (off' := 0) lay94 rfl rfl rfl ?_
  refine v_nil ?_
  refine d_q rfl rfl rfl rfl rfl ?_
  refine v_fa_vw (off' := 1) lay64 rfl rfl rfl ?_
  refine v_nil ?_
  refine d_q rfl rfl rfl rfl rfl ?_
  refine v_load_vw (.c (_)) lay61 rfl rfl rfl ?_
  refine v_nil ?_
  refine d_q rfl rfl rfl rfl rfl ?_
  refine v_move rfl ?_
  refine v_nil ?_
  refine d_q rfl rfl rfl rfl rfl ?_
  refine v_nil_vw rfl ?_
  refine v_nil ?_
  refine d_q rfl rfl rfl rfl rfl ?_
  refine v_fa_vw (off' := 0) lay94 rfl rfl rfl ?_
  refine v_nil ?_
  refine d_q rfl rfl rfl rfl rfl ?_
  refine v_fa_vw (off' := 0) lay64 rfl rfl rfl ?_
  refine v_nil ?_
  refine d_q rfl rfl rfl rfl rfl ?_
  refine v_load_vw (.c (_)) lay61 rfl rfl rfl ?_
  refine v_nil ?_
  refine d_callb (c93 b.ps b.nw (by omega)) rfl rfl rfl rfl (.cons vw_sl (.cons vw_sl .nil)) (fun h1 => ?_) (fun h1 => ?_)
  · skip
    refine d_q rfl rfl rfl rfl rfl ?_
    refine v_assign rfl ?_
    refine v_nil ?_
    refine d_nil ?_
    refine q_n ?_
    refine w_ret ?_
    refine r_r rfl ?_
    exact a_b (by simp only [true_iff]; exact h1)
  · skip
    refine d_q rfl rfl rfl rfl rfl ?_
    refine v_assign rfl ?_
    refine v_nil ?_
    refine d_nil ?_
    refine q_n ?_
    refine w_ret ?_
    refine r_r rfl ?_
    exact a_b (by simp only [Bool.false_eq_true, false_iff]; exact h1)

theorem c28 (p : Int) (fs : List Int) (ds : List De) (hx : fs.length ≤ 2 ^ 40) (hd : ds.length ≤ 2 ^ 40) : PureC X 28 [.agg (cen false p fs), .c (dcs false ds)] (agV (agR p fs ds)) := by
  refine PureC.of_body (drawD_ok X) (fun _ _ => Go.Proofs.Try.call28 _ _) Go.Proofs.Try.func28 rfl (n := 21) rfl ?_
  refine w_seq ?_
  refine w_reg rfl ?_
  refine v_box (m := 0) (H' := [_]) lay33 rfl rfl rfl ?_
  refine v_assign (c := .v (.bool false)) rfl ?_
  refine v_assign (c := .v (.int .i64 0)) rfl ?_
  refine v_nil ?_
  refine q_n ?_
  refine w_seq ?_
  refine w_seq ?_
  refine w_reg rfl ?_
  refine v_move rfl ?_
  refine v_call (c58 _ _ _ (by omega) (by omega)) rfl rfl rfl (.cons (vw_pt rfl (.cons .v (.cons (.sl (fun h => by cases h)) .nil))) (.cons vw_sl .nil)) ?_
  refine v_assign rfl ?_
  refine v_nil ?_
  refine q_n ?_
  refine w_seq ?_
  refine w_reg rfl ?_
  refine v_move rfl ?_
  refine v_neq lay2 rfl rfl (fun h1 => ?_) (fun h1 => ?_)
  · skip
    refine v_nil ?_
    refine q_n ?_
    refine w_t rfl ?_
    refine w_seq ?_
    refine w_reg rfl ?_
    refine v_move rfl ?_
    refine v_assign (c := .v (.bool false)) rfl ?_
    refine v_assign rfl ?_
    refine v_nil ?_
    refine q_n ?_
    refine w_ret (q_r ?_)
    refine r_r rfl ?_
    exact a_ag (ag_bad h1)
  · skip
    have hg : gvR p fs ds = 0 := by omega
    obtain ⟨hoc, hds, hdl⟩ := gv_ok hg
    have hf : fs.length ≤ 6 := hoc.2.2.2.1
    have hok := st_ok (p := p) (fs := fs) hds ds.length (Nat.le_refl _)
    have n1 := hok.nw
    have n2 := hok.ps
    have n4 := hok.kn
    have n5 := hok.wr
    refine v_nil ?_
    refine q_n ?_
    refine w_f rfl ?_
    refine w_skip ?_
    refine q_n ?_
    refine w_seq ?_
    refine w_reg rfl ?_
    refine v_move rfl ?_
    refine v_call (c59 p fs ds (by omega) (by assumption) (by omega)) rfl rfl rfl (.cons (vw_pt rfl (.cons .v (.cons (.sl (fun h => by cases h)) .nil))) (.cons vw_sl .nil)) ?_
    refine v_move_t rfl ?_
    refine v_extract_c rfl rfl ?_
    refine v_extract_c rfl rfl ?_
    refine v_assign rfl ?_
    refine v_assign rfl ?_
    refine v_nil ?_
    refine q_n ?_
    refine w_seq ?_
    refine w_reg rfl ?_
    refine v_move rfl ?_
    refine v_call (c66 (stB p fs ds ds.length).1 (by omega) (by omega)) rfl rfl rfl (.cons vw_vw .nil) ?_
    refine v_assign rfl ?_
    refine v_assign (c := .v (.int .i64 0)) rfl ?_
    refine v_nil ?_
    refine q_n ?_
    refine w_ret ?_
    refine r_r rfl ?_
    exact a_ag (ag_of hg rfl)

theorem c29 (p : Int) (fs : List Int) (ds : List De) (hx : fs.length ≤ 2 ^ 40) (hd : ds.length ≤ 2 ^ 40) : PureC X 29 [.agg (cen false p fs), .c (dcs false ds)] (agV (agR p fs ds)) := by
  refine PureC.of_body (drawD_ok X) (fun _ _ => Go.Proofs.Try.call29 _ _) Go.Proofs.Try.func29 rfl (n := 23) rfl ?_
  refine w_seq ?_
  refine w_reg rfl ?_
  refine v_box (m := 0) (H' := [_]) lay33 rfl rfl rfl ?_
  refine v_assign (c := .v (.bool false)) rfl ?_
  refine v_assign (c := .v (.int .i64 0)) rfl ?_
  refine v_nil ?_
  refine q_n ?_
  refine w_seq ?_
  refine w_seq ?_
  refine w_reg rfl ?_
  refine v_load_pt (.agg [_, _]) lay33 rfl rfl rfl rfl ?_
  refine v_move rfl ?_
  refine v_call (c60 _ _ _ _ (by omega) (by omega)) rfl rfl rfl (.cons (vw_agg (.cons vw_v (.cons vw_sl .nil))) (.cons vw_sl (.cons vw_v .nil))) ?_
  refine v_assign rfl ?_
  refine v_nil ?_
  refine q_n ?_
  refine w_seq ?_
  refine w_reg rfl ?_
  refine v_move rfl ?_
  refine v_neq lay2 rfl rfl (fun h1 => ?_) (fun h1 => ?_)
  · skip
    refine v_nil ?_
    refine q_n ?_
    refine w_t rfl ?_
    refine w_seq ?_
    refine w_reg rfl ?_
    refine v_move rfl ?_
    refine v_assign (c := .v (.bool false)) rfl ?_
    refine v_assign rfl ?_
    refine v_nil ?_
    refine q_n ?_
    refine w_ret (q_r ?_)
    refine r_r rfl ?_
    exact a_ag (ag_bad2 h1)
  · skip
    have hg : gvR p fs ds = 0 := by rw [← dc_gv]; omega
    obtain ⟨hoc, hds, hdl⟩ := gv_ok hg
    have hf : fs.length ≤ 6 := hoc.2.2.2.1
    have hok := st_ok (p := p) (fs := fs) hds ds.length (Nat.le_refl _)
    have n1 := hok.nw
    have n2 := hok.ps
    have n4 := hok.kn
    have n5 := hok.wr
    refine v_nil ?_
    refine q_n ?_
    refine w_f rfl ?_
    refine w_skip ?_
    refine q_n ?_
    refine w_seq ?_
    refine w_reg rfl ?_
    refine v_load_pt (.agg [_, _]) lay33 rfl rfl rfl rfl ?_
    refine v_move rfl ?_
    refine v_call (c65 p fs ds (by omega) (by assumption) (by omega)) rfl rfl rfl (.cons (vw_agg (.cons vw_v (.cons vw_sl .nil))) (.cons vw_sl .nil)) ?_
    refine v_move_t rfl ?_
    refine v_extract_c rfl rfl ?_
    refine v_extract_c rfl rfl ?_
    refine v_assign rfl ?_
    refine v_assign rfl ?_
    refine v_nil ?_
    refine q_n ?_
    refine w_seq ?_
    refine w_reg rfl ?_
    refine v_move rfl ?_
    refine v_call (c67 (stB p fs ds ds.length).1 (by omega)) rfl rfl rfl (.cons vw_vw .nil) ?_
    refine v_assign rfl ?_
    refine v_assign (c := .v (.int .i64 0)) rfl ?_
    refine v_nil ?_
    refine q_n ?_
    refine w_ret ?_
    refine r_r rfl ?_
    exact a_ag (ag_of hg rfl)

theorem c7 (p : Int) (fs : List Int) (ds : List De) (hx : fs.length ≤ maxLen) (hd : ds.length ≤ maxLen) : PureC X 7 [.agg (cen false p fs), .c (dcs false ds)] (cB true) := by
  refine PureC.of_body (drawD_ok X) (fun _ _ => Go.Proofs.Try.call7 _ _) Go.Proofs.Try.func7 rfl (n := 58) rfl ?_
  refine w_seq ?_
  refine w_reg rfl ?_
  refine v_box (m := 0) (H' := [_]) lay30 rfl rfl rfl ?_
  refine v_assign (c := .v (.bool false)) rfl ?_
  refine v_nil ?_
  refine q_n ?_
  refine w_seq ?_
  refine w_reg rfl ?_
  refine v_assign (c := .v (.int .i64 1048576)) rfl ?_
  refine v_nil ?_
  refine q_n ?_
  refine w_seq ?_
  refine w_reg rfl ?_
  refine v_load_pt (.agg [_, _]) lay30 rfl rfl rfl rfl ?_
  refine v_move rfl ?_
  refine v_call (c15 _ _ _ (by omega) hx) rfl rfl rfl (.cons (vw_agg (.cons vw_v (.cons vw_sl .nil))) (.cons vw_v .nil)) ?_
  refine v_assign rfl ?_
  refine v_nil ?_
  refine q_n ?_
  refine w_seq ?_
  refine w_seq ?_
  refine w_reg rfl ?_
  refine v_move rfl ?_
  refine v_lss lay3 rfl rfl (fun h1 => ?_) (fun h1 => ?_)
  · skip
    refine v_nil ?_
    refine q_n ?_
    refine w_t rfl ?_
    refine w_seq ?_
    refine w_reg rfl ?_
    refine v_assign (c := .v (.bool true)) rfl ?_
    refine v_nil ?_
    refine q_n ?_
    refine w_ret (q_r ?_)
    refine r_r rfl ?_
    first | exact tr_v | (exfalso; simp_all; done)
  · skip
    have hx2 : fs.length ≤ 2 ^ 40 := by unfold szr at h1; split at h1 <;> omega
    have hl0 : 0 ≤ szr fs.length 1048576 ∧ szr fs.length 1048576 ≤ 2 ^ 20 := ⟨by omega, by unfold szr; split <;> omega⟩
    refine v_nil ?_
    refine q_n ?_
    refine w_f rfl ?_
    refine w_skip ?_
    refine q_n ?_
    refine w_seq ?_
    refine w_reg rfl ?_
    refine v_move rfl ?_
    refine v_move rfl ?_
    refine v_call (c20 _ _ (by omega) (by assumption)) rfl rfl rfl (.cons vw_sl (.cons vw_v .nil)) ?_
    refine v_assign rfl ?_
    refine v_nil ?_
    refine q_n ?_
    refine w_seq ?_
    refine w_seq ?_
    refine w_reg rfl ?_
    refine v_move rfl ?_
    refine v_lss lay3 rfl rfl (fun h2 => ?_) (fun h2 => ?_)
    · skip
      refine v_nil ?_
      refine q_n ?_
      refine w_t rfl ?_
      refine w_seq ?_
      refine w_reg rfl ?_
      refine v_assign (c := .v (.bool true)) rfl ?_
      refine v_nil ?_
      refine q_n ?_
      refine w_ret (q_r ?_)
      refine r_r rfl ?_
      first | exact tr_v | (exfalso; simp_all; done)
    · skip
      have hd2 : ds.length ≤ 2 ^ 40 := by unfold szr at h2 hl0; split at h2 <;> omega
      refine v_nil ?_
      refine q_n ?_
      refine w_f rfl ?_
      refine w_skip ?_
      refine q_n ?_
      refine w_seq ?_
      refine w_reg rfl ?_
      refine v_load_pt (.agg [_, _]) lay30 rfl rfl rfl rfl ?_
      refine v_call (c17 _ _ hx2) rfl rfl rfl (.cons (vw_agg (.cons vw_v (.cons vw_sl .nil))) .nil) ?_
      refine v_move rfl ?_
      refine v_call (c22 _ (by omega)) rfl rfl rfl (.cons vw_sl .nil) ?_
      refine v_call (c28 _ _ _ (by omega) (by omega)) rfl rfl rfl (.cons (vw_agg (.cons vw_v (.cons vw_sl .nil))) (.cons vw_sl .nil)) ?_
      refine v_move_t rfl ?_
      refine v_extract_c rfl rfl ?_
      refine v_extract_c rfl rfl ?_
      refine v_assign rfl ?_
      refine v_assign rfl ?_
      refine v_nil ?_
      refine q_n ?_
      refine w_seq ?_
      refine w_reg rfl ?_
      refine v_load_pt (.agg [_, _]) lay30 rfl rfl rfl rfl ?_
      refine v_call (c17 _ _ hx2) rfl rfl rfl (.cons (vw_agg (.cons vw_v (.cons vw_sl .nil))) .nil) ?_
      refine v_alloc (m := 1) (H' := [_, ⟨[.v _, .v _], 33, true⟩]) lay33 rfl rfl ?_
      refine v_store (H' := [_, ⟨[_, _], 33, true⟩]) lay33 rfl rfl rfl rfl rfl rfl ?_
      refine v_nil ?_
      refine q_n ?_
      refine w_seq ?_
      refine w_reg rfl ?_
      refine v_move rfl ?_
      refine v_call (c22 _ (by omega)) rfl rfl rfl (.cons vw_sl .nil) ?_
      refine v_assign rfl ?_
      refine v_nil ?_
      refine q_n ?_
      refine w_seq ?_
      refine w_reg rfl ?_
      refine v_load_pt (.agg [_, _]) lay33 rfl rfl rfl rfl ?_
      refine v_move rfl ?_
      refine v_call (c29 _ _ _ (by omega) (by omega)) rfl rfl rfl (.cons (vw_agg (.cons vw_v (.cons vw_sl .nil))) (.cons vw_sl .nil)) ?_
      refine v_move_t rfl ?_
      refine v_extract_c rfl rfl ?_
      refine v_extract_c rfl rfl ?_
      refine v_assign rfl ?_
      refine v_assign rfl ?_
      refine v_nil ?_
      refine q_n ?_
      refine w_seq ?_
      refine w_seq ?_
      refine w_reg rfl ?_
      refine v_move rfl ?_
      refine v_move rfl ?_
      refine v_binb lay4 rfl rfl rfl (fun h3 => ?_) (fun h3 => ?_)
      · skip
        exact absurd h3 (by simp)
      · skip
        refine v_move rfl ?_
        refine v_guard_on rfl rfl ?_
        refine v_move rfl ?_
        refine v_guard_on rfl rfl ?_
        refine v_move rfl ?_
        refine v_guard_on rfl rfl ?_
        refine v_neq lay2 rfl rfl (fun h4 => ?_) (fun h4 => ?_)
        · skip
          exact absurd h4 (by simp)
        · skip
          refine v_pick_f rfl rfl ?_
          refine v_nil ?_
          refine q_n ?_
          refine w_f rfl ?_
          refine w_skip ?_
          refine q_n ?_
          refine w_seq ?_
          refine w_seq ?_
          refine w_draw [0, 0, 2, 7, 15] [⟨0, 0, []⟩, ⟨1, 0, []⟩, ⟨2, 0, []⟩, ⟨3, 0, []⟩, ⟨4, 0, []⟩] rfl rfl ?_
          refine d_q rfl rfl rfl rfl rfl ?_
          refine v_load_pt (.agg [_, _]) lay33 rfl rfl rfl rfl ?_
          refine v_nil ?_
          refine d_q rfl rfl rfl rfl rfl ?_
          refine v_load_pt (.agg [_, _]) lay30 rfl rfl rfl rfl ?_
          refine v_nil ?_
          refine d_call (c17 _ _ hx2) rfl rfl rfl rfl rfl (.cons (vw_agg (.cons vw_v (.cons vw_sl .nil))) .nil) ?_
          refine d_callb (c19 _ _ _ _ hx2) rfl rfl rfl rfl (.cons (vw_agg (.cons vw_v (.cons vw_sl .nil))) (.cons (vw_agg (.cons vw_v (.cons vw_sl .nil))) .nil)) (fun h5 => ?_) (fun h5 => ?_)
          · skip
            refine d_q rfl rfl rfl rfl rfl ?_
            refine v_not false rfl rfl ?_
            refine v_nil ?_
            refine d_nil ?_
            refine q_n ?_
            refine w_f rfl ?_
            refine w_skip ?_
            refine q_n ?_
            refine w_seq ?_
            refine w_seq ?_
            refine w_reg rfl ?_
            refine v_move rfl ?_
            refine v_move rfl ?_
            refine v_call (c22 _ (by omega)) rfl rfl rfl (.cons vw_sl .nil) ?_
            refine v_callb (c24 _ _ (by omega)) rfl rfl (.cons vw_sl (.cons vw_sl .nil)) (fun h6 => ?_) (fun h6 => ?_)
            · skip
              refine v_not false rfl rfl ?_
              refine v_nil ?_
              refine q_n ?_
              refine w_f rfl ?_
              refine w_skip ?_
              refine q_n ?_
              refine w_seq ?_
              refine w_reg rfl ?_
              refine v_assign (c := .v (.bool true)) rfl ?_
              refine v_nil ?_
              refine q_n ?_
              refine w_ret ?_
              refine r_r rfl ?_
              first | exact tr_v | (exfalso; simp_all; done)
            · skip
              refine v_not true rfl rfl ?_
              refine v_nil ?_
              refine q_n ?_
              refine w_t rfl ?_
              refine w_seq ?_
              refine w_reg rfl ?_
              refine v_assign (c := .v (.bool false)) rfl ?_
              refine v_nil ?_
              refine q_n ?_
              refine w_ret (q_r ?_)
              refine r_r rfl ?_
              first | exact tr_v | (exfalso; simp_all; done)
          · skip
            refine d_q rfl rfl rfl rfl rfl ?_
            refine v_not true rfl rfl ?_
            refine v_nil ?_
            refine d_nil ?_
            refine q_n ?_
            refine w_t rfl ?_
            refine w_seq ?_
            refine w_reg rfl ?_
            refine v_assign (c := .v (.bool false)) rfl ?_
            refine v_nil ?_
            refine q_n ?_
            refine w_ret (q_r ?_)
            refine r_r rfl ?_
            first | exact tr_v | (exfalso; simp_all; done)
end Go.VL
