/- The board behind all deeds: both walks. -/
import Derived.Test.YtbejolinihbokaaE1
namespace Go.VL
open Go.RowKit
set_option maxRecDepth 20000
set_option maxHeartbeats 8000000
/-- The lists of a board. -/
abbrev bds (o : Bool) (b : Bd) : List C := [.sl o b.nw.length 2 (flat pe b.nw), .sl o b.ps.length 2 (flat pe b.ps), .sl o b.sv.length 2 (flat pe b.sv), .sl o b.kn.length 1 (flat int b.kn), .sl o b.wr.length 4 (flat nce b.wr)]
def bdz : Bd := ⟨[], [], [], [], []⟩
theorem bd_ext {b c : Bd} : b = c ↔ b.nw = c.nw ∧ b.ps = c.ps ∧ b.sv = c.sv ∧ b.kn = c.kn ∧ b.wr = c.wr := by
  obtain ⟨a1, a2, a3, a4, a5⟩ := b
  obtain ⟨c1, c2, c3, c4, c5⟩ := c
  simp
instance : DecidableEq Bd := fun b c => decidable_of_iff _ bd_ext.symm
abbrev boV (r : Bd × Int × Int) : V := .tup [.agg (bds true r.1), cI r.2.1, cI r.2.2]
abbrev boL (r : Bd × Int × Int) : V := .tup [.agg [.mu 0 0 r.1.nw.length 2, .mu 1 0 r.1.ps.length 2, .mu 2 0 r.1.sv.length 2, .mu 3 0 r.1.kn.length 1, .mu 4 0 r.1.wr.length 4], cI r.2.1, cI r.2.2]
abbrev boO (b : Bd) : List Ob := [⟨flat pe b.nw, 46, true⟩, ⟨flat pe b.ps, 46, true⟩, ⟨flat pe b.sv, 46, true⟩, ⟨flat int b.kn, 2, true⟩, ⟨flat nce b.wr, 101, true⟩]
/-- The board behind all deeds, and how many have been done. -/
def boR (p : Int) (fs : List Int) (ds : List De) : Bd × Int × Int := if gvR p fs ds ≠ 0 then (bdz, 0, gvR p fs ds) else ((stB p fs ds ds.length).1, cz (stB p fs ds ds.length).2, 0)
theorem bo_bad {p : Int} {fs : List Int} {ds : List De} (h : gvR p fs ds ≠ 0) : boR p fs ds = (bdz, 0, gvR p fs ds) := by
  unfold boR
  rw [if_pos h]
theorem bo_bad2 {p : Int} {fs : List Int} {ds : List De} (h : dcR p fs ds 0 ≠ 0) : boR p fs ds = (bdz, 0, dcR p fs ds 0) := by
  rw [dc_gv] at h ⊢
  exact bo_bad h
theorem bo_of {p : Int} {fs : List Int} {ds : List De} (h : gvR p fs ds = 0) : boR p fs ds = ((stB p fs ds ds.length).1, cz (stB p fs ds ds.length).2, 0) := by
  unfold boR
  rw [h, if_neg (by simp)]
theorem bo_len (p : Int) (fs : List Int) (ds : List De) : (boR p fs ds).1.nw.length ≤ 10 ∧ (boR p fs ds).1.ps.length ≤ 10 ∧ (boR p fs ds).1.sv.length ≤ 10 ∧ (boR p fs ds).1.kn.length ≤ 10 ∧ (boR p fs ds).1.wr.length ≤ 10 := by
  unfold boR
  split
  · simp [bdz]
  · rename_i h
    have h0 : gvR p fs ds = 0 := Decidable.of_not_not h
    obtain ⟨hoc, hds, hdl⟩ := gv_ok h0
    have := hoc.2.2.2.1
    have h1 := st_ok (p := p) (fs := fs) hds ds.length (Nat.le_refl _)
    have n1 := h1.nw
    have n2 := h1.ps
    have n3 := h1.sv
    have n4 := h1.kn
    have n5 := h1.wr
    simp only
    omega
theorem cz_all {cs : List Int} {i : Nat} (h : i = cs.length) : cz (cs.take i) = cz cs := by rw [h, List.take_length]
theorem cz_yes {cs : List Int} {i : Nat} (hi : i < cs.length) (h : cs[i] = 0) : cz (cs.take i) + 1 = cz (cs.take (i + 1)) := by
  rw [List.take_succ_eq_append_getElem hi]
  exact cz_eq h
theorem cz_no {cs : List Int} {i : Nat} (hi : i < cs.length) (h : ¬ cs[i] = 0) : cz (cs.take i) = cz (cs.take (i + 1)) := by
  rw [List.take_succ_eq_append_getElem hi]
  exact cz_ne h
def pmark (a : Int) (j : Nat) : Po := (a + 2 * j, a + 2 * j + 1)
def pset1 (X : Po) (b : Int) : Po := (b, X.2)
def pset2 (X : Po) (b : Int) : Po := (X.1, b)
theorem pe1 (X : Po) (b : Int) : pe (pset1 X b) = setCells (pe X) 0 [.v (.int .i64 b)] := rfl
theorem pe2 (X : Po) (b : Int) : pe (pset2 X b) = setCells (pe X) 1 [.v (.int .i64 b)] := rfl
theorem pmark_step {a : Int} {i : Nat} {xs : List Po} (h : i < xs.length) {y1 y2 : Po} (h3 : y2 = pmark a i) : ((marks (pmark a) i xs).set i y1).set i y2 = marks (pmark a) (i + 1) xs := by
  rw [List.set_set, h3]
  exact marks_step h
def nmark (a : Int) (j : Nat) : No := (decide ((a + 4 * j).tmod 3 = 0), a + 4 * j + 1, a + 4 * j + 1 + 1, a + 4 * j + 1 + 1 + 1)
def nset1 (X : No) (b : Bool) : No := (b, X.2.1, X.2.2.1, X.2.2.2)
def nset2 (X : No) (b : Int) : No := (X.1, b, X.2.2.1, X.2.2.2)
def nset3 (X : No) (b : Int) : No := (X.1, X.2.1, b, X.2.2.2)
def nset4 (X : No) (b : Int) : No := (X.1, X.2.1, X.2.2.1, b)
theorem nce1 (X : No) (b : Bool) : nce (nset1 X b) = setCells (nce X) 0 [.v (.bool b)] := rfl
theorem nce2 (X : No) (b : Int) : nce (nset2 X b) = setCells (nce X) 1 [.v (.int .i64 b)] := rfl
theorem nce3 (X : No) (b : Int) : nce (nset3 X b) = setCells (nce X) 2 [.v (.int .i64 b)] := rfl
theorem nce4 (X : No) (b : Int) : nce (nset4 X b) = setCells (nce X) 3 [.v (.int .i64 b)] := rfl
theorem nmark_step {a : Int} {i : Nat} {xs : List No} (h : i < xs.length) {y1 y2 y3 y4 : No} (h3 : y4 = nmark a i) : ((((marks (nmark a) i xs).set i y1).set i y2).set i y3).set i y4 = marks (nmark a) (i + 1) xs := by
  rw [List.set_set, List.set_set, List.set_set, h3]
  exact marks_step h
theorem mk_at {α : Type} {f : Nat → α} {n i : Nat} (h : i < ((List.range n).map f).length) : ((List.range n).map f)[i] = f i := by
  rw [List.getElem_map, List.getElem_range]
theorem c72 (xs ys : List Po) (hx : xs.length ≤ 2 ^ 40) : PureC X 72 [.c (.sl false xs.length 2 (flat pe xs)), .c (.sl false ys.length 2 (flat pe ys))] (cB (decide (xs = ys))) := by
  refine PureC.of_body (drawD_ok X) (fun _ _ => Go.Proofs.Try.call72 _ _) Go.Proofs.Try.func72 rfl (n := 27) rfl ?_
  refine w_seq ?_
  refine w_reg rfl ?_
  refine v_assign (c := .v (.bool false)) rfl ?_
  refine v_nil ?_
  refine q_n ?_
  refine w_seq ?_
  refine w_seq ?_
  refine w_reg rfl ?_
  refine v_move rfl ?_
  refine v_len_sl lay61 rfl ?_
  refine v_move rfl ?_
  refine v_len_sl lay61 rfl ?_
  refine v_neq lay3 rfl rfl (fun h1 => ?_) (fun h1 => ?_)
  · skip
    refine v_nil ?_
    refine q_n ?_
    refine w_t rfl ?_
    refine w_seq ?_
    refine w_reg rfl ?_
    refine v_assign (c := .v (.bool false)) rfl ?_
    refine v_nil ?_
    refine q_n ?_
    refine w_ret (q_r ?_)
    refine r_r rfl ?_
    exact a_b (by simp only [Bool.false_eq_true, false_iff]; rintro rfl; exact h1 rfl)
  · skip
    refine v_nil ?_
    refine q_n ?_
    refine w_f rfl ?_
    refine w_skip ?_
    refine q_n ?_
    refine w_seq ?_
    refine w_seq ?_
    refine w_reg rfl ?_
    refine v_assign (c := .v (.int .i64 0)) rfl ?_
    refine v_nil ?_
    refine q_n ?_
    refine w_block ?_
    refine w_loop (fun k sl H => ∃ i : Nat, k = xs.length - i ∧ i ≤ xs.length ∧ xs.take i = ys.take i ∧ sl = sls [(0, .c (.sl false xs.length 2 (flat pe xs))), (1, .c (.sl false ys.length 2 (flat pe ys))), (5, cI i)] ∧ H = []) ?_ ?_
    · refine ⟨_, _, _, ?_, 0, rfl, Nat.zero_le _, rfl, rfl, rfl⟩
      exact turn0 ⟨tr_sl, tr_sl, tr_v, trivial⟩
    · rintro k sl H ⟨i, rfl, hi, hp, rfl, rfl⟩
      refine w_seq ?_
      refine w_seq ?_
      refine w_reg rfl ?_
      refine v_move rfl ?_
      refine v_move rfl ?_
      refine v_len_sl lay61 rfl ?_
      refine v_lss lay3 rfl rfl (fun h2 => ?_) (fun h2 => ?_)
      · skip
        have i1 : i < xs.length := by omega
        have i2 : i < ys.length := by omega
        refine v_nil ?_
        refine q_n ?_
        refine w_t rfl ?_
        refine w_skip ?_
        refine q_n ?_
        refine w_seq ?_
        refine w_block ?_
        refine w_seq ?_
        refine w_draw [0, 0, 3, 7, 0, 0, 48, 112, 255, 511] [⟨0, 0, []⟩, ⟨1, 0, []⟩, ⟨2, 0, []⟩, ⟨3, 0, []⟩, ⟨4, 0, []⟩, ⟨5, 0, []⟩, ⟨6, 0, []⟩, ⟨7, 0, []⟩, ⟨8, 0, []⟩, ⟨9, 0, []⟩] rfl rfl ?_
        refine d_q rfl rfl rfl rfl rfl ?_
        refine v_move rfl ?_
        refine v_nil ?_
        refine d_q rfl rfl rfl rfl rfl ?_
        refine v_move rfl ?_
        refine v_nil ?_
        refine d_q rfl rfl rfl rfl rfl ?_
        refine v_idx_e (k := 2) (i) pe_len lay61 lay46 rfl rfl rfl (rfl) rfl (rfl) (by omega) ?_
        refine v_nil ?_
        refine d_q rfl rfl rfl rfl rfl ?_
        refine v_load_vw (.agg [.v _, .v _]) lay46 rfl rfl rfl ?_
        refine v_nil ?_
        refine d_q rfl rfl rfl rfl rfl ?_
        refine v_move rfl ?_
        refine v_nil ?_
        refine d_q rfl rfl rfl rfl rfl ?_
        refine v_move rfl ?_
        refine v_nil ?_
        refine d_q rfl rfl rfl rfl rfl ?_
        refine v_idx_e (k := 2) (i) pe_len lay61 lay46 rfl rfl rfl (rfl) rfl (rfl) (by omega) ?_
        refine v_nil ?_
        refine d_q rfl rfl rfl rfl rfl ?_
        refine v_load_vw (.agg [.v _, .v _]) lay46 rfl rfl rfl ?_
        refine v_nil ?_
        refine d_callb (c27 _ _) rfl rfl rfl rfl (.cons (vw_agg (.cons vw_v (.cons vw_v .nil))) (.cons (vw_agg (.cons vw_v (.cons vw_v .nil))) .nil)) (fun h5 => ?_) (fun h5 => ?_)
        · skip
          have heq := h5
          refine d_q rfl rfl rfl rfl rfl ?_
          refine v_not false rfl rfl ?_
          refine v_nil ?_
          refine d_nil ?_
          refine q_n ?_
          refine w_f rfl ?_
          refine w_skip ?_
          refine q_bn ?_
          refine q_n ?_
          refine w_reg rfl ?_
          refine v_move rfl ?_
          refine v_add lay3 rfl rfl (i64r (by omega)) ?_
          refine v_assign rfl ?_
          refine v_nil ?_
          refine q_n ?_
          refine ⟨_, _, _, ?_, ⟨i + 1, rfl, by omega, take_step_eq hp (by omega) (by omega) heq, rfl, rfl⟩, by omega⟩
          exact turn0 ⟨tr_sl, tr_sl, tr_v, trivial⟩
        · skip
          have hne := h5
          refine d_q rfl rfl rfl rfl rfl ?_
          refine v_not true rfl rfl ?_
          refine v_nil ?_
          refine d_nil ?_
          refine q_n ?_
          refine w_t rfl ?_
          refine w_seq ?_
          refine w_reg rfl ?_
          refine v_assign (c := .v (.bool false)) rfl ?_
          refine v_nil ?_
          refine q_n ?_
          refine w_ret (q_br (q_r (q_r (q_br (q_r ?_)))))
          refine r_r rfl ?_
          exact a_b (by simp only [Bool.false_eq_true, false_iff]; exact ne_at i1 i2 hne)
      · skip
        refine v_nil ?_
        refine q_n ?_
        refine w_f rfl ?_
        refine w_exit ?_
        refine q_e ?_
        refine q_e ?_
        refine q_hit ?_
        refine q_n ?_
        refine w_seq ?_
        refine w_reg rfl ?_
        refine v_assign (c := .v (.bool true)) rfl ?_
        refine v_nil ?_
        refine q_n ?_
        refine w_ret ?_
        refine r_r rfl ?_
        exact a_b (by simp only [true_iff]; exact take_all_eq hp (by omega) (by omega))

theorem c95 (a b : No) : PureC X 95 [.agg (nce a), .agg (nce b)] (cB (decide (a = b))) := by
  refine PureC.of_body (drawD_ok X) (fun _ _ => Go.Proofs.Try.call95 _ _) Go.Proofs.Try.func95 rfl (n := 25) rfl ?_
  refine w_seq ?_
  refine w_reg rfl ?_
  refine v_box (m := 0) (H' := [_]) lay101 rfl rfl rfl ?_
  refine v_box (m := 1) (H' := [_, _]) lay101 rfl rfl rfl ?_
  refine v_assign (c := .v (.bool false)) rfl ?_
  refine v_nil ?_
  refine q_n ?_
  refine w_seq ?_
  refine w_seq ?_
  refine w_reg rfl ?_
  refine v_fa_pt (off' := 0) lay101 rfl rfl rfl ?_
  refine v_load_ptb lay4 rfl rfl rfl rfl (fun h1 => ?_) (fun h1 => ?_)
  · skip
    refine v_fa_pt (off' := 0) lay101 rfl rfl rfl ?_
    refine v_load_ptb lay4 rfl rfl rfl rfl (fun h2 => ?_) (fun h2 => ?_)
    · skip
      refine v_bin (c := .v (.bool false)) lay4 rfl rfl rfl ?_
      refine v_nil ?_
      refine q_n ?_
      refine w_f rfl ?_
      refine w_skip ?_
      refine q_n ?_
      refine w_seq ?_
      refine w_seq ?_
      refine w_reg rfl ?_
      refine v_fa_pt (off' := 1) lay101 rfl rfl rfl ?_
      refine v_load_pt (.c _) lay2 rfl rfl rfl rfl ?_
      refine v_fa_pt (off' := 1) lay101 rfl rfl rfl ?_
      refine v_load_pt (.c _) lay2 rfl rfl rfl rfl ?_
      refine v_neq lay2 rfl rfl (fun h3 => ?_) (fun h3 => ?_)
      · skip
        refine v_nil ?_
        refine q_n ?_
        refine w_t rfl ?_
        refine w_seq ?_
        refine w_reg rfl ?_
        refine v_assign (c := .v (.bool false)) rfl ?_
        refine v_nil ?_
        refine q_n ?_
        refine w_ret (q_r ?_)
        refine r_r rfl ?_
        exact a_b (by rw [Prod.ext_iff, Prod.ext_iff, Prod.ext_iff]; simp_all)
      · skip
        refine v_nil ?_
        refine q_n ?_
        refine w_f rfl ?_
        refine w_skip ?_
        refine q_n ?_
        refine w_seq ?_
        refine w_seq ?_
        refine w_reg rfl ?_
        refine v_fa_pt (off' := 2) lay101 rfl rfl rfl ?_
        refine v_load_pt (.c _) lay2 rfl rfl rfl rfl ?_
        refine v_fa_pt (off' := 2) lay101 rfl rfl rfl ?_
        refine v_load_pt (.c _) lay2 rfl rfl rfl rfl ?_
        refine v_neq lay2 rfl rfl (fun h4 => ?_) (fun h4 => ?_)
        · skip
          refine v_nil ?_
          refine q_n ?_
          refine w_t rfl ?_
          refine w_seq ?_
          refine w_reg rfl ?_
          refine v_assign (c := .v (.bool false)) rfl ?_
          refine v_nil ?_
          refine q_n ?_
          refine w_ret (q_r ?_)
          refine r_r rfl ?_
          exact a_b (by rw [Prod.ext_iff, Prod.ext_iff, Prod.ext_iff]; simp_all)
        · skip
          refine v_nil ?_
          refine q_n ?_
          refine w_f rfl ?_
          refine w_skip ?_
          refine q_n ?_
          refine w_seq ?_
          refine w_seq ?_
          refine w_reg rfl ?_
          refine v_fa_pt (off' := 3) lay101 rfl rfl rfl ?_
          refine v_load_pt (.c _) lay2 rfl rfl rfl rfl ?_
          refine v_fa_pt (off' := 3) lay101 rfl rfl rfl ?_
          refine v_load_pt (.c _) lay2 rfl rfl rfl rfl ?_
          refine v_neq lay2 rfl rfl (fun h5 => ?_) (fun h5 => ?_)
          · skip
            refine v_nil ?_
            refine q_n ?_
            refine w_t rfl ?_
            refine w_seq ?_
            refine w_reg rfl ?_
            refine v_assign (c := .v (.bool false)) rfl ?_
            refine v_nil ?_
            refine q_n ?_
            refine w_ret (q_r ?_)
            refine r_r rfl ?_
            exact a_b (by rw [Prod.ext_iff, Prod.ext_iff, Prod.ext_iff]; simp_all)
          · skip
            refine v_nil ?_
            refine q_n ?_
            refine w_f rfl ?_
            refine w_skip ?_
            refine q_n ?_
            refine w_seq ?_
            refine w_reg rfl ?_
            refine v_assign (c := .v (.bool true)) rfl ?_
            refine v_nil ?_
            refine q_n ?_
            refine w_ret ?_
            refine r_r rfl ?_
            exact a_b (by rw [Prod.ext_iff, Prod.ext_iff, Prod.ext_iff]; simp_all)
    · skip
      refine v_bin (c := .v (.bool true)) lay4 rfl rfl rfl ?_
      refine v_nil ?_
      refine q_n ?_
      refine w_t rfl ?_
      refine w_seq ?_
      refine w_reg rfl ?_
      refine v_assign (c := .v (.bool false)) rfl ?_
      refine v_nil ?_
      refine q_n ?_
      refine w_ret (q_r ?_)
      refine r_r rfl ?_
      exact a_b (by rw [Prod.ext_iff, Prod.ext_iff, Prod.ext_iff]; simp_all)
  · skip
    refine v_fa_pt (off' := 0) lay101 rfl rfl rfl ?_
    refine v_load_ptb lay4 rfl rfl rfl rfl (fun h6 => ?_) (fun h6 => ?_)
    · skip
      refine v_bin (c := .v (.bool true)) lay4 rfl rfl rfl ?_
      refine v_nil ?_
      refine q_n ?_
      refine w_t rfl ?_
      refine w_seq ?_
      refine w_reg rfl ?_
      refine v_assign (c := .v (.bool false)) rfl ?_
      refine v_nil ?_
      refine q_n ?_
      refine w_ret (q_r ?_)
      refine r_r rfl ?_
      exact a_b (by rw [Prod.ext_iff, Prod.ext_iff, Prod.ext_iff]; simp_all)
    · skip
      refine v_bin (c := .v (.bool false)) lay4 rfl rfl rfl ?_
      refine v_nil ?_
      refine q_n ?_
      refine w_f rfl ?_
      refine w_skip ?_
      refine q_n ?_
      refine w_seq ?_
      refine w_seq ?_
      refine w_reg rfl ?_
      refine v_fa_pt (off' := 1) lay101 rfl rfl rfl ?_
      refine v_load_pt (.c _) lay2 rfl rfl rfl rfl ?_
      refine v_fa_pt (off' := 1) lay101 rfl rfl rfl ?_
      refine v_load_pt (.c _) lay2 rfl rfl rfl rfl ?_
      refine v_neq lay2 rfl rfl (fun h7 => ?_) (fun h7 => ?_)
      · skip
        refine v_nil ?_
        refine q_n ?_
        refine w_t rfl ?_
        refine w_seq ?_
        refine w_reg rfl ?_
        refine v_assign (c := .v (.bool false)) rfl ?_
        refine v_nil ?_
        refine q_n ?_
        refine w_ret (q_r ?_)
        refine r_r rfl ?_
        exact a_b (by rw [Prod.ext_iff, Prod.ext_iff, Prod.ext_iff]; simp_all)
      · skip
        refine v_nil ?_
        refine q_n ?_
        refine w_f rfl ?_
        refine w_skip ?_
        refine q_n ?_
        refine w_seq ?_
        refine w_seq ?_
        refine w_reg rfl ?_
        refine v_fa_pt (off' := 2) lay101 rfl rfl rfl ?_
        refine v_load_pt (.c _) lay2 rfl rfl rfl rfl ?_
        refine v_fa_pt (off' := 2) lay101 rfl rfl rfl ?_
        refine v_load_pt (.c _) lay2 rfl rfl rfl rfl ?_
        refine v_neq lay2 rfl rfl (fun h8 => ?_) (fun h8 => ?_)
        · skip
          refine v_nil ?_
          refine q_n ?_
          refine w_t rfl ?_
          refine w_seq ?_
          refine w_reg rfl ?_
          refine v_assign (c := .v (.bool false)) rfl ?_
          refine v_nil ?_
          refine q_n ?_
          refine w_ret (q_r ?_)
          refine r_r rfl ?_
          exact a_b (by rw [Prod.ext_iff, Prod.ext_iff, Prod.ext_iff]; simp_all)
        · skip
          refine v_nil ?_
          refine q_n ?_
          refine w_f rfl ?_
          refine w_skip ?_
          refine q_n ?_
          refine w_seq ?_
          refine w_seq ?_
          refine w_reg rfl ?_
          refine v_fa_pt (off' := 3) lay101 rfl rfl rfl ?_
          refine v_load_pt (.c _) lay2 rfl rfl rfl rfl ?_
          refine v_fa_pt (off' := 3) lay101 rfl rfl rfl ?_
          refine v_load_pt (.c _) lay2 rfl rfl rfl rfl ?_
          refine v_neq lay2 rfl rfl (fun h9 => ?_) (fun h9 => ?_)
          · skip
            refine v_nil ?_
            refine q_n ?_
            refine w_t rfl ?_
            refine w_seq ?_
            refine w_reg rfl ?_
            refine v_assign (c := .v (.bool false)) rfl ?_
            refine v_nil ?_
            refine q_n ?_
            refine w_ret (q_r ?_)
            refine r_r rfl ?_
            exact a_b (by rw [Prod.ext_iff, Prod.ext_iff, Prod.ext_iff]; simp_all)
          · skip
            refine v_nil ?_
            refine q_n ?_
            refine w_f rfl ?_
            refine w_skip ?_
            refine q_n ?_
            refine w_seq ?_
            refine w_reg rfl ?_
            refine v_assign (c := .v (.bool true)) rfl ?_
            refine v_nil ?_
            refine q_n ?_
            refine w_ret ?_
            refine r_r rfl ?_
            exact a_b (by rw [Prod.ext_iff, Prod.ext_iff, Prod.ext_iff]; simp_all)

theorem c73 (xs ys : List No) (hx : xs.length ≤ 2 ^ 40) : PureC X 73 [.c (.sl false xs.length 4 (flat nce xs)), .c (.sl false ys.length 4 (flat nce ys))] (cB (decide (xs = ys))) := by
  refine PureC.of_body (drawD_ok X) (fun _ _ => Go.Proofs.Try.call73 _ _) Go.Proofs.Try.func73 rfl (n := 27) rfl ?_
  refine w_seq ?_
  refine w_reg rfl ?_
  refine v_assign (c := .v (.bool false)) rfl ?_
  refine v_nil ?_
  refine q_n ?_
  refine w_seq ?_
  refine w_seq ?_
  refine w_reg rfl ?_
  refine v_move rfl ?_
  refine v_len_sl lay62 rfl ?_
  refine v_move rfl ?_
  refine v_len_sl lay62 rfl ?_
  refine v_neq lay3 rfl rfl (fun h1 => ?_) (fun h1 => ?_)
  · skip
    refine v_nil ?_
    refine q_n ?_
    refine w_t rfl ?_
    refine w_seq ?_
    refine w_reg rfl ?_
    refine v_assign (c := .v (.bool false)) rfl ?_
    refine v_nil ?_
    refine q_n ?_
    refine w_ret (q_r ?_)
    refine r_r rfl ?_
    exact a_b (by simp only [Bool.false_eq_true, false_iff]; rintro rfl; exact h1 rfl)
  · skip
    refine v_nil ?_
    refine q_n ?_
    refine w_f rfl ?_
    refine w_skip ?_
    refine q_n ?_
    refine w_seq ?_
    refine w_seq ?_
    refine w_reg rfl ?_
    refine v_assign (c := .v (.int .i64 0)) rfl ?_
    refine v_nil ?_
    refine q_n ?_
    refine w_block ?_
    refine w_loop (fun k sl H => ∃ i : Nat, k = xs.length - i ∧ i ≤ xs.length ∧ xs.take i = ys.take i ∧ sl = sls [(0, .c (.sl false xs.length 4 (flat nce xs))), (1, .c (.sl false ys.length 4 (flat nce ys))), (5, cI i)] ∧ H = []) ?_ ?_
    · refine ⟨_, _, _, ?_, 0, rfl, Nat.zero_le _, rfl, rfl, rfl⟩
      exact turn0 ⟨tr_sl, tr_sl, tr_v, trivial⟩
    · rintro k sl H ⟨i, rfl, hi, hp, rfl, rfl⟩
      refine w_seq ?_
      refine w_seq ?_
      refine w_reg rfl ?_
      refine v_move rfl ?_
      refine v_move rfl ?_
      refine v_len_sl lay62 rfl ?_
      refine v_lss lay3 rfl rfl (fun h2 => ?_) (fun h2 => ?_)
      · skip
        have i1 : i < xs.length := by omega
        have i2 : i < ys.length := by omega
        refine v_nil ?_
        refine q_n ?_
        refine w_t rfl ?_
        refine w_skip ?_
        refine q_n ?_
        refine w_seq ?_
        refine w_block ?_
        refine w_seq ?_
        refine w_draw [0, 0, 3, 7, 0, 0, 48, 112, 255, 511] [⟨0, 0, []⟩, ⟨1, 0, []⟩, ⟨2, 0, []⟩, ⟨3, 0, []⟩, ⟨4, 0, []⟩, ⟨5, 0, []⟩, ⟨6, 0, []⟩, ⟨7, 0, []⟩, ⟨8, 0, []⟩, ⟨9, 0, []⟩] rfl rfl ?_
        refine d_q rfl rfl rfl rfl rfl ?_
        refine v_move rfl ?_
        refine v_nil ?_
        refine d_q rfl rfl rfl rfl rfl ?_
        refine v_move rfl ?_
        refine v_nil ?_
        refine d_q rfl rfl rfl rfl rfl ?_
        refine v_idx_e (k := 4) (i) nce_len lay62 lay101 rfl rfl rfl (rfl) rfl (rfl) (by omega) ?_
        refine v_nil ?_
        refine d_q rfl rfl rfl rfl rfl ?_
        refine v_load_vw (.agg [.v _, .v _, .v _, .v _]) lay101 rfl rfl rfl ?_
        refine v_nil ?_
        refine d_q rfl rfl rfl rfl rfl ?_
        refine v_move rfl ?_
        refine v_nil ?_
        refine d_q rfl rfl rfl rfl rfl ?_
        refine v_move rfl ?_
        refine v_nil ?_
        refine d_q rfl rfl rfl rfl rfl ?_
        refine v_idx_e (k := 4) (i) nce_len lay62 lay101 rfl rfl rfl (rfl) rfl (rfl) (by omega) ?_
        refine v_nil ?_
        refine d_q rfl rfl rfl rfl rfl ?_
        refine v_load_vw (.agg [.v _, .v _, .v _, .v _]) lay101 rfl rfl rfl ?_
        refine v_nil ?_
        refine d_callb (c95 _ _) rfl rfl rfl rfl (.cons (vw_agg (.cons vw_v (.cons vw_v (.cons vw_v (.cons vw_v .nil))))) (.cons (vw_agg (.cons vw_v (.cons vw_v (.cons vw_v (.cons vw_v .nil))))) .nil)) (fun h5 => ?_) (fun h5 => ?_)
        · skip
          have heq := h5
          refine d_q rfl rfl rfl rfl rfl ?_
          refine v_not false rfl rfl ?_
          refine v_nil ?_
          refine d_nil ?_
          refine q_n ?_
          refine w_f rfl ?_
          refine w_skip ?_
          refine q_bn ?_
          refine q_n ?_
          refine w_reg rfl ?_
          refine v_move rfl ?_
          refine v_add lay3 rfl rfl (i64r (by omega)) ?_
          refine v_assign rfl ?_
          refine v_nil ?_
          refine q_n ?_
          refine ⟨_, _, _, ?_, ⟨i + 1, rfl, by omega, take_step_eq hp (by omega) (by omega) heq, rfl, rfl⟩, by omega⟩
          exact turn0 ⟨tr_sl, tr_sl, tr_v, trivial⟩
        · skip
          have hne := h5
          refine d_q rfl rfl rfl rfl rfl ?_
          refine v_not true rfl rfl ?_
          refine v_nil ?_
          refine d_nil ?_
          refine q_n ?_
          refine w_t rfl ?_
          refine w_seq ?_
          refine w_reg rfl ?_
          refine v_assign (c := .v (.bool false)) rfl ?_
          refine v_nil ?_
          refine q_n ?_
          refine w_ret (q_br (q_r (q_r (q_br (q_r ?_)))))
          refine r_r rfl ?_
          exact a_b (by simp only [Bool.false_eq_true, false_iff]; exact ne_at i1 i2 hne)
      · skip
        refine v_nil ?_
        refine q_n ?_
        refine w_f rfl ?_
        refine w_exit ?_
        refine q_e ?_
        refine q_e ?_
        refine q_hit ?_
        refine q_n ?_
        refine w_seq ?_
        refine w_reg rfl ?_
        refine v_assign (c := .v (.bool true)) rfl ?_
        refine v_nil ?_
        refine q_n ?_
        refine w_ret ?_
        refine r_r rfl ?_
        exact a_b (by simp only [true_iff]; exact take_all_eq hp (by omega) (by omega))

theorem c42 (a b : Bd) (h1 : a.nw.length ≤ 10) (h2 : a.ps.length ≤ 10) (h3 : a.sv.length ≤ 10) (h4 : a.kn.length ≤ 10) (h5 : a.wr.length ≤ 10) : PureC X 42 [.agg (bds false a), .agg (bds false b)] (cB (decide (a = b))) := by
  refine PureC.of_body (drawD_ok X) (fun _ _ => Go.Proofs.Try.call42 _ _) Go.Proofs.Try.func42 rfl (n := 35) rfl ?_
  refine w_seq ?_
  refine w_reg rfl ?_
  refine v_box (m := 0) (H' := [_]) lay64 rfl rfl rfl ?_
  refine v_box (m := 1) (H' := [_, _]) lay64 rfl rfl rfl ?_
  refine v_assign (c := .v (.bool false)) rfl ?_
  refine v_nil ?_
  refine q_n ?_
  refine w_seq ?_
  refine w_seq ?_
  refine w_reg rfl ?_
  refine v_fa_pt (off' := 0) lay64 rfl rfl rfl ?_
  refine v_load_pt (.c _) lay61 rfl rfl rfl rfl ?_
  refine v_fa_pt (off' := 0) lay64 rfl rfl rfl ?_
  refine v_load_pt (.c _) lay61 rfl rfl rfl rfl ?_
  refine v_callb (c72 _ _ (by omega)) rfl rfl (.cons vw_sl (.cons vw_sl .nil)) (fun h1 => ?_) (fun h1 => ?_)
  · skip
    refine v_not false rfl rfl ?_
    refine v_nil ?_
    refine q_n ?_
    refine w_f rfl ?_
    refine w_skip ?_
    refine q_n ?_
    refine w_seq ?_
    refine w_seq ?_
    refine w_reg rfl ?_
    refine v_fa_pt (off' := 1) lay64 rfl rfl rfl ?_
    refine v_load_pt (.c _) lay61 rfl rfl rfl rfl ?_
    refine v_fa_pt (off' := 1) lay64 rfl rfl rfl ?_
    refine v_load_pt (.c _) lay61 rfl rfl rfl rfl ?_
    refine v_callb (c72 _ _ (by omega)) rfl rfl (.cons vw_sl (.cons vw_sl .nil)) (fun h2 => ?_) (fun h2 => ?_)
    · skip
      refine v_not false rfl rfl ?_
      refine v_nil ?_
      refine q_n ?_
      refine w_f rfl ?_
      refine w_skip ?_
      refine q_n ?_
      refine w_seq ?_
      refine w_seq ?_
      refine w_reg rfl ?_
      refine v_fa_pt (off' := 2) lay64 rfl rfl rfl ?_
      refine v_load_pt (.c _) lay61 rfl rfl rfl rfl ?_
      refine v_fa_pt (off' := 2) lay64 rfl rfl rfl ?_
      refine v_load_pt (.c _) lay61 rfl rfl rfl rfl ?_
      refine v_callb (c72 _ _ (by omega)) rfl rfl (.cons vw_sl (.cons vw_sl .nil)) (fun h3 => ?_) (fun h3 => ?_)
      · skip
        refine v_not false rfl rfl ?_
        refine v_nil ?_
        refine q_n ?_
        refine w_f rfl ?_
        refine w_skip ?_
        refine q_n ?_
        refine w_seq ?_
        refine w_seq ?_
        refine w_reg rfl ?_
        refine v_fa_pt (off' := 3) lay64 rfl rfl rfl ?_
        refine v_load_pt (.c _) lay28 rfl rfl rfl rfl ?_
        refine v_fa_pt (off' := 3) lay64 rfl rfl rfl ?_
        refine v_load_pt (.c _) lay28 rfl rfl rfl rfl ?_
        refine v_callb (c32 _ _ (by omega)) rfl rfl (.cons vw_sl (.cons vw_sl .nil)) (fun h4 => ?_) (fun h4 => ?_)
        · skip
          refine v_not false rfl rfl ?_
          refine v_nil ?_
          refine q_n ?_
          refine w_f rfl ?_
          refine w_skip ?_
          refine q_n ?_
          refine w_seq ?_
          refine w_seq ?_
          refine w_reg rfl ?_
          refine v_fa_pt (off' := 4) lay64 rfl rfl rfl ?_
          refine v_load_pt (.c _) lay62 rfl rfl rfl rfl ?_
          refine v_fa_pt (off' := 4) lay64 rfl rfl rfl ?_
          refine v_load_pt (.c _) lay62 rfl rfl rfl rfl ?_
          refine v_callb (c73 _ _ (by omega)) rfl rfl (.cons vw_sl (.cons vw_sl .nil)) (fun h5 => ?_) (fun h5 => ?_)
          · skip
            refine v_not false rfl rfl ?_
            refine v_nil ?_
            refine q_n ?_
            refine w_f rfl ?_
            refine w_skip ?_
            refine q_n ?_
            refine w_seq ?_
            refine w_reg rfl ?_
            refine v_assign (c := .v (.bool true)) rfl ?_
            refine v_nil ?_
            refine q_n ?_
            refine w_ret ?_
            refine r_r rfl ?_
            exact a_b (by rw [bd_ext]; simp_all)
          · skip
            refine v_not true rfl rfl ?_
            refine v_nil ?_
            refine q_n ?_
            refine w_t rfl ?_
            refine w_seq ?_
            refine w_reg rfl ?_
            refine v_assign (c := .v (.bool false)) rfl ?_
            refine v_nil ?_
            refine q_n ?_
            refine w_ret (q_r ?_)
            refine r_r rfl ?_
            exact a_b (by rw [bd_ext]; simp_all)
        · skip
          refine v_not true rfl rfl ?_
          refine v_nil ?_
          refine q_n ?_
          refine w_t rfl ?_
          refine w_seq ?_
          refine w_reg rfl ?_
          refine v_assign (c := .v (.bool false)) rfl ?_
          refine v_nil ?_
          refine q_n ?_
          refine w_ret (q_r ?_)
          refine r_r rfl ?_
          exact a_b (by rw [bd_ext]; simp_all)
      · skip
        refine v_not true rfl rfl ?_
        refine v_nil ?_
        refine q_n ?_
        refine w_t rfl ?_
        refine w_seq ?_
        refine w_reg rfl ?_
        refine v_assign (c := .v (.bool false)) rfl ?_
        refine v_nil ?_
        refine q_n ?_
        refine w_ret (q_r ?_)
        refine r_r rfl ?_
        exact a_b (by rw [bd_ext]; simp_all)
    · skip
      refine v_not true rfl rfl ?_
      refine v_nil ?_
      refine q_n ?_
      refine w_t rfl ?_
      refine w_seq ?_
      refine w_reg rfl ?_
      refine v_assign (c := .v (.bool false)) rfl ?_
      refine v_nil ?_
      refine q_n ?_
      refine w_ret (q_r ?_)
      refine r_r rfl ?_
      exact a_b (by rw [bd_ext]; simp_all)
  · skip
    refine v_not true rfl rfl ?_
    refine v_nil ?_
    refine q_n ?_
    refine w_t rfl ?_
    refine w_seq ?_
    refine w_reg rfl ?_
    refine v_assign (c := .v (.bool false)) rfl ?_
    refine v_nil ?_
    refine q_n ?_
    refine w_ret (q_r ?_)
    refine r_r rfl ?_
    exact a_b (by rw [bd_ext]; simp_all)

theorem c71l (xs : List No) (hx : xs.length ≤ 2 ^ 40) : LiveC X 71 [.c (.sl false xs.length 4 (flat nce xs))] (.c (.mu 0 0 xs.length 4)) [⟨flat nce xs, 101, true⟩] := by
  refine LiveC.of_body (drawD_ok X) (fun _ _ => Go.Proofs.Try.call71 _ _) Go.Proofs.Try.func71 rfl (n := 8) rfl ?_
  refine w_seq ?_
  refine w_reg rfl ?_
  refine v_assign rfl ?_
  refine v_nil ?_
  refine q_n ?_
  refine w_seq ?_
  refine w_seq ?_
  refine w_reg rfl ?_
  refine v_move rfl ?_
  refine v_eqnil rfl lay62 rfl rfl (fun h1 => ?_) ?_
  · skip
    refine v_nil ?_
    refine q_n ?_
    refine w_t rfl ?_
    refine w_seq ?_
    refine w_reg rfl ?_
    refine v_assign rfl ?_
    refine v_nil ?_
    refine q_n ?_
    refine w_ret (q_r ?_)
    refine r_r rfl ?_
    have hxs : xs = [] := List.eq_nil_of_length_eq_zero h1.1
    subst hxs
    exact l_ans [none] rfl rfl ⟨rfl, trivial⟩ (tr_nil rfl)
  · skip
    refine v_nil ?_
    refine q_n ?_
    refine w_f rfl ?_
    refine w_skip ?_
    refine q_n ?_
    refine w_seq ?_
    refine w_reg rfl ?_
    refine v_lit (flat nce []) (H' := [_]) lay62 lay101 rfl rfl ⟨by decide, by decide⟩ rfl rfl ?_
    refine v_move rfl ?_
    refine v_app_flat_sl (H' := [_, _]) nce_sc nce_len lay62 lay101 rfl rfl (by simp) rfl rfl rfl (by unfold maxLen; simp only []; omega) rfl rfl ?_
    refine v_assign rfl ?_
    refine v_nil ?_
    refine q_n ?_
    refine w_ret ?_
    refine r_r rfl ?_
    exact l_ans [some 1] rfl rfl ⟨⟨_, rfl, trc_flat nce_sc (by simp)⟩, trivial⟩ (tr_mun rfl (by simp))

theorem c40a (p : Int) (fs : List Int) (ds : List De) (hx : fs.length ≤ 2 ^ 40) (hd : ds.length ≤ 2 ^ 40) (hgv : gvR p fs ds = 0) : PureC X 40 [.agg (cen false p fs), .c (dcs false ds)] (boV (boR p fs ds)) := by
  refine PureC.of_body (drawD_ok X) (fun _ _ => Go.Proofs.Try.call40 _ _) Go.Proofs.Try.func40 rfl (n := 41) rfl ?_
  refine w_seq ?_
  refine w_reg rfl ?_
  refine v_box (m := 0) (H' := [_]) lay33 rfl rfl rfl ?_
  refine v_alloc (m := 1) (H' := [_, ⟨[.v _, .v _, .v _, .v _, .v _], 64, true⟩]) lay64 rfl rfl ?_
  refine v_assign (c := .v (.int .i64 0)) rfl ?_
  refine v_assign (c := .v (.int .i64 0)) rfl ?_
  refine v_nil ?_
  refine q_n ?_
  refine w_seq ?_
  refine w_seq ?_
  refine w_reg rfl ?_
  refine v_move rfl ?_
  refine v_call (c58 _ _ _ (by omega) (by omega)) rfl rfl rfl (.cons (vw_pt rfl (.cons .v (.cons (.sl (fun h => by cases h)) .nil))) (.cons vw_sl .nil)) ?_
  refine v_assign rfl ?_
  refine v_nil ?_
  refine q_n ?_
  refine w_seq ?_
  refine w_reg rfl ?_
  refine v_move rfl ?_
  refine v_neq lay2 rfl rfl (fun h1 => ?_) (fun h1 => ?_)
  · skip
    exact absurd hgv h1
  · skip
    have hg : gvR p fs ds = 0 := by omega
    obtain ⟨hoc, hds, hdl⟩ := gv_ok hg
    have hf : fs.length ≤ 6 := hoc.2.2.2.1
    refine v_nil ?_
    refine q_n ?_
    refine w_f rfl ?_
    refine w_skip ?_
    refine q_n ?_
    refine w_seq ?_
    refine w_reg rfl ?_
    refine v_move rfl ?_
    refine v_call (c59 p fs ds (by omega) (by assumption) (by omega)) rfl rfl rfl (.cons (vw_pt rfl (.cons .v (.cons (.sl (fun h => by cases h)) .nil))) (.cons vw_sl .nil)) ?_
    refine v_move_t rfl ?_
    refine v_extract_c rfl rfl ?_
    refine v_extract_c rfl rfl ?_
    refine v_assign rfl ?_
    refine v_assign rfl ?_
    refine v_nil ?_
    refine q_n ?_
    refine w_seq ?_
    refine w_reg rfl ?_
    refine v_assign (c := .v (.int .i64 0)) rfl ?_
    refine v_nil ?_
    refine q_n ?_
    refine w_seq ?_
    refine w_seq ?_
    refine w_reg rfl ?_
    refine v_assign (c := .v (.int .i64 0)) rfl ?_
    refine v_nil ?_
    refine q_n ?_
    refine w_block ?_
    refine w_loop (fun k sl H => ∃ i : Nat, k = ds.length - i ∧ i ≤ ds.length ∧ sl = sls [(4, .c (.pt 0 0)), (8, .c (.vw true (bdv true (stB p fs ds ds.length).1) 0)), (9, .c (ints false (stB p fs ds ds.length).2)), (10, cI (cz ((stB p fs ds ds.length).2.take i))), (11, cI i)] ∧ H = [⟨[.v (.slice none 0 0), .v (.slice none 0 0), .v (.slice none 0 0), .v (.slice none 0 0), .v (.slice none 0 0)], 64, true⟩]) ?_ ?_
    · refine ⟨_, _, _, ?_, 0, rfl, Nat.zero_le _, rfl, rfl⟩
      exact turn [some 1] rfl rfl rfl ⟨⟨_, rfl, .cons tr_v (.cons tr_v (.cons tr_v (.cons tr_v (.cons tr_v .nil))))⟩, trivial⟩ ⟨tr_pt rfl, tr_vw, (.c (.sl (fun h => by cases h))), tr_v, tr_v, trivial⟩
    · rintro k sl H ⟨i, rfl, hi, rfl, rfl⟩
      have hcl := st_len p fs ds ds.length
      have hczt := cz_len ((stB p fs ds ds.length).2.take i)
      rw [List.length_take, st_len] at hczt
      refine w_seq ?_
      refine w_seq ?_
      refine w_reg rfl ?_
      refine v_move rfl ?_
      refine v_move rfl ?_
      refine v_len_sl lay28 rfl ?_
      refine v_lss lay3 rfl rfl (fun h2 => ?_) (fun h2 => ?_)
      · skip
        refine v_nil ?_
        refine q_n ?_
        refine w_t rfl ?_
        refine w_skip ?_
        refine q_n ?_
        refine w_seq ?_
        refine w_block ?_
        refine w_seq ?_
        refine w_reg rfl ?_
        refine v_move rfl ?_
        refine v_move rfl ?_
        refine v_idx_e (k := 1) (i) int_len lay28 lay2 rfl rfl rfl (rfl) rfl (rfl) (by rw [st_len]; omega) ?_
        refine v_load_vw (.c (.v _)) lay2 rfl rfl rfl ?_
        refine v_eql lay2 rfl rfl (fun h4 => ?_) (fun h4 => ?_)
        · skip
          have hyes := h4
          refine v_nil ?_
          refine q_n ?_
          refine w_t rfl ?_
          refine w_reg rfl ?_
          refine v_move rfl ?_
          refine v_add lay2 rfl rfl (i64r (by omega)) ?_
          refine v_assign rfl ?_
          refine v_nil ?_
          refine q_bn ?_
          refine q_n ?_
          refine w_reg rfl ?_
          refine v_move rfl ?_
          refine v_add lay3 rfl rfl (i64r (by omega)) ?_
          refine v_assign rfl ?_
          refine v_nil ?_
          refine q_n ?_
          refine ⟨_, _, _, ?_, ⟨i + 1, rfl, by omega, rfl, rfl⟩, by omega⟩
          exact turn [some 0] rfl rfl rfl ⟨⟨_, rfl, .cons tr_v (.cons tr_v (.cons tr_v (.cons tr_v (.cons tr_v .nil))))⟩, trivial⟩ ⟨tr_pt rfl, tr_vw, tr_sl, (tr_i (cz_yes (by rw [st_len]; omega) hyes)), tr_v, trivial⟩
        · skip
          have hno := h4
          refine v_nil ?_
          refine q_n ?_
          refine w_f rfl ?_
          refine w_skip ?_
          refine q_bn ?_
          refine q_n ?_
          refine w_reg rfl ?_
          refine v_move rfl ?_
          refine v_add lay3 rfl rfl (i64r (by omega)) ?_
          refine v_assign rfl ?_
          refine v_nil ?_
          refine q_n ?_
          refine ⟨_, _, _, ?_, ⟨i + 1, rfl, by omega, rfl, rfl⟩, by omega⟩
          exact turn [some 0] rfl rfl rfl ⟨⟨_, rfl, .cons tr_v (.cons tr_v (.cons tr_v (.cons tr_v (.cons tr_v .nil))))⟩, trivial⟩ ⟨tr_pt rfl, tr_vw, tr_sl, (tr_i (cz_no (by rw [st_len]; omega) hno)), tr_v, trivial⟩
      · skip
        refine v_nil ?_
        refine q_n ?_
        refine w_f rfl ?_
        refine w_exit ?_
        refine q_e ?_
        refine q_e ?_
        refine q_hit ?_
        refine q_n ?_
        refine w_seq ?_
        refine w_reg rfl ?_
        refine v_move rfl ?_
        refine v_nil_vw rfl ?_
        refine v_fa_vw (off' := 1) lay90 rfl rfl rfl ?_
        refine v_load_vw (.agg [_, _, _, _, _]) lay64 rfl rfl rfl ?_
        refine v_move rfl ?_
        refine v_store (H' := [⟨[_, _, _, _, _], 64, true⟩]) lay64 rfl rfl rfl rfl rfl rfl ?_
        refine v_assign rfl ?_
        refine v_assign (c := .v (.int .i64 0)) rfl ?_
        refine v_nil ?_
        refine q_n ?_
        refine w_ret ?_
        refine r_r rfl ?_
        have hie : i = (stB p fs ds ds.length).2.length := by rw [st_len]; omega
        rw [cz_all hie, bo_of hg]
        exact a_tup (.cons (a_agg (.cons tr_sl (.cons tr_sl (.cons tr_sl (.cons tr_sl (.cons tr_sl .nil)))))) (.cons tr_v (.cons tr_v .nil)))

theorem c40b (p : Int) (fs : List Int) (ds : List De) (hx : fs.length ≤ 2 ^ 40) (hd : ds.length ≤ 2 ^ 40) (hgv : gvR p fs ds ≠ 0) : LiveC X 40 [.agg (cen false p fs), .c (dcs false ds)] (boL (boR p fs ds)) (boO (boR p fs ds).1) := by
  refine LiveC.of_body (drawD_ok X) (fun _ _ => Go.Proofs.Try.call40 _ _) Go.Proofs.Try.func40 rfl (n := 41) rfl ?_
  refine w_seq ?_
  refine w_reg rfl ?_
  refine v_box (m := 0) (H' := [_]) lay33 rfl rfl rfl ?_
  refine v_alloc (m := 1) (H' := [_, ⟨[.v _, .v _, .v _, .v _, .v _], 64, true⟩]) lay64 rfl rfl ?_
  refine v_assign (c := .v (.int .i64 0)) rfl ?_
  refine v_assign (c := .v (.int .i64 0)) rfl ?_
  refine v_nil ?_
  refine q_n ?_
  refine w_seq ?_
  refine w_seq ?_
  refine w_reg rfl ?_
  refine v_move rfl ?_
  refine v_call (c58 _ _ _ (by omega) (by omega)) rfl rfl rfl (.cons (vw_pt rfl (.cons .v (.cons (.sl (fun h => by cases h)) .nil))) (.cons vw_sl .nil)) ?_
  refine v_assign rfl ?_
  refine v_nil ?_
  refine q_n ?_
  refine w_seq ?_
  refine w_reg rfl ?_
  refine v_move rfl ?_
  refine v_neq lay2 rfl rfl (fun h1 => ?_) (fun h1 => ?_)
  · skip
    refine v_nil ?_
    refine q_n ?_
    refine w_t rfl ?_
    refine w_seq ?_
    refine w_reg rfl ?_
    refine v_build [(0, 1), (1, 1), (2, 1), (3, 1), (4, 1)] [.v _, .v _, .v _, .v _, .v _] lay64 rfl rfl ?_
    refine v_move rfl ?_
    refine v_store (H' := [_, ⟨[_, _, _, _, _], 64, true⟩]) lay64 rfl rfl rfl rfl rfl rfl ?_
    refine v_assign (c := .v (.int .i64 0)) rfl ?_
    refine v_assign rfl ?_
    refine v_nil ?_
    refine q_n ?_
    refine w_ret (q_r ?_)
    refine r_r rfl ?_
    rw [bo_bad h1]
    exact l_ans [none, none, none, none, none] rfl rfl ⟨rfl, rfl, rfl, rfl, rfl, trivial⟩ (a_tup (.cons (tr_agg (.cons (tr_nil rfl) (.cons (tr_nil rfl) (.cons (tr_nil rfl) (.cons (tr_nil rfl) (.cons (tr_nil rfl) .nil)))))) (.cons tr_v (.cons tr_v .nil))))
  · skip
    exact absurd h1 hgv

theorem bo_frz (b : Bd) (x y : Int) : TrV (boO b) [] (boL (b, x, y)) (boV (b, x, y)) := a_tup (.cons (a_agg (.cons (a_flat pe_sc pe_len rfl rfl) (.cons (a_flat pe_sc pe_len rfl rfl) (.cons (a_flat pe_sc pe_len rfl rfl) (.cons (a_flat int_sc int_len rfl rfl) (.cons (a_flat nce_sc nce_len rfl rfl) .nil)))))) (.cons tr_v (.cons tr_v .nil)))
theorem c40 (p : Int) (fs : List Int) (ds : List De) (hx : fs.length ≤ 2 ^ 40) (hd : ds.length ≤ 2 ^ 40) : PureC X 40 [.agg (cen false p fs), .c (dcs false ds)] (boV (boR p fs ds)) := by
  by_cases h : gvR p fs ds = 0
  · exact c40a p fs ds hx hd h
  · exact (c40b p fs ds hx hd h).pure (bo_frz _ _ _)

theorem c41l (p : Int) (fs : List Int) (ds : List De) (hx : fs.length ≤ 2 ^ 40) (hd : ds.length ≤ 2 ^ 40) : LiveC X 41 [.agg (cen false p fs), .c (dcs false ds)] (boL (boR p fs ds)) (boO (boR p fs ds).1) := by
  refine LiveC.of_body (drawD_ok X) (fun _ _ => Go.Proofs.Try.call41 _ _) Go.Proofs.Try.func41 rfl (n := 38) rfl ?_
  refine w_seq ?_
  refine w_reg rfl ?_
  refine v_box (m := 0) (H' := [_]) lay33 rfl rfl rfl ?_
  refine v_alloc (m := 1) (H' := [_, ⟨[.v _, .v _, .v _, .v _, .v _], 64, true⟩]) lay64 rfl rfl ?_
  refine v_assign (c := .v (.int .i64 0)) rfl ?_
  refine v_assign (c := .v (.int .i64 0)) rfl ?_
  refine v_nil ?_
  refine q_n ?_
  refine w_seq ?_
  refine w_seq ?_
  refine w_reg rfl ?_
  refine v_load_pt (.agg [_, _]) lay33 rfl rfl rfl rfl ?_
  refine v_move rfl ?_
  refine v_call (c60 _ _ _ _ (by omega) (by omega)) rfl rfl rfl (.cons (vw_agg (.cons vw_v (.cons vw_sl .nil))) (.cons vw_sl (.cons vw_v .nil))) ?_
  refine v_assign rfl ?_
  refine v_nil ?_
  refine q_n ?_
  refine w_seq ?_
  refine w_reg rfl ?_
  refine v_move rfl ?_
  refine v_neq lay2 rfl rfl (fun h1 => ?_) (fun h1 => ?_)
  · skip
    refine v_nil ?_
    refine q_n ?_
    refine w_t rfl ?_
    refine w_seq ?_
    refine w_reg rfl ?_
    refine v_build [(0, 1), (1, 1), (2, 1), (3, 1), (4, 1)] [.v _, .v _, .v _, .v _, .v _] lay64 rfl rfl ?_
    refine v_move rfl ?_
    refine v_store (H' := [_, ⟨[_, _, _, _, _], 64, true⟩]) lay64 rfl rfl rfl rfl rfl rfl ?_
    refine v_assign (c := .v (.int .i64 0)) rfl ?_
    refine v_assign rfl ?_
    refine v_nil ?_
    refine q_n ?_
    refine w_ret (q_r ?_)
    refine r_r rfl ?_
    rw [bo_bad2 h1]
    exact l_ans [none, none, none, none, none] rfl rfl ⟨rfl, rfl, rfl, rfl, rfl, trivial⟩ (a_tup (.cons (tr_agg (.cons (tr_nil rfl) (.cons (tr_nil rfl) (.cons (tr_nil rfl) (.cons (tr_nil rfl) (.cons (tr_nil rfl) .nil)))))) (.cons tr_v (.cons tr_v .nil))))
  · skip
    have hg : gvR p fs ds = 0 := by rw [← dc_gv]; omega
    obtain ⟨hoc, hds, hdl⟩ := gv_ok hg
    have hf : fs.length ≤ 6 := hoc.2.2.2.1
    refine v_nil ?_
    refine q_n ?_
    refine w_f rfl ?_
    refine w_skip ?_
    refine q_n ?_
    refine w_seq ?_
    refine w_reg rfl ?_
    refine v_load_pt (.agg [_, _]) lay33 rfl rfl rfl rfl ?_
    refine v_move rfl ?_
    refine v_inl (n := 27) (drawD_ok X) (fun _ _ => Go.Proofs.Try.call65 _ _) Go.Proofs.Try.func65 rfl rfl rfl rfl ?_
    refine w_seq ?_
    refine w_reg rfl ?_
    refine v_box (m := 2) (H' := [_, _, _]) lay33 rfl rfl rfl ?_
    refine v_assign (c := .v _) rfl ?_
    refine v_assign (c := .v (.int .i64 0)) rfl ?_
    refine v_nil ?_
    refine q_n ?_
    refine w_seq ?_
    refine w_reg rfl ?_
    refine v_load_pt (.agg [_, _]) lay33 rfl rfl rfl rfl ?_
    refine v_inl (n := 68) (drawD_ok X) (fun _ _ => Go.Proofs.Try.call61 _ _) Go.Proofs.Try.func61 rfl rfl rfl rfl ?_
    refine w_seq ?_
    refine w_reg rfl ?_
    refine v_box (m := 3) (H' := [_, _, _, _]) lay33 rfl rfl rfl ?_
    refine v_assign (c := .v _) rfl ?_
    refine v_nil ?_
    refine q_n ?_
    refine w_seq ?_
    refine w_reg rfl ?_
    refine v_load_pt (.agg [_, _]) lay33 rfl rfl rfl rfl ?_
    refine v_build [(0, 5), (5, 2)] [.v _, .v _, .v _, .v _, .v _, .v _, _] lay94 rfl rfl ?_
    refine v_box (m := 4) (H' := [_, _, _, _, _]) lay94 rfl rfl rfl ?_
    refine v_assign rfl ?_
    refine v_nil ?_
    refine q_n ?_
    refine w_seq ?_
    refine w_seq ?_
    refine w_reg rfl ?_
    refine v_fa_pt (off' := 1) lay33 rfl rfl rfl ?_
    refine v_load_pt (.c _) lay28 rfl rfl rfl rfl ?_
    refine v_len_sl lay28 rfl ?_
    refine v_move (c := .v (.int .i64 0)) rfl ?_
    refine v_nil ?_
    refine q_n ?_
    refine w_block ?_
    refine w_loop (fun k sl H => ∃ i : Nat, k = fs.length - i ∧ i ≤ fs.length ∧ sl = sls [(3, .c (.pt 3 0)), (11, .c (ints false fs)), (12, cI fs.length), (13, cI i)] ∧ H = [⟨cen false p fs, 33, true⟩, ⟨[.v (.slice none 0 0), .v (.slice none 0 0), .v (.slice none 0 0), .v (.slice none 0 0), .v (.slice none 0 0)], 64, true⟩, ⟨cen false p fs, 33, true⟩, ⟨[.mu 4 0 i 2, .mu 5 0 i 2, .mu 6 0 i 2, .mu 7 0 i 1, .mu 8 0 0 4, .v (.int .i64 p), ints false fs], 94, true⟩, ⟨flat pe (bg fs i), 46, true⟩, ⟨flat pe (bg fs i), 46, true⟩, ⟨flat pe (bg fs i), 46, true⟩, ⟨flat int (List.replicate i 0), 2, true⟩, ⟨[], 101, true⟩]) ?_ ?_
    · refine ⟨_, _, _, ?_, 0, rfl, Nat.zero_le _, rfl, rfl⟩
      exact turn [some 0, some 1, some 2, some 4, none, none, none, none, none] rfl rfl rfl ⟨⟨_, rfl, .cons tr_v (.cons tr_sl .nil)⟩, ⟨_, rfl, .cons tr_v (.cons tr_v (.cons tr_v (.cons tr_v (.cons tr_v .nil))))⟩, ⟨_, rfl, .cons tr_v (.cons tr_sl .nil)⟩, ⟨_, rfl, .cons (tr_nil rfl) (.cons (tr_nil rfl) (.cons (tr_nil rfl) (.cons (tr_nil rfl) (.cons (tr_nil rfl) (.cons tr_v (.cons tr_sl .nil))))))⟩, rfl, rfl, rfl, rfl, rfl, trivial⟩ ⟨tr_pt rfl, tr_sl, tr_v, tr_v, trivial⟩
    · rintro k sl H ⟨i, rfl, hi, rfl, rfl⟩
      refine w_seq ?_
      refine w_reg rfl ?_
      refine v_lss lay3 rfl rfl (fun h2 => ?_) (fun h2 => ?_)
      · skip
        refine v_nil ?_
        refine q_n ?_
        refine w_seq ?_
        refine w_t rfl ?_
        refine w_skip ?_
        refine q_n ?_
        refine w_seq ?_
        refine w_block ?_
        refine w_seq ?_
        refine w_reg rfl ?_
        refine v_idx_e (k := 1) (i) int_len lay28 lay2 rfl rfl rfl (rfl) rfl (rfl) (by omega) ?_
        refine v_load_vw (.c (.v _)) lay2 rfl rfl rfl ?_
        refine v_assign rfl ?_
        refine v_nil ?_
        refine q_n ?_
        refine w_seq ?_
        refine w_reg rfl ?_
        refine v_move rfl ?_
        refine v_build [(0, 1), (1, 1)] [.v _, .v _] lay46 rfl rfl ?_
        refine v_alloc (m := 9) (H' := [_, _, _, _, _, _, _, _, _, ⟨[.v _, .v _], 46, true⟩]) lay46 rfl rfl ?_
        refine v_store (H' := [_, _, _, _, _, _, _, _, _, ⟨[_, _], 46, true⟩]) lay46 rfl rfl rfl rfl rfl rfl ?_
        refine v_nil ?_
        refine q_n ?_
        refine w_draw [0, 0, 0, 0, 0, 16, 48, 112, 240, 0, 512, 2032, 0, 4096, 12288, 28672, 61440, 0, 131072, 524272, 0, 1048576, 3145728, 7340032, 15728640, 0, 33554432, 134217712, 0, 268435456, 805306368, 1879048192, 4026531840, 0, 17179869168, 34359738353, 68719476721, 137438953457, 274877906929, 549755813875, 1099511627763, 2199023255539, 4398046511091, 8796093022199, 17592186044407, 35184372088823, 70368744177655, 140737488355327, 281474976710655, 562949953421311, 1125899906842623] [⟨0, 0, []⟩, ⟨1, 0, []⟩, ⟨2, 0, []⟩, ⟨3, 0, []⟩, ⟨4, 0, []⟩, ⟨5, 0, []⟩, ⟨6, 0, []⟩, ⟨7, 0, []⟩, ⟨8, 0, []⟩, ⟨9, 0, []⟩, ⟨10, 2, []⟩, ⟨12, 0, []⟩, ⟨13, 0, []⟩, ⟨14, 0, []⟩, ⟨15, 0, []⟩, ⟨16, 0, []⟩, ⟨17, 0, []⟩, ⟨18, 2, []⟩, ⟨20, 0, []⟩, ⟨21, 0, []⟩, ⟨22, 0, []⟩, ⟨23, 0, []⟩, ⟨24, 0, []⟩, ⟨25, 0, []⟩, ⟨26, 2, []⟩, ⟨28, 0, []⟩, ⟨29, 0, []⟩, ⟨30, 0, []⟩, ⟨31, 0, []⟩, ⟨32, 0, []⟩, ⟨33, 2, []⟩, ⟨11, 1, [16, 17, 24, 25, 32]⟩, ⟨19, 1, [24, 25, 32]⟩, ⟨27, 1, [32]⟩, ⟨34, 1, []⟩, ⟨35, 0, []⟩, ⟨36, 0, []⟩, ⟨37, 0, []⟩, ⟨38, 1, []⟩, ⟨39, 0, []⟩, ⟨40, 0, []⟩, ⟨41, 0, []⟩, ⟨42, 1, []⟩, ⟨43, 0, []⟩, ⟨44, 0, []⟩, ⟨45, 0, []⟩, ⟨46, 1, []⟩, ⟨47, 0, []⟩, ⟨48, 0, []⟩, ⟨49, 0, []⟩, ⟨50, 1, []⟩] rfl rfl ?_
        refine d_q rfl rfl rfl rfl rfl ?_
        refine v_move rfl ?_
        refine v_nil ?_
        refine d_q rfl rfl rfl rfl rfl ?_
        refine v_move rfl ?_
        refine v_nil ?_
        refine d_q rfl rfl rfl rfl rfl ?_
        refine v_move rfl ?_
        refine v_nil ?_
        refine d_q rfl rfl rfl rfl rfl ?_
        refine v_move rfl ?_
        refine v_nil ?_
        refine d_q rfl rfl rfl rfl rfl ?_
        refine v_move rfl ?_
        refine v_nil ?_
        refine d_q rfl rfl rfl rfl rfl ?_
        refine v_nil_pt rfl ?_
        refine v_nil ?_
        refine d_q rfl rfl rfl rfl rfl ?_
        refine v_fa_pt (off' := 0) lay94 rfl rfl rfl ?_
        refine v_nil ?_
        refine d_q rfl rfl rfl rfl rfl ?_
        refine v_fa_pt (off' := 0) lay64 rfl rfl rfl ?_
        refine v_nil ?_
        refine d_q rfl rfl rfl rfl rfl ?_
        refine v_load_pt (.c _) lay61 rfl rfl rfl rfl ?_
        refine v_nil ?_
        refine d_q rfl rfl rfl rfl rfl ?_
        refine v_load_pt (.agg [_, _]) lay46 rfl rfl rfl rfl ?_
        refine v_nil ?_
        refine d_z (.c (.sl true 1 2 (flat pe [(fs[i], 0)]))) rfl rfl rfl ?_
        refine d_q rfl rfl rfl rfl rfl ?_
        refine v_move rfl ?_
        refine v_nil ?_
        refine d_q rfl rfl rfl rfl rfl ?_
        refine v_nil_pt rfl ?_
        refine v_nil ?_
        refine d_q rfl rfl rfl rfl rfl ?_
        refine v_fa_pt (off' := 0) lay94 rfl rfl rfl ?_
        refine v_nil ?_
        refine d_q rfl rfl rfl rfl rfl ?_
        refine v_fa_pt (off' := 1) lay64 rfl rfl rfl ?_
        refine v_nil ?_
        refine d_q rfl rfl rfl rfl rfl ?_
        refine v_load_pt (.c _) lay61 rfl rfl rfl rfl ?_
        refine v_nil ?_
        refine d_q rfl rfl rfl rfl rfl ?_
        refine v_load_pt (.agg [_, _]) lay46 rfl rfl rfl rfl ?_
        refine v_nil ?_
        refine d_z (.c (.sl true 1 2 (flat pe [(fs[i], 0)]))) rfl rfl rfl ?_
        refine d_q rfl rfl rfl rfl rfl ?_
        refine v_move rfl ?_
        refine v_nil ?_
        refine d_q rfl rfl rfl rfl rfl ?_
        refine v_nil_pt rfl ?_
        refine v_nil ?_
        refine d_q rfl rfl rfl rfl rfl ?_
        refine v_fa_pt (off' := 0) lay94 rfl rfl rfl ?_
        refine v_nil ?_
        refine d_q rfl rfl rfl rfl rfl ?_
        refine v_fa_pt (off' := 2) lay64 rfl rfl rfl ?_
        refine v_nil ?_
        refine d_q rfl rfl rfl rfl rfl ?_
        refine v_load_pt (.c _) lay61 rfl rfl rfl rfl ?_
        refine v_nil ?_
        refine d_q rfl rfl rfl rfl rfl ?_
        refine v_load_pt (.agg [_, _]) lay46 rfl rfl rfl rfl ?_
        refine v_nil ?_
        refine d_z (.c (.sl true 1 2 (flat pe [(fs[i], 0)]))) rfl rfl rfl ?_
        refine d_q rfl rfl rfl rfl rfl ?_
        refine v_move rfl ?_
        refine v_nil ?_
        refine d_q rfl rfl rfl rfl rfl ?_
        refine v_nil_pt rfl ?_
        refine v_nil ?_
        refine d_q rfl rfl rfl rfl rfl ?_
        refine v_fa_pt (off' := 0) lay94 rfl rfl rfl ?_
        refine v_nil ?_
        refine d_q rfl rfl rfl rfl rfl ?_
        refine v_fa_pt (off' := 3) lay64 rfl rfl rfl ?_
        refine v_nil ?_
        refine d_q rfl rfl rfl rfl rfl ?_
        refine v_load_pt (.c _) lay28 rfl rfl rfl rfl ?_
        refine v_nil ?_
        refine d_z (.c (.sl true 1 1 (flat int [0]))) rfl rfl rfl ?_
        refine d_e rfl rfl rfl ?_
        refine v_app_flat_sl (H' := [_, _, _, _, _, _, _, _, _, _, _]) pe_sc pe_len lay61 lay46 rfl rfl (by first | rfl | (simp; done) | (simp; omega) | omega | (rw [bg_l (by omega)])) rfl rfl rfl (by unfold maxLen; simp only []; omega) rfl rfl ?_
        refine v_nil ⟨⟨ag_load_pt (.c _) lay28 rfl rfl rfl rfl, ⟨ag_load_pt (.agg [_, _]) lay46 rfl rfl rfl rfl, ⟨ag_load_pt (.c _) lay61 rfl rfl rfl rfl, ⟨ag_load_pt (.agg [_, _]) lay46 rfl rfl rfl rfl, ⟨ag_load_pt (.c _) lay61 rfl rfl rfl rfl, ⟨trivial, ⟨trivial, trivial⟩⟩⟩⟩⟩⟩⟩, ?_⟩
        refine d_e rfl rfl rfl ?_
        refine v_app_flat_sl (H' := [_, _, _, _, _, _, _, _, _, _, _, _]) pe_sc pe_len lay61 lay46 rfl rfl (by first | rfl | (simp; done) | (simp; omega) | omega | (rw [bg_l (by omega)])) rfl rfl rfl (by unfold maxLen; simp only []; omega) rfl rfl ?_
        refine v_nil ⟨⟨ag_load_pt (.c _) lay28 rfl rfl rfl rfl, ⟨ag_load_pt (.agg [_, _]) lay46 rfl rfl rfl rfl, ⟨ag_load_pt (.c _) lay61 rfl rfl rfl rfl, ⟨trivial, ⟨trivial, ⟨trivial, ⟨trivial, trivial⟩⟩⟩⟩⟩⟩⟩, ?_⟩
        refine d_e rfl rfl rfl ?_
        refine v_app_flat_sl (H' := [_, _, _, _, _, _, _, _, _, _, _, _, _]) pe_sc pe_len lay61 lay46 rfl rfl (by first | rfl | (simp; done) | (simp; omega) | omega | (rw [bg_l (by omega)])) rfl rfl rfl (by unfold maxLen; simp only []; omega) rfl rfl ?_
        refine v_nil ⟨⟨ag_load_pt (.c _) lay28 rfl rfl rfl rfl, ⟨trivial, ⟨trivial, ⟨trivial, ⟨trivial, ⟨trivial, ⟨trivial, trivial⟩⟩⟩⟩⟩⟩⟩, ?_⟩
        refine d_e rfl rfl rfl ?_
        refine v_app_flat_sl (H' := [_, _, _, _, _, _, _, _, _, _, _, _, _, _]) int_sc int_len lay28 lay2 rfl rfl (by first | rfl | (simp; done) | (simp; omega) | omega | (rw [bg_l (by omega)])) rfl rfl rfl (by unfold maxLen; simp only []; omega) rfl rfl ?_
        refine v_nil ⟨again_nil, ?_⟩
        refine d_q rfl rfl rfl rfl rfl ?_
        refine v_nil_pt rfl ?_
        refine v_nil ?_
        refine d_q rfl rfl rfl rfl rfl ?_
        refine v_fa_pt (off' := 0) lay94 rfl rfl rfl ?_
        refine v_nil ?_
        refine d_q rfl rfl rfl rfl rfl ?_
        refine v_fa_pt (off' := 0) lay64 rfl rfl rfl ?_
        refine v_nil ?_
        refine d_e rfl rfl rfl ?_
        refine v_store (H' := [_, _, _, ⟨[_, _, _, _, _, _, _], 94, true⟩, _, _, _, _, _, _, _, _, _, _]) lay61 rfl rfl rfl rfl rfl rfl ?_
        refine v_nil ⟨again_nil, ?_⟩
        refine d_q rfl rfl rfl rfl rfl ?_
        refine v_nil_pt rfl ?_
        refine v_nil ?_
        refine d_q rfl rfl rfl rfl rfl ?_
        refine v_fa_pt (off' := 0) lay94 rfl rfl rfl ?_
        refine v_nil ?_
        refine d_q rfl rfl rfl rfl rfl ?_
        refine v_fa_pt (off' := 1) lay64 rfl rfl rfl ?_
        refine v_nil ?_
        refine d_e rfl rfl rfl ?_
        refine v_store (H' := [_, _, _, ⟨[_, _, _, _, _, _, _], 94, true⟩, _, _, _, _, _, _, _, _, _, _]) lay61 rfl rfl rfl rfl rfl rfl ?_
        refine v_nil ⟨again_nil, ?_⟩
        refine d_q rfl rfl rfl rfl rfl ?_
        refine v_nil_pt rfl ?_
        refine v_nil ?_
        refine d_q rfl rfl rfl rfl rfl ?_
        refine v_fa_pt (off' := 0) lay94 rfl rfl rfl ?_
        refine v_nil ?_
        refine d_q rfl rfl rfl rfl rfl ?_
        refine v_fa_pt (off' := 2) lay64 rfl rfl rfl ?_
        refine v_nil ?_
        refine d_e rfl rfl rfl ?_
        refine v_store (H' := [_, _, _, ⟨[_, _, _, _, _, _, _], 94, true⟩, _, _, _, _, _, _, _, _, _, _]) lay61 rfl rfl rfl rfl rfl rfl ?_
        refine v_nil ⟨again_nil, ?_⟩
        refine d_q rfl rfl rfl rfl rfl ?_
        refine v_nil_pt rfl ?_
        refine v_nil ?_
        refine d_q rfl rfl rfl rfl rfl ?_
        refine v_fa_pt (off' := 0) lay94 rfl rfl rfl ?_
        refine v_nil ?_
        refine d_q rfl rfl rfl rfl rfl ?_
        refine v_fa_pt (off' := 3) lay64 rfl rfl rfl ?_
        refine v_nil ?_
        refine d_e rfl rfl rfl ?_
        refine v_store (H' := [_, _, _, ⟨[_, _, _, _, _, _, _], 94, true⟩, _, _, _, _, _, _, _, _, _, _]) lay28 rfl rfl rfl rfl rfl rfl ?_
        refine v_nil ⟨again_nil, ?_⟩
        refine d_nil ?_
        refine q_bn ?_
        refine q_n ?_
        refine w_reg rfl ?_
        refine v_add lay3 rfl rfl (i64r (by omega)) ?_
        refine v_move rfl ?_
        refine v_nil ?_
        refine q_n ?_
        refine ⟨_, _, _, ?_, ⟨i + 1, rfl, by omega, rfl, rfl⟩, by omega⟩
        exact turn [some 0, some 1, some 2, some 3, some 10, some 11, some 12, some 13, some 8] rfl rfl rfl ⟨⟨_, rfl, .cons tr_v (.cons tr_sl .nil)⟩, ⟨_, rfl, .cons tr_v (.cons tr_v (.cons tr_v (.cons tr_v (.cons tr_v .nil))))⟩, ⟨_, rfl, .cons tr_v (.cons tr_sl .nil)⟩, ⟨_, rfl, .cons (tr_mun rfl (by first | rfl | (simp; done) | (simp; omega) | (rw [bg_l (by omega)]))) (.cons (tr_mun rfl (by first | rfl | (simp; done) | (simp; omega) | (rw [bg_l (by omega)]))) (.cons (tr_mun rfl (by first | rfl | (simp; done) | (simp; omega) | (rw [bg_l (by omega)]))) (.cons (tr_mun rfl (by first | rfl | (simp; done) | (simp; omega) | (rw [bg_l (by omega)]))) (.cons (tr_mun rfl (by first | rfl | (simp; done) | (simp; omega) | (rw [bg_l (by omega)]))) (.cons tr_v (.cons tr_sl .nil))))))⟩, ⟨_, rfl, trc_flat pe_sc (congrArg (flat pe) (bg_step (by omega)))⟩, ⟨_, rfl, trc_flat pe_sc (congrArg (flat pe) (bg_step (by omega)))⟩, ⟨_, rfl, trc_flat pe_sc (congrArg (flat pe) (bg_step (by omega)))⟩, ⟨_, rfl, trc_flat int_sc (congrArg (flat int) (List.replicate_succ').symm)⟩, ⟨_, rfl, .nil⟩, trivial⟩ ⟨tr_pt rfl, tr_sl, tr_v, tr_v, trivial⟩
      · skip
        refine v_nil ?_
        refine q_n ?_
        refine w_seq ?_
        refine w_f rfl ?_
        refine w_exit ?_
        refine q_e ?_
        refine q_e ?_
        refine q_hit ?_
        refine q_n ?_
        refine w_seq ?_
        refine w_reg rfl ?_
        refine v_move rfl ?_
        refine v_assign rfl ?_
        refine v_nil ?_
        refine q_n ?_
        refine w_ret ?_
        refine r_r rfl ?_
        refine v_assign rfl ?_
        refine v_assign (c := .v (.int .i64 0)) rfl ?_
        refine v_nil ?_
        refine q_n ?_
        refine w_seq ?_
        refine w_seq ?_
        refine w_reg rfl ?_
        refine v_move rfl ?_
        refine v_len_sl lay41 rfl ?_
        refine v_move (c := .v (.int .i64 0)) rfl ?_
        refine v_nil ?_
        refine q_n ?_
        refine w_block ?_
        refine w_loop (fun k sl H => ∃ (i : Nat) (b : Bd) (cs : List Int), k = ds.length - i ∧ i ≤ ds.length ∧ stB p fs ds i = (b, cs) ∧ okB fs.length i b ∧ cs.length = i ∧ sl = sls [(6, .c (.pt 2 0)), (7, cI (cz cs)), (12, .c (dcs false ds)), (13, cI ds.length), (14, cI i)] ∧ H = [⟨cen false p fs, 33, true⟩, ⟨[.v (.slice none 0 0), .v (.slice none 0 0), .v (.slice none 0 0), .v (.slice none 0 0), .v (.slice none 0 0)], 64, true⟩, ⟨[.mu 3 0 b.nw.length 2, .mu 4 0 b.ps.length 2, .mu 5 0 b.sv.length 2, .mu 6 0 b.kn.length 1, .mu 7 0 b.wr.length 4, .v (.int .i64 p), ints false fs], 94, true⟩, ⟨flat pe b.nw, 46, true⟩, ⟨flat pe b.ps, 46, true⟩, ⟨flat pe b.sv, 46, true⟩, ⟨flat int b.kn, 2, true⟩, ⟨flat nce b.wr, 101, true⟩]) ?_ ?_
        · have hok5 := (ok_0 fs).wr
          obtain rfl : i = fs.length := by omega
          refine ⟨_, _, _, ?_, 0, ⟨bg fs fs.length, bg fs fs.length, bg fs fs.length, List.replicate fs.length 0, []⟩, [], rfl, Nat.zero_le _, rfl, ok_0 fs, rfl, rfl, rfl⟩
          exact turn [some 0, some 1, some 3, some 4, some 5, some 6, some 7, some 8] rfl rfl rfl ⟨⟨_, rfl, .cons tr_v (.cons tr_sl .nil)⟩, ⟨_, rfl, .cons tr_v (.cons tr_v (.cons tr_v (.cons tr_v (.cons tr_v .nil))))⟩, ⟨_, rfl, .cons (tr_mun rfl (by first | rfl | (simp; done) | (simp; omega) | (rw [bg_l (by omega)]))) (.cons (tr_mun rfl (by first | rfl | (simp; done) | (simp; omega) | (rw [bg_l (by omega)]))) (.cons (tr_mun rfl (by first | rfl | (simp; done) | (simp; omega) | (rw [bg_l (by omega)]))) (.cons (tr_mun rfl (by first | rfl | (simp; done) | (simp; omega) | (rw [bg_l (by omega)]))) (.cons (tr_mun rfl (by first | rfl | (simp; done) | (simp; omega) | (rw [bg_l (by omega)]))) (.cons tr_v (.cons tr_sl .nil))))))⟩, ⟨_, rfl, trc_flat pe_sc rfl⟩, ⟨_, rfl, trc_flat pe_sc rfl⟩, ⟨_, rfl, trc_flat pe_sc rfl⟩, ⟨_, rfl, trc_flat int_sc rfl⟩, ⟨_, rfl, .nil⟩, trivial⟩ ⟨tr_pt rfl, (tr_i rfl), tr_sl, tr_v, tr_v, trivial⟩
        · rintro k sl H ⟨i, b, cs, rfl, hi, hst, hok, hcl, rfl, rfl⟩
          have hcz := cz_len cs
          refine w_seq ?_
          refine w_reg rfl ?_
          refine v_lss lay3 rfl rfl (fun h4 => ?_) (fun h4 => ?_)
          · skip
            have hi1 : i < ds.length := by omega
            have hd : dOk ds[i] := hds _ (List.getElem_mem hi1)
            have hd1 := hd.1
            obtain ⟨a, ha⟩ : ∃ a : Nat, ds[i].2.1 = a := Int.eq_ofNat_of_zero_le hd.2.1.1
            have ha9 : a ≤ 999 := by have hd2 := hd.2.1.2; omega
            have n1 := hok.nw
            have n2 := hok.ps
            have n3 := hok.sv
            have n4 := hok.kn
            have n5 := hok.wr
            refine v_nil ?_
            refine q_n ?_
            refine w_seq ?_
            refine w_t rfl ?_
            refine w_skip ?_
            refine q_n ?_
            refine w_seq ?_
            refine w_block ?_
            refine w_seq ?_
            refine w_reg rfl ?_
            refine v_idx_e (k := 3) (i) dce_len lay41 lay25 rfl rfl rfl (rfl) rfl (rfl) (by omega) ?_
            refine v_load_vw (.agg [.v _, .v _, .v _]) lay25 rfl rfl rfl ?_
            refine v_alloc (m := 8) (H' := [_, _, _, _, _, _, _, _, ⟨[.v _, .v _, .v _], 25, true⟩]) lay25 rfl rfl ?_
            refine v_store (H' := [_, _, _, _, _, _, _, _, ⟨[_, _, _], 25, true⟩]) lay25 rfl rfl rfl rfl rfl rfl ?_
            refine v_nil ?_
            refine q_n ?_
            refine w_seq ?_
            refine w_reg rfl ?_
            refine v_move rfl ?_
            refine v_load_pt (.agg [_, _, _]) lay25 rfl rfl rfl rfl ?_
            refine v_inl (n := 133) (drawD_ok X) (fun _ _ => Go.Proofs.Try.call62 _ _) Go.Proofs.Try.func62 rfl rfl rfl rfl ?_
            refine w_seq ?_
            refine w_reg rfl ?_
            refine v_box (m := 9) (H' := [_, _, _, _, _, _, _, _, _, _]) lay25 rfl rfl rfl ?_
            refine v_assign (c := .v (.int .i64 0)) rfl ?_
            refine v_nil ?_
            refine q_n ?_
            refine w_seq ?_
            refine w_seq ?_
            refine w_reg rfl ?_
            refine v_move rfl ?_
            refine v_load_pt (.agg [_, _, _]) lay25 rfl rfl rfl rfl ?_
            refine v_call (c90 p fs b _ a ha (by assumption) (by omega) (by omega)) rfl rfl rfl (.cons (vw_pt rfl (.cons (dn_flat pe_sc pe_len rfl trivial rfl) (.cons (dn_flat pe_sc pe_len rfl trivial rfl) (.cons (dn_flat pe_sc pe_len rfl trivial rfl) (.cons (dn_flat int_sc int_len rfl trivial rfl) (.cons (dn_flat nce_sc nce_len rfl trivial rfl) (.cons .v (.cons (.sl (fun h => by cases h)) .nil)))))))) (.cons (vw_agg (.cons vw_v (.cons vw_v (.cons vw_v .nil)))) .nil)) ?_
            refine v_assign rfl ?_
            refine v_nil ?_
            refine q_n ?_
            refine w_seq ?_
            refine w_reg rfl ?_
            refine v_move rfl ?_
            refine v_neq lay2 rfl rfl (fun h6 => ?_) (fun h6 => ?_)
            · skip
              have hcne := h6
              refine v_nil ?_
              refine q_n ?_
              refine w_t rfl ?_
              refine w_seq ?_
              refine w_reg rfl ?_
              refine v_move rfl ?_
              refine v_assign rfl ?_
              refine v_nil ?_
              refine q_n ?_
              refine w_ret (q_r ?_)
              refine r_r rfl ?_
              refine v_eql lay2 rfl rfl (fun h7 => ?_) (fun h7 => ?_)
              · skip
                exact absurd h7 hcne
              · skip
                refine v_nil ?_
                refine q_n ?_
                refine w_f rfl ?_
                refine w_skip ?_
                refine q_bn ?_
                refine q_n ?_
                refine w_reg rfl ?_
                refine v_add lay3 rfl rfl (i64r (by omega)) ?_
                refine v_move rfl ?_
                refine v_nil ?_
                refine q_n ?_
                have hdo : doB p b ds[i] = (b, (doB p b ds[i]).2) := (Prod.ext (do_bad hcne) rfl)
                refine ⟨_, _, _, ?_, ⟨i + 1, b, cs ++ [(doB p b ds[i]).2], rfl, by omega, st_step hst hi1 hdo, ok_do hok hd hdo, by simp; omega, rfl, rfl⟩, by omega⟩
                exact turn [some 0, some 1, some 2, some 3, some 4, some 5, some 6, some 7] rfl rfl rfl ⟨⟨_, rfl, .cons tr_v (.cons tr_sl .nil)⟩, ⟨_, rfl, .cons tr_v (.cons tr_v (.cons tr_v (.cons tr_v (.cons tr_v .nil))))⟩, ⟨_, rfl, .cons (tr_mun rfl (by first | rfl | (simp; done) | (simp; omega) | (rw [bg_l (by omega)]))) (.cons (tr_mun rfl (by first | rfl | (simp; done) | (simp; omega) | (rw [bg_l (by omega)]))) (.cons (tr_mun rfl (by first | rfl | (simp; done) | (simp; omega) | (rw [bg_l (by omega)]))) (.cons (tr_mun rfl (by first | rfl | (simp; done) | (simp; omega) | (rw [bg_l (by omega)]))) (.cons (tr_mun rfl (by first | rfl | (simp; done) | (simp; omega) | (rw [bg_l (by omega)]))) (.cons tr_v (.cons tr_sl .nil))))))⟩, ⟨_, rfl, trc_flat pe_sc rfl⟩, ⟨_, rfl, trc_flat pe_sc rfl⟩, ⟨_, rfl, trc_flat pe_sc rfl⟩, ⟨_, rfl, trc_flat int_sc rfl⟩, ⟨_, rfl, trc_flat nce_sc rfl⟩, trivial⟩ ⟨tr_pt rfl, (tr_i (cz_ne hcne)), tr_sl, tr_v, tr_v, trivial⟩
            · skip
              obtain ⟨e1, e2, e3, e4, e5⟩ := cd0 ha h6
              refine v_nil ?_
              refine q_n ?_
              refine w_f rfl ?_
              refine w_skip ?_
              refine q_n ?_
              refine w_seq ?_
              refine w_seq ?_
              refine w_reg rfl ?_
              refine v_fa_pt (off' := 0) lay25 rfl rfl rfl ?_
              refine v_load_pt (.c _) lay2 rfl rfl rfl rfl ?_
              refine v_nil ?_
              refine q_n ?_
              refine w_block ?_
              refine w_seq ?_
              refine w_reg rfl ?_
              refine v_eql lay2 rfl rfl (fun h8 => ?_) (fun h8 => ?_)
              · skip
                have hk1 := h8
                have k2 : a < b.ps.length := e3 (by omega)
                have k1 : a < b.nw.length := by omega
                have k3 : a < b.sv.length := by omega
                have hve := hok.ve _ (List.getElem_mem k1)
                refine v_assign rfl ?_
                refine v_nil ?_
                refine q_n ?_
                refine w_t rfl ?_
                refine w_draw [0, 1, 3, 7, 15, 0, 32, 0, 128, 0, 512, 1536, 3584, 7680, 0, 16384, 65024, 130560, 261632, 523776, 1048448, 2097151, 4194303] [⟨0, 0, []⟩, ⟨1, 0, []⟩, ⟨2, 0, []⟩, ⟨3, 0, []⟩, ⟨4, 0, []⟩, ⟨5, 0, []⟩, ⟨6, 0, []⟩, ⟨7, 0, []⟩, ⟨8, 0, []⟩, ⟨9, 0, []⟩, ⟨10, 0, []⟩, ⟨11, 0, []⟩, ⟨12, 0, []⟩, ⟨13, 0, []⟩, ⟨14, 0, []⟩, ⟨15, 0, []⟩, ⟨16, 0, []⟩, ⟨17, 0, []⟩, ⟨18, 0, []⟩, ⟨19, 0, []⟩, ⟨20, 0, []⟩, ⟨21, 0, []⟩, ⟨22, 1, []⟩] rfl rfl ?_
                refine d_q rfl rfl rfl rfl rfl ?_
                refine v_move rfl ?_
                refine v_nil ?_
                refine d_q rfl rfl rfl rfl rfl ?_
                refine v_nil_pt rfl ?_
                refine v_nil ?_
                refine d_q rfl rfl rfl rfl rfl ?_
                refine v_fa_pt (off' := 0) lay94 rfl rfl rfl ?_
                refine v_nil ?_
                refine d_q rfl rfl rfl rfl rfl ?_
                refine v_fa_pt (off' := 0) lay64 rfl rfl rfl ?_
                refine v_nil ?_
                refine d_q rfl rfl rfl rfl rfl ?_
                refine v_load_pt (.c _) lay61 rfl rfl rfl rfl ?_
                refine v_nil ?_
                refine d_q rfl rfl rfl rfl rfl ?_
                refine v_fa_pt (off' := 1) lay25 rfl rfl rfl ?_
                refine v_nil ?_
                refine d_q rfl rfl rfl rfl rfl ?_
                refine v_load_pt (.c _) lay2 rfl rfl rfl rfl ?_
                refine v_nil ?_
                refine d_q rfl rfl rfl rfl rfl ?_
                refine v_fa_pt (off' := 2) lay25 rfl rfl rfl ?_
                refine v_nil ?_
                refine d_q rfl rfl rfl rfl rfl ?_
                refine v_load_pt (.c _) lay2 rfl rfl rfl rfl ?_
                refine v_nil ?_
                refine d_q rfl rfl rfl rfl rfl ?_
                refine v_move rfl ?_
                refine v_nil ?_
                refine d_q rfl rfl rfl rfl rfl ?_
                refine v_nil_pt rfl ?_
                refine v_nil ?_
                refine d_q rfl rfl rfl rfl rfl ?_
                refine v_fa_pt (off' := 0) lay94 rfl rfl rfl ?_
                refine v_nil ?_
                refine d_q rfl rfl rfl rfl rfl ?_
                refine v_fa_pt (off' := 0) lay64 rfl rfl rfl ?_
                refine v_nil ?_
                refine d_q rfl rfl rfl rfl rfl ?_
                refine v_load_pt (.c _) lay61 rfl rfl rfl rfl ?_
                refine v_nil ?_
                refine d_q rfl rfl rfl rfl rfl ?_
                refine v_fa_pt (off' := 1) lay25 rfl rfl rfl ?_
                refine v_nil ?_
                refine d_q rfl rfl rfl rfl rfl ?_
                refine v_load_pt (.c _) lay2 rfl rfl rfl rfl ?_
                refine v_nil ?_
                refine d_q rfl rfl rfl rfl rfl ?_
                refine v_idx_mu_e (k := 2) (off := 0) (a) lay61 lay46 rfl rfl rfl (ha) (by omega) ?_
                refine v_nil ?_
                refine d_q rfl rfl rfl rfl rfl ?_
                refine v_fa_pt (off' := _) lay46 rfl rfl rfl ?_
                refine v_nil ?_
                refine d_q rfl rfl rfl rfl rfl ?_
                refine v_load_flat a 1 (.c (.v _)) pe_len lay2 rfl rfl (by omega) (by first | omega | (simp; omega)) rfl rfl ?_
                refine v_nil ?_
                refine d_q rfl rfl rfl rfl rfl ?_
                refine v_add lay2 rfl rfl (i64r (by omega)) ?_
                refine v_nil ?_
                refine d_q rfl rfl rfl rfl rfl ?_
                refine v_build [(0, 1), (1, 1)] [.v _, .v _] lay46 rfl rfl ?_
                refine v_nil ?_
                refine d_q rfl rfl rfl rfl rfl ?_
                refine v_idx_mu_e (k := 2) (off := 0) (a) lay61 lay46 rfl rfl rfl (ha) (by omega) ?_
                refine v_nil ?_
                refine d_e rfl rfl rfl ?_
                refine v_store_flat (H' := [_, _, _, _, _, _, _, _, _, _]) a 0 ((ds[i].2.2, b.nw[a].2 + 1)) pe_len lay46 rfl rfl rfl (by omega) (by first | omega | (simp; omega)) rfl rfl (rfl) rfl ?_
                refine v_nil ⟨again_nil, ?_⟩
                refine d_nil ?_
                refine q_bn ?_
                refine q_n ?_
                refine w_seq ?_
                refine w_reg rfl ?_
                refine v_assign (c := .v (.int .i64 0)) rfl ?_
                refine v_nil ?_
                refine q_n ?_
                refine w_ret ?_
                refine r_r rfl ?_
                refine v_eql lay2 rfl rfl (fun h11 => ?_) (fun h11 => ?_)
                · skip
                  refine v_nil ?_
                  refine q_n ?_
                  refine w_t rfl ?_
                  refine w_reg rfl ?_
                  refine v_move rfl ?_
                  refine v_add lay2 rfl rfl (i64r (by omega)) ?_
                  refine v_assign rfl ?_
                  refine v_nil ?_
                  refine q_bn ?_
                  refine q_n ?_
                  refine w_reg rfl ?_
                  refine v_add lay3 rfl rfl (i64r (by omega)) ?_
                  refine v_move rfl ?_
                  refine v_nil ?_
                  refine q_n ?_
                  have hdo : doB p b ds[i] = ({ b with nw := b.nw.set a (ds[i].2.2, b.nw[a].2 + 1) }, 0) := do_order hk1 ha k2 k1 (e4 hk1)
                  refine ⟨_, _, _, ?_, ⟨i + 1, { b with nw := b.nw.set a (ds[i].2.2, b.nw[a].2 + 1) }, cs ++ [0], rfl, by omega, st_step hst hi1 hdo, ok_do hok hd hdo, by simp; omega, rfl, rfl⟩, by omega⟩
                  exact turn [some 0, some 1, some 2, some 3, some 4, some 5, some 6, some 7] rfl rfl rfl ⟨⟨_, rfl, .cons tr_v (.cons tr_sl .nil)⟩, ⟨_, rfl, .cons tr_v (.cons tr_v (.cons tr_v (.cons tr_v (.cons tr_v .nil))))⟩, ⟨_, rfl, .cons (tr_mun rfl (by first | rfl | (simp; done) | (simp; omega) | (rw [bg_l (by omega)]))) (.cons (tr_mun rfl (by first | rfl | (simp; done) | (simp; omega) | (rw [bg_l (by omega)]))) (.cons (tr_mun rfl (by first | rfl | (simp; done) | (simp; omega) | (rw [bg_l (by omega)]))) (.cons (tr_mun rfl (by first | rfl | (simp; done) | (simp; omega) | (rw [bg_l (by omega)]))) (.cons (tr_mun rfl (by first | rfl | (simp; done) | (simp; omega) | (rw [bg_l (by omega)]))) (.cons tr_v (.cons tr_sl .nil))))))⟩, ⟨_, rfl, trc_flat pe_sc rfl⟩, ⟨_, rfl, trc_flat pe_sc rfl⟩, ⟨_, rfl, trc_flat pe_sc rfl⟩, ⟨_, rfl, trc_flat int_sc rfl⟩, ⟨_, rfl, trc_flat nce_sc rfl⟩, trivial⟩ ⟨tr_pt rfl, (tr_i (cz_eq rfl)), tr_sl, tr_v, tr_v, trivial⟩
                · skip
                  exact absurd (by decide) h11
              · skip
                refine v_assign rfl ?_
                refine v_nil ?_
                refine q_n ?_
                refine w_f rfl ?_
                refine w_seq ?_
                refine w_reg rfl ?_
                refine v_eql lay2 rfl rfl (fun h12 => ?_) (fun h12 => ?_)
                · skip
                  have hk2 := h12
                  have k2 : a < b.ps.length := e3 (by omega)
                  have k1 : a < b.nw.length := by omega
                  have k3 : a < b.sv.length := by omega
                  have hve := hok.ve _ (List.getElem_mem k1)
                  refine v_assign rfl ?_
                  refine v_nil ?_
                  refine q_n ?_
                  refine w_t rfl ?_
                  refine w_seq ?_
                  refine w_draw [0, 1, 3, 7, 15, 0, 32, 127, 255, 0, 1023] [⟨0, 0, []⟩, ⟨1, 0, []⟩, ⟨2, 0, []⟩, ⟨3, 0, []⟩, ⟨4, 0, []⟩, ⟨5, 0, []⟩, ⟨6, 0, []⟩, ⟨7, 0, []⟩, ⟨8, 0, []⟩, ⟨9, 1, [4, 6, 8]⟩, ⟨10, 1, []⟩] rfl rfl ?_
                  refine d_q rfl rfl rfl rfl rfl ?_
                  refine v_move rfl ?_
                  refine v_nil ?_
                  refine d_q rfl rfl rfl rfl rfl ?_
                  refine v_nil_pt rfl ?_
                  refine v_nil ?_
                  refine d_q rfl rfl rfl rfl rfl ?_
                  refine v_fa_pt (off' := 0) lay94 rfl rfl rfl ?_
                  refine v_nil ?_
                  refine d_q rfl rfl rfl rfl rfl ?_
                  refine v_fa_pt (off' := 0) lay64 rfl rfl rfl ?_
                  refine v_nil ?_
                  refine d_q rfl rfl rfl rfl rfl ?_
                  refine v_load_pt (.c _) lay61 rfl rfl rfl rfl ?_
                  refine v_nil ?_
                  refine d_q rfl rfl rfl rfl rfl ?_
                  refine v_fa_pt (off' := 1) lay25 rfl rfl rfl ?_
                  refine v_nil ?_
                  refine d_q rfl rfl rfl rfl rfl ?_
                  refine v_load_pt (.c _) lay2 rfl rfl rfl rfl ?_
                  refine v_nil ?_
                  refine d_q rfl rfl rfl rfl rfl ?_
                  refine v_idx_mu_e (k := 2) (off := 0) (a) lay61 lay46 rfl rfl rfl (ha) (by omega) ?_
                  refine v_nil ?_
                  refine d_q rfl rfl rfl rfl rfl ?_
                  refine v_load_flat a 0 (.agg [.v _, .v _]) pe_len lay46 rfl rfl (by omega) (by first | omega | (simp; omega)) rfl rfl ?_
                  refine v_nil ?_
                  refine d_e rfl rfl rfl ?_
                  refine v_alloc (m := 10) (H' := [_, _, _, _, _, _, _, _, _, _, ⟨[.v _, .v _], 46, true⟩]) lay46 rfl rfl ?_
                  refine v_nil ⟨⟨ag_load_flat a 0 (.agg [.v _, .v _]) pe_len lay46 rfl rfl (by omega) (by first | omega | (simp; omega)) rfl rfl, ⟨ag_load_pt (.c _) lay2 rfl rfl rfl rfl, ⟨ag_load_pt (.c _) lay61 rfl rfl rfl rfl, trivial⟩⟩⟩, ?_⟩
                  refine d_e rfl rfl rfl ?_
                  refine v_store (H' := [_, _, _, _, _, _, _, _, _, _, ⟨[_, _], 46, true⟩]) lay46 rfl rfl rfl rfl rfl rfl ?_
                  refine v_nil ⟨again_nil, ?_⟩
                  refine d_nil ?_
                  refine q_n ?_
                  refine w_draw [0, 0, 2, 6, 14, 30, 0, 64, 0, 256, 0, 1024, 4032, 8128, 16382, 32767, 65535, 131071, 262143] [⟨0, 0, []⟩, ⟨1, 0, []⟩, ⟨2, 0, []⟩, ⟨3, 0, []⟩, ⟨4, 0, []⟩, ⟨5, 0, []⟩, ⟨6, 0, []⟩, ⟨7, 0, []⟩, ⟨8, 0, []⟩, ⟨9, 0, []⟩, ⟨10, 0, []⟩, ⟨11, 0, []⟩, ⟨12, 0, []⟩, ⟨13, 2, []⟩, ⟨14, 1, []⟩, ⟨15, 0, []⟩, ⟨16, 0, []⟩, ⟨17, 0, []⟩, ⟨18, 1, []⟩] rfl rfl ?_
                  refine d_q rfl rfl rfl rfl rfl ?_
                  refine v_move rfl ?_
                  refine v_nil ?_
                  refine d_q rfl rfl rfl rfl rfl ?_
                  refine v_move rfl ?_
                  refine v_nil ?_
                  refine d_q rfl rfl rfl rfl rfl ?_
                  refine v_nil_pt rfl ?_
                  refine v_nil ?_
                  refine d_q rfl rfl rfl rfl rfl ?_
                  refine v_fa_pt (off' := 0) lay94 rfl rfl rfl ?_
                  refine v_nil ?_
                  refine d_q rfl rfl rfl rfl rfl ?_
                  refine v_fa_pt (off' := 4) lay64 rfl rfl rfl ?_
                  refine v_nil ?_
                  refine d_q rfl rfl rfl rfl rfl ?_
                  refine v_load_pt (.c _) lay62 rfl rfl rfl rfl ?_
                  refine v_nil ?_
                  refine d_q rfl rfl rfl rfl rfl ?_
                  refine v_fa_pt (off' := 1) lay25 rfl rfl rfl ?_
                  refine v_nil ?_
                  refine d_q rfl rfl rfl rfl rfl ?_
                  refine v_load_pt (.c _) lay2 rfl rfl rfl rfl ?_
                  refine v_nil ?_
                  refine d_q rfl rfl rfl rfl rfl ?_
                  refine v_fa_pt (off' := 0) lay46 rfl rfl rfl ?_
                  refine v_nil ?_
                  refine d_q rfl rfl rfl rfl rfl ?_
                  refine v_load_pt (.c _) lay2 rfl rfl rfl rfl ?_
                  refine v_nil ?_
                  refine d_q rfl rfl rfl rfl rfl ?_
                  refine v_fa_pt (off' := 1) lay46 rfl rfl rfl ?_
                  refine v_nil ?_
                  refine d_q rfl rfl rfl rfl rfl ?_
                  refine v_load_pt (.c _) lay2 rfl rfl rfl rfl ?_
                  refine v_nil ?_
                  refine d_q rfl rfl rfl rfl rfl ?_
                  refine v_build [(0, 1), (1, 1), (2, 1), (3, 1)] [.v _, .v _, .v _, .v _] lay101 rfl rfl ?_
                  refine v_nil ?_
                  refine d_z (.c (.sl true 1 4 (flat nce [(false, ds[i].2.1, b.nw[a].1, b.nw[a].2)]))) rfl rfl rfl ?_
                  refine d_e rfl rfl rfl ?_
                  refine v_app_flat_sl (H' := [_, _, _, _, _, _, _, _, _, _, _, _]) nce_sc nce_len lay62 lay101 rfl rfl (by first | rfl | (simp; done) | (simp; omega) | omega | (rw [bg_l (by omega)])) rfl rfl rfl (by unfold maxLen; simp only []; omega) rfl rfl ?_
                  refine v_nil ⟨again_nil, ?_⟩
                  refine d_q rfl rfl rfl rfl rfl ?_
                  refine v_nil_pt rfl ?_
                  refine v_nil ?_
                  refine d_q rfl rfl rfl rfl rfl ?_
                  refine v_fa_pt (off' := 0) lay94 rfl rfl rfl ?_
                  refine v_nil ?_
                  refine d_q rfl rfl rfl rfl rfl ?_
                  refine v_fa_pt (off' := 4) lay64 rfl rfl rfl ?_
                  refine v_nil ?_
                  refine d_e rfl rfl rfl ?_
                  refine v_store (H' := [_, _, ⟨[_, _, _, _, _, _, _], 94, true⟩, _, _, _, _, _, _, _, _, _]) lay62 rfl rfl rfl rfl rfl rfl ?_
                  refine v_nil ⟨again_nil, ?_⟩
                  refine d_nil ?_
                  refine q_bn ?_
                  refine q_n ?_
                  refine w_seq ?_
                  refine w_reg rfl ?_
                  refine v_assign (c := .v (.int .i64 0)) rfl ?_
                  refine v_nil ?_
                  refine q_n ?_
                  refine w_ret ?_
                  refine r_r rfl ?_
                  refine v_eql lay2 rfl rfl (fun h14 => ?_) (fun h14 => ?_)
                  · skip
                    refine v_nil ?_
                    refine q_n ?_
                    refine w_t rfl ?_
                    refine w_reg rfl ?_
                    refine v_move rfl ?_
                    refine v_add lay2 rfl rfl (i64r (by omega)) ?_
                    refine v_assign rfl ?_
                    refine v_nil ?_
                    refine q_bn ?_
                    refine q_n ?_
                    refine w_reg rfl ?_
                    refine v_add lay3 rfl rfl (i64r (by omega)) ?_
                    refine v_move rfl ?_
                    refine v_nil ?_
                    refine q_n ?_
                    have hdo : doB p b ds[i] = ({ b with wr := b.wr ++ [(false, ds[i].2.1, b.nw[a].1, b.nw[a].2)] }, 0) := do_send hk2 ha k2 k1 (e5 hk2)
                    refine ⟨_, _, _, ?_, ⟨i + 1, { b with wr := b.wr ++ [(false, ds[i].2.1, b.nw[a].1, b.nw[a].2)] }, cs ++ [0], rfl, by omega, st_step hst hi1 hdo, ok_do hok hd hdo, by simp; omega, rfl, rfl⟩, by omega⟩
                    exact turn [some 0, some 1, some 2, some 3, some 4, some 5, some 6, some 11] rfl rfl rfl ⟨⟨_, rfl, .cons tr_v (.cons tr_sl .nil)⟩, ⟨_, rfl, .cons tr_v (.cons tr_v (.cons tr_v (.cons tr_v (.cons tr_v .nil))))⟩, ⟨_, rfl, .cons (tr_mun rfl (by first | rfl | (simp; done) | (simp; omega) | (rw [bg_l (by omega)]))) (.cons (tr_mun rfl (by first | rfl | (simp; done) | (simp; omega) | (rw [bg_l (by omega)]))) (.cons (tr_mun rfl (by first | rfl | (simp; done) | (simp; omega) | (rw [bg_l (by omega)]))) (.cons (tr_mun rfl (by first | rfl | (simp; done) | (simp; omega) | (rw [bg_l (by omega)]))) (.cons (tr_mun rfl (by first | rfl | (simp; done) | (simp; omega) | (rw [bg_l (by omega)]))) (.cons tr_v (.cons tr_sl .nil))))))⟩, ⟨_, rfl, trc_flat pe_sc rfl⟩, ⟨_, rfl, trc_flat pe_sc rfl⟩, ⟨_, rfl, trc_flat pe_sc rfl⟩, ⟨_, rfl, trc_flat int_sc rfl⟩, ⟨_, rfl, trc_flat nce_sc rfl⟩, trivial⟩ ⟨tr_pt rfl, (tr_i (cz_eq rfl)), tr_sl, tr_v, tr_v, trivial⟩
                  · skip
                    exact absurd (by decide) h14
                · skip
                  refine v_assign rfl ?_
                  refine v_nil ?_
                  refine q_n ?_
                  refine w_f rfl ?_
                  refine w_seq ?_
                  refine w_reg rfl ?_
                  refine v_eql lay2 rfl rfl (fun h15 => ?_) (fun h15 => ?_)
                  · skip
                    have hk3 := h15
                    have k4 : a < b.wr.length := e1 (by omega)
                    obtain ⟨pn, hpn⟩ : ∃ pn : Nat, b.wr[a].2.1 = pn := Int.eq_ofNat_of_zero_le (hok.po _ (List.getElem_mem k4)).1
                    have hp2 := (hok.po _ (List.getElem_mem k4)).2
                    have k5 : pn < b.kn.length := by omega
                    have k6 : pn < b.ps.length := by omega
                    refine v_assign rfl ?_
                    refine v_nil ?_
                    refine q_n ?_
                    refine w_t rfl ?_
                    refine w_reg rfl ?_
                    refine v_move rfl ?_
                    refine v_move rfl ?_
                    refine v_fa_pt (off' := 1) lay25 rfl rfl rfl ?_
                    refine v_load_pt (.c _) lay2 rfl rfl rfl rfl ?_
                    refine v_inl (n := 28) (drawD_ok X) (fun _ _ => Go.Proofs.Try.call92 _ _) Go.Proofs.Try.func92 rfl rfl rfl rfl ?_
                    refine w_seq ?_
                    refine w_reg rfl ?_
                    refine v_alloc (m := 10) (H' := [_, _, _, _, _, _, _, _, _, _, ⟨[.v _, .v _, .v _, .v _], 101, true⟩]) lay101 rfl rfl ?_
                    refine v_nil ?_
                    refine q_n ?_
                    refine w_seq ?_
                    refine w_reg rfl ?_
                    refine v_move rfl ?_
                    refine v_nil_pt rfl ?_
                    refine v_fa_pt (off' := 0) lay94 rfl rfl rfl ?_
                    refine v_fa_pt (off' := 4) lay64 rfl rfl rfl ?_
                    refine v_load_pt (.c _) lay62 rfl rfl rfl rfl ?_
                    refine v_move rfl ?_
                    refine v_idx_mu_e (k := 4) (off := 0) (a) lay62 lay101 rfl rfl rfl (ha) (by omega) ?_
                    refine v_load_flat a 0 (.agg [.v _, .v _, .v _, .v _]) nce_len lay101 rfl rfl (by omega) (by first | omega | (simp; omega)) rfl rfl ?_
                    refine v_alloc (m := 11) (H' := [_, _, _, _, _, _, _, _, _, _, _, ⟨[.v _, .v _, .v _, .v _], 101, true⟩]) lay101 rfl rfl ?_
                    refine v_store (H' := [_, _, _, _, _, _, _, _, _, _, _, ⟨[_, _, _, _], 101, true⟩]) lay101 rfl rfl rfl rfl rfl rfl ?_
                    refine v_nil ?_
                    refine q_n ?_
                    refine w_seq ?_
                    refine w_reg rfl ?_
                    refine v_move rfl ?_
                    refine v_move rfl ?_
                    refine v_nil_pt rfl ?_
                    refine v_fa_pt (off' := 0) lay94 rfl rfl rfl ?_
                    refine v_fa_pt (off' := 4) lay64 rfl rfl rfl ?_
                    refine v_load_pt (.c _) lay62 rfl rfl rfl rfl ?_
                    refine v_move rfl ?_
                    refine v_move rfl ?_
                    refine v_add lay3 rfl rfl (i64r (by omega)) ?_
                    refine v_del (ys := b.wr) (i := a) (H' := [_, _, _, _, _, _, _, _, _, _, _, _, _]) rfl rfl (by omega) ha rfl rfl rfl rfl ?_
                    refine v_nil_pt rfl ?_
                    refine v_fa_pt (off' := 0) lay94 rfl rfl rfl ?_
                    refine v_fa_pt (off' := 4) lay64 rfl rfl rfl ?_
                    refine v_store (H' := [_, _, ⟨[_, _, _, _, _, _, _], 94, true⟩, _, _, _, _, _, _, _, _, _, _]) lay62 rfl rfl rfl rfl rfl rfl ?_
                    refine v_nil ?_
                    refine q_n ?_
                    refine w_seq ?_
                    refine w_reg rfl ?_
                    refine v_load_pt (.agg [_, _, _, _]) lay101 rfl rfl rfl rfl ?_
                    refine v_store (H' := [_, _, _, _, _, _, _, _, _, _, ⟨[_, _, _, _], 101, true⟩, _, _]) lay101 rfl rfl rfl rfl rfl rfl ?_
                    refine v_nil ?_
                    refine q_n ?_
                    refine w_ret ?_
                    refine r_r rfl ?_
                    refine v_inl (n := 71) (drawD_ok X) (fun _ _ => Go.Proofs.Try.call91 _ _) Go.Proofs.Try.func91 rfl rfl rfl rfl ?_
                    refine w_seq ?_
                    refine w_reg rfl ?_
                    refine v_box (m := 13) (H' := [_, _, _, _, _, _, _, _, _, _, _, _, _, _]) lay101 rfl rfl rfl ?_
                    refine v_nil ?_
                    refine q_n ?_
                    refine w_seq ?_
                    refine w_seq ?_
                    refine w_reg rfl ?_
                    refine v_fa_pt (off' := 0) lay101 rfl rfl rfl ?_
                    refine v_load_ptb lay4 rfl rfl rfl rfl (fun h17 => ?_) (fun h17 => ?_)
                    · skip
                      have hbk := h17
                      refine v_nil ?_
                      refine q_n ?_
                      refine w_t rfl ?_
                      refine w_seq ?_
                      refine w_draw [0, 1, 3, 7, 15, 0, 32, 0, 128, 384, 896, 1920, 0, 4096, 16256, 32640, 0, 65536, 262016, 524287, 1048575] [⟨0, 0, []⟩, ⟨1, 0, []⟩, ⟨2, 0, []⟩, ⟨3, 0, []⟩, ⟨4, 0, []⟩, ⟨5, 0, []⟩, ⟨6, 0, []⟩, ⟨7, 0, []⟩, ⟨8, 0, []⟩, ⟨9, 0, []⟩, ⟨10, 0, []⟩, ⟨11, 0, []⟩, ⟨12, 0, []⟩, ⟨13, 0, []⟩, ⟨14, 0, []⟩, ⟨15, 0, []⟩, ⟨16, 0, []⟩, ⟨17, 0, []⟩, ⟨18, 0, []⟩, ⟨19, 0, []⟩, ⟨20, 1, []⟩] rfl rfl ?_
                      refine d_q rfl rfl rfl rfl rfl ?_
                      refine v_move rfl ?_
                      refine v_nil ?_
                      refine d_q rfl rfl rfl rfl rfl ?_
                      refine v_nil_pt rfl ?_
                      refine v_nil ?_
                      refine d_q rfl rfl rfl rfl rfl ?_
                      refine v_fa_pt (off' := 0) lay94 rfl rfl rfl ?_
                      refine v_nil ?_
                      refine d_q rfl rfl rfl rfl rfl ?_
                      refine v_fa_pt (off' := 3) lay64 rfl rfl rfl ?_
                      refine v_nil ?_
                      refine d_q rfl rfl rfl rfl rfl ?_
                      refine v_load_pt (.c _) lay28 rfl rfl rfl rfl ?_
                      refine v_nil ?_
                      refine d_q rfl rfl rfl rfl rfl ?_
                      refine v_fa_pt (off' := 1) lay101 rfl rfl rfl ?_
                      refine v_nil ?_
                      refine d_q rfl rfl rfl rfl rfl ?_
                      refine v_load_pt (.c _) lay2 rfl rfl rfl rfl ?_
                      refine v_nil ?_
                      refine d_q rfl rfl rfl rfl rfl ?_
                      refine v_move rfl ?_
                      refine v_nil ?_
                      refine d_q rfl rfl rfl rfl rfl ?_
                      refine v_nil_pt rfl ?_
                      refine v_nil ?_
                      refine d_q rfl rfl rfl rfl rfl ?_
                      refine v_fa_pt (off' := 0) lay94 rfl rfl rfl ?_
                      refine v_nil ?_
                      refine d_q rfl rfl rfl rfl rfl ?_
                      refine v_fa_pt (off' := 3) lay64 rfl rfl rfl ?_
                      refine v_nil ?_
                      refine d_q rfl rfl rfl rfl rfl ?_
                      refine v_load_pt (.c _) lay28 rfl rfl rfl rfl ?_
                      refine v_nil ?_
                      refine d_q rfl rfl rfl rfl rfl ?_
                      refine v_fa_pt (off' := 1) lay101 rfl rfl rfl ?_
                      refine v_nil ?_
                      refine d_q rfl rfl rfl rfl rfl ?_
                      refine v_load_pt (.c _) lay2 rfl rfl rfl rfl ?_
                      refine v_nil ?_
                      refine d_q rfl rfl rfl rfl rfl ?_
                      refine v_idx_mu_e (k := 1) (off := 0) (pn) lay28 lay2 rfl rfl rfl (hpn) (by omega) ?_
                      refine v_nil ?_
                      refine d_q rfl rfl rfl rfl rfl ?_
                      refine v_load_flat pn 0 (.c (.v _)) int_len lay2 rfl rfl (by omega) (by first | omega | (simp; omega)) rfl rfl ?_
                      refine v_nil ?_
                      refine d_q rfl rfl rfl rfl rfl ?_
                      refine v_fa_pt (off' := 3) lay101 rfl rfl rfl ?_
                      refine v_nil ?_
                      refine d_q rfl rfl rfl rfl rfl ?_
                      refine v_load_pt (.c _) lay2 rfl rfl rfl rfl ?_
                      refine v_nil ?_
                      refine d_q rfl rfl rfl rfl rfl ?_
                      refine v_max rfl rfl ?_
                      refine v_nil ?_
                      refine d_q rfl rfl rfl rfl rfl ?_
                      refine v_idx_mu_e (k := 1) (off := 0) (pn) lay28 lay2 rfl rfl rfl (hpn) (by omega) ?_
                      refine v_nil ?_
                      refine d_e rfl rfl rfl ?_
                      refine v_store_flat (H' := [_, _, _, _, _, _, _, _, _, _, _, _, _, _]) pn 0 (mx b.kn[pn] b.wr[a].2.2.2) int_len lay2 rfl rfl rfl (by omega) (by first | omega | (simp; omega)) rfl rfl (rfl) rfl ?_
                      refine v_nil ⟨again_nil, ?_⟩
                      refine d_nil ?_
                      refine q_n ?_
                      refine w_ret (q_r ?_)
                      refine r_r rfl ?_
                      refine v_nil ?_
                      refine q_bn ?_
                      refine q_n ?_
                      refine w_seq ?_
                      refine w_reg rfl ?_
                      refine v_assign (c := .v (.int .i64 0)) rfl ?_
                      refine v_nil ?_
                      refine q_n ?_
                      refine w_ret ?_
                      refine r_r rfl ?_
                      refine v_eql lay2 rfl rfl (fun h20 => ?_) (fun h20 => ?_)
                      · skip
                        refine v_nil ?_
                        refine q_n ?_
                        refine w_t rfl ?_
                        refine w_reg rfl ?_
                        refine v_move rfl ?_
                        refine v_add lay2 rfl rfl (i64r (by omega)) ?_
                        refine v_assign rfl ?_
                        refine v_nil ?_
                        refine q_bn ?_
                        refine q_n ?_
                        refine w_reg rfl ?_
                        refine v_add lay3 rfl rfl (i64r (by omega)) ?_
                        refine v_move rfl ?_
                        refine v_nil ?_
                        refine q_n ?_
                        have hdo : doB p b ds[i] = ({ b with kn := b.kn.set pn (mx b.kn[pn] b.wr[a].2.2.2), wr := b.wr.take a ++ b.wr.drop (a + 1) }, 0) := do_deliver hk3 ha k4 (come_back (b := cutW b a) hbk hpn k5)
                        refine ⟨_, _, _, ?_, ⟨i + 1, { b with kn := b.kn.set pn (mx b.kn[pn] b.wr[a].2.2.2), wr := b.wr.take a ++ b.wr.drop (a + 1) }, cs ++ [0], rfl, by omega, st_step hst hi1 hdo, ok_do hok hd hdo, by simp; omega, rfl, rfl⟩, by omega⟩
                        exact turn [some 0, some 1, some 2, some 3, some 4, some 5, some 6, some 12] rfl rfl rfl ⟨⟨_, rfl, .cons tr_v (.cons tr_sl .nil)⟩, ⟨_, rfl, .cons tr_v (.cons tr_v (.cons tr_v (.cons tr_v (.cons tr_v .nil))))⟩, ⟨_, rfl, .cons (tr_mun rfl (by first | rfl | (simp; done) | (simp; omega) | (rw [bg_l (by omega)]))) (.cons (tr_mun rfl (by first | rfl | (simp; done) | (simp; omega) | (rw [bg_l (by omega)]))) (.cons (tr_mun rfl (by first | rfl | (simp; done) | (simp; omega) | (rw [bg_l (by omega)]))) (.cons (tr_mun rfl (by first | rfl | (simp; done) | (simp; omega) | (rw [bg_l (by omega)]))) (.cons (tr_mun rfl (by first | rfl | (simp; done) | (simp; omega) | (rw [bg_l (by omega)]))) (.cons tr_v (.cons tr_sl .nil))))))⟩, ⟨_, rfl, trc_flat pe_sc rfl⟩, ⟨_, rfl, trc_flat pe_sc rfl⟩, ⟨_, rfl, trc_flat pe_sc rfl⟩, ⟨_, rfl, trc_flat int_sc rfl⟩, ⟨_, rfl, trc_flat nce_sc rfl⟩, trivial⟩ ⟨tr_pt rfl, (tr_i (cz_eq rfl)), tr_sl, tr_v, tr_v, trivial⟩
                      · skip
                        exact absurd (by decide) h20
                    · skip
                      have hbk := h17
                      refine v_nil ?_
                      refine q_n ?_
                      refine w_f rfl ?_
                      refine w_skip ?_
                      refine q_n ?_
                      refine w_seq ?_
                      refine w_draw [0, 1, 3, 7, 15, 0, 32, 127, 255] [⟨0, 0, []⟩, ⟨1, 0, []⟩, ⟨2, 0, []⟩, ⟨3, 0, []⟩, ⟨4, 0, []⟩, ⟨5, 0, []⟩, ⟨6, 0, []⟩, ⟨7, 0, []⟩, ⟨8, 0, []⟩] rfl rfl ?_
                      refine d_q rfl rfl rfl rfl rfl ?_
                      refine v_move rfl ?_
                      refine v_nil ?_
                      refine d_q rfl rfl rfl rfl rfl ?_
                      refine v_nil_pt rfl ?_
                      refine v_nil ?_
                      refine d_q rfl rfl rfl rfl rfl ?_
                      refine v_fa_pt (off' := 0) lay94 rfl rfl rfl ?_
                      refine v_nil ?_
                      refine d_q rfl rfl rfl rfl rfl ?_
                      refine v_fa_pt (off' := 1) lay64 rfl rfl rfl ?_
                      refine v_nil ?_
                      refine d_q rfl rfl rfl rfl rfl ?_
                      refine v_load_pt (.c _) lay61 rfl rfl rfl rfl ?_
                      refine v_nil ?_
                      refine d_q rfl rfl rfl rfl rfl ?_
                      refine v_fa_pt (off' := 1) lay101 rfl rfl rfl ?_
                      refine v_nil ?_
                      refine d_q rfl rfl rfl rfl rfl ?_
                      refine v_load_pt (.c _) lay2 rfl rfl rfl rfl ?_
                      refine v_nil ?_
                      refine d_q rfl rfl rfl rfl rfl ?_
                      refine v_idx_mu_e (k := 2) (off := 0) (pn) lay61 lay46 rfl rfl rfl (hpn) (by omega) ?_
                      refine v_nil ?_
                      refine d_q rfl rfl rfl rfl rfl ?_
                      refine v_assign rfl ?_
                      refine v_nil ?_
                      refine d_nil ?_
                      refine q_n ?_
                      refine w_seq ?_
                      refine w_seq ?_
                      refine w_draw [0, 1, 0, 4, 12, 28, 63] [⟨0, 0, []⟩, ⟨1, 0, []⟩, ⟨2, 0, []⟩, ⟨3, 0, []⟩, ⟨4, 0, []⟩, ⟨5, 0, []⟩, ⟨6, 0, []⟩] rfl rfl ?_
                      refine d_q rfl rfl rfl rfl rfl ?_
                      refine v_fa_pt (off' := 3) lay101 rfl rfl rfl ?_
                      refine v_nil ?_
                      refine d_q rfl rfl rfl rfl rfl ?_
                      refine v_load_pt (.c _) lay2 rfl rfl rfl rfl ?_
                      refine v_nil ?_
                      refine d_q rfl rfl rfl rfl rfl ?_
                      refine v_move rfl ?_
                      refine v_nil ?_
                      refine d_q rfl rfl rfl rfl rfl ?_
                      refine v_nil_pt rfl ?_
                      refine v_nil ?_
                      refine d_q rfl rfl rfl rfl rfl ?_
                      refine v_fa_pt (off' := _) lay46 rfl rfl rfl ?_
                      refine v_nil ?_
                      refine d_q rfl rfl rfl rfl rfl ?_
                      refine v_load_flat pn 1 (.c (.v _)) pe_len lay2 rfl rfl (by omega) (by first | omega | (simp; omega)) rfl rfl ?_
                      refine v_nil ?_
                      refine d_q rfl rfl rfl rfl rfl ?_
                      refine v_gtr lay2 rfl rfl (fun h22 => ?_) (fun h22 => ?_)
                      · skip
                        have hnv := h22
                        refine v_nil ?_
                        refine d_nil ?_
                        refine q_n ?_
                        refine w_t rfl ?_
                        refine w_reg rfl ?_
                        refine v_move rfl ?_
                        refine v_fa_pt (off' := 2) lay101 rfl rfl rfl ?_
                        refine v_load_pt (.c _) lay2 rfl rfl rfl rfl ?_
                        refine v_fa_pt (off' := 3) lay101 rfl rfl rfl ?_
                        refine v_load_pt (.c _) lay2 rfl rfl rfl rfl ?_
                        refine v_build [(0, 1), (1, 1)] [.v _, .v _] lay46 rfl rfl ?_
                        refine v_nil_pt rfl ?_
                        refine v_store_flat (H' := [_, _, _, _, _, _, _, _, _, _, _, _, _, _]) pn 0 ((b.wr[a].2.2.1, b.wr[a].2.2.2)) pe_len lay46 rfl rfl rfl (by omega) (by first | omega | (simp; omega)) rfl rfl (rfl) rfl ?_
                        refine v_nil ?_
                        refine q_n ?_
                        refine w_draw [0, 0, 2, 6, 14, 30, 0, 64, 0, 256, 768, 1792, 0, 4096, 12288, 28672, 65472, 131008, 262142, 524287, 1048575, 2097151, 4194303] [⟨0, 0, []⟩, ⟨1, 0, []⟩, ⟨2, 0, []⟩, ⟨3, 0, []⟩, ⟨4, 0, []⟩, ⟨5, 0, []⟩, ⟨6, 0, []⟩, ⟨7, 0, []⟩, ⟨8, 0, []⟩, ⟨9, 0, []⟩, ⟨10, 0, []⟩, ⟨11, 0, []⟩, ⟨12, 0, []⟩, ⟨13, 0, []⟩, ⟨14, 0, []⟩, ⟨15, 0, []⟩, ⟨16, 0, []⟩, ⟨17, 2, []⟩, ⟨18, 1, []⟩, ⟨19, 0, []⟩, ⟨20, 0, []⟩, ⟨21, 0, []⟩, ⟨22, 1, []⟩] rfl rfl ?_
                        refine d_q rfl rfl rfl rfl rfl ?_
                        refine v_move rfl ?_
                        refine v_nil ?_
                        refine d_q rfl rfl rfl rfl rfl ?_
                        refine v_move rfl ?_
                        refine v_nil ?_
                        refine d_q rfl rfl rfl rfl rfl ?_
                        refine v_nil_pt rfl ?_
                        refine v_nil ?_
                        refine d_q rfl rfl rfl rfl rfl ?_
                        refine v_fa_pt (off' := 0) lay94 rfl rfl rfl ?_
                        refine v_nil ?_
                        refine d_q rfl rfl rfl rfl rfl ?_
                        refine v_fa_pt (off' := 4) lay64 rfl rfl rfl ?_
                        refine v_nil ?_
                        refine d_q rfl rfl rfl rfl rfl ?_
                        refine v_load_pt (.c _) lay62 rfl rfl rfl rfl ?_
                        refine v_nil ?_
                        refine d_q rfl rfl rfl rfl rfl ?_
                        refine v_fa_pt (off' := 1) lay101 rfl rfl rfl ?_
                        refine v_nil ?_
                        refine d_q rfl rfl rfl rfl rfl ?_
                        refine v_load_pt (.c _) lay2 rfl rfl rfl rfl ?_
                        refine v_nil ?_
                        refine d_q rfl rfl rfl rfl rfl ?_
                        refine v_move rfl ?_
                        refine v_nil ?_
                        refine d_q rfl rfl rfl rfl rfl ?_
                        refine v_nil_pt rfl ?_
                        refine v_nil ?_
                        refine d_q rfl rfl rfl rfl rfl ?_
                        refine v_fa_pt (off' := _) lay46 rfl rfl rfl ?_
                        refine v_nil ?_
                        refine d_q rfl rfl rfl rfl rfl ?_
                        refine v_load_flat pn 0 (.c (.v _)) pe_len lay2 rfl rfl (by omega) (by first | omega | (simp; omega)) rfl rfl ?_
                        refine v_nil ?_
                        refine d_q rfl rfl rfl rfl rfl ?_
                        refine v_move rfl ?_
                        refine v_nil ?_
                        refine d_q rfl rfl rfl rfl rfl ?_
                        refine v_nil_pt rfl ?_
                        refine v_nil ?_
                        refine d_q rfl rfl rfl rfl rfl ?_
                        refine v_fa_pt (off' := _) lay46 rfl rfl rfl ?_
                        refine v_nil ?_
                        refine d_q rfl rfl rfl rfl rfl ?_
                        refine v_load_flat pn 1 (.c (.v _)) pe_len lay2 rfl rfl (by omega) (by first | omega | (simp; omega)) rfl rfl ?_
                        refine v_nil ?_
                        refine d_q rfl rfl rfl rfl rfl ?_
                        refine v_build [(0, 1), (1, 1), (2, 1), (3, 1)] [.v _, .v _, .v _, .v _] lay101 rfl rfl ?_
                        refine v_nil ?_
                        refine d_z (.c (.sl true 1 4 (flat nce [(true, b.wr[a].2.1, ((b.ps.set pn (b.wr[a].2.2.1, b.wr[a].2.2.2))[pn]'(by simpa using k6)).1, ((b.ps.set pn (b.wr[a].2.2.1, b.wr[a].2.2.2))[pn]'(by simpa using k6)).2)]))) rfl rfl rfl ?_
                        refine d_e rfl rfl rfl ?_
                        refine v_app_flat_sl (H' := [_, _, _, _, _, _, _, _, _, _, _, _, _, _, _]) nce_sc nce_len lay62 lay101 rfl rfl (by first | rfl | (simp; done) | (simp; omega) | omega | (rw [bg_l (by omega)])) rfl rfl rfl (by unfold maxLen; simp only []; omega) rfl rfl ?_
                        refine v_nil ⟨again_nil, ?_⟩
                        refine d_q rfl rfl rfl rfl rfl ?_
                        refine v_nil_pt rfl ?_
                        refine v_nil ?_
                        refine d_q rfl rfl rfl rfl rfl ?_
                        refine v_fa_pt (off' := 0) lay94 rfl rfl rfl ?_
                        refine v_nil ?_
                        refine d_q rfl rfl rfl rfl rfl ?_
                        refine v_fa_pt (off' := 4) lay64 rfl rfl rfl ?_
                        refine v_nil ?_
                        refine d_e rfl rfl rfl ?_
                        refine v_store (H' := [_, _, ⟨[_, _, _, _, _, _, _], 94, true⟩, _, _, _, _, _, _, _, _, _, _, _, _]) lay62 rfl rfl rfl rfl rfl rfl ?_
                        refine v_nil ⟨again_nil, ?_⟩
                        refine d_nil ?_
                        refine r_n rfl ?_
                        refine v_nil ?_
                        refine q_bn ?_
                        refine q_n ?_
                        refine w_seq ?_
                        refine w_reg rfl ?_
                        refine v_assign (c := .v (.int .i64 0)) rfl ?_
                        refine v_nil ?_
                        refine q_n ?_
                        refine w_ret ?_
                        refine r_r rfl ?_
                        refine v_eql lay2 rfl rfl (fun h23 => ?_) (fun h23 => ?_)
                        · skip
                          refine v_nil ?_
                          refine q_n ?_
                          refine w_t rfl ?_
                          refine w_reg rfl ?_
                          refine v_move rfl ?_
                          refine v_add lay2 rfl rfl (i64r (by omega)) ?_
                          refine v_assign rfl ?_
                          refine v_nil ?_
                          refine q_bn ?_
                          refine q_n ?_
                          refine w_reg rfl ?_
                          refine v_add lay3 rfl rfl (i64r (by omega)) ?_
                          refine v_move rfl ?_
                          refine v_nil ?_
                          refine q_n ?_
                          have hdo : doB p b ds[i] = ({ b with ps := b.ps.set pn (b.wr[a].2.2.1, b.wr[a].2.2.2), wr := (b.wr.take a ++ b.wr.drop (a + 1)) ++ [(true, b.wr[a].2.1, b.wr[a].2.2.1, b.wr[a].2.2.2)] }, 0) := do_deliver hk3 ha k4 (come_new (b := cutW b a) hbk hpn k6 hnv)
                          refine ⟨_, _, _, ?_, ⟨i + 1, { b with ps := b.ps.set pn (b.wr[a].2.2.1, b.wr[a].2.2.2), wr := (b.wr.take a ++ b.wr.drop (a + 1)) ++ [(true, b.wr[a].2.1, b.wr[a].2.2.1, b.wr[a].2.2.2)] }, cs ++ [0], rfl, by omega, st_step hst hi1 hdo, ok_do hok hd hdo, by simp; omega, rfl, rfl⟩, by omega⟩
                          exact turn [some 0, some 1, some 2, some 3, some 4, some 5, some 6, some 14] rfl rfl rfl ⟨⟨_, rfl, .cons tr_v (.cons tr_sl .nil)⟩, ⟨_, rfl, .cons tr_v (.cons tr_v (.cons tr_v (.cons tr_v (.cons tr_v .nil))))⟩, ⟨_, rfl, .cons (tr_mun rfl (by first | rfl | (simp; done) | (simp; omega) | (rw [bg_l (by omega)]))) (.cons (tr_mun rfl (by first | rfl | (simp; done) | (simp; omega) | (rw [bg_l (by omega)]))) (.cons (tr_mun rfl (by first | rfl | (simp; done) | (simp; omega) | (rw [bg_l (by omega)]))) (.cons (tr_mun rfl (by first | rfl | (simp; done) | (simp; omega) | (rw [bg_l (by omega)]))) (.cons (tr_mun rfl (by first | rfl | (simp; done) | (simp; omega) | (rw [bg_l (by omega)]))) (.cons tr_v (.cons tr_sl .nil))))))⟩, ⟨_, rfl, trc_flat pe_sc rfl⟩, ⟨_, rfl, trc_flat pe_sc rfl⟩, ⟨_, rfl, trc_flat pe_sc rfl⟩, ⟨_, rfl, trc_flat int_sc rfl⟩, ⟨_, rfl, trc_flat nce_sc (congrArg (flat nce) (by simp only [List.getElem_set_self]))⟩, trivial⟩ ⟨tr_pt rfl, (tr_i (cz_eq rfl)), tr_sl, tr_v, tr_v, trivial⟩
                        · skip
                          exact absurd (by decide) h23
                      · skip
                        have hnv := h22
                        refine v_nil ?_
                        refine d_nil ?_
                        refine q_n ?_
                        refine w_f rfl ?_
                        refine w_skip ?_
                        refine q_n ?_
                        refine w_draw [0, 0, 2, 6, 14, 30, 0, 64, 0, 256, 768, 1792, 0, 4096, 12288, 28672, 65472, 131008, 262142, 524287, 1048575, 2097151, 4194303] [⟨0, 0, []⟩, ⟨1, 0, []⟩, ⟨2, 0, []⟩, ⟨3, 0, []⟩, ⟨4, 0, []⟩, ⟨5, 0, []⟩, ⟨6, 0, []⟩, ⟨7, 0, []⟩, ⟨8, 0, []⟩, ⟨9, 0, []⟩, ⟨10, 0, []⟩, ⟨11, 0, []⟩, ⟨12, 0, []⟩, ⟨13, 0, []⟩, ⟨14, 0, []⟩, ⟨15, 0, []⟩, ⟨16, 0, []⟩, ⟨17, 2, []⟩, ⟨18, 1, []⟩, ⟨19, 0, []⟩, ⟨20, 0, []⟩, ⟨21, 0, []⟩, ⟨22, 1, []⟩] rfl rfl ?_
                        refine d_q rfl rfl rfl rfl rfl ?_
                        refine v_move rfl ?_
                        refine v_nil ?_
                        refine d_q rfl rfl rfl rfl rfl ?_
                        refine v_move rfl ?_
                        refine v_nil ?_
                        refine d_q rfl rfl rfl rfl rfl ?_
                        refine v_nil_pt rfl ?_
                        refine v_nil ?_
                        refine d_q rfl rfl rfl rfl rfl ?_
                        refine v_fa_pt (off' := 0) lay94 rfl rfl rfl ?_
                        refine v_nil ?_
                        refine d_q rfl rfl rfl rfl rfl ?_
                        refine v_fa_pt (off' := 4) lay64 rfl rfl rfl ?_
                        refine v_nil ?_
                        refine d_q rfl rfl rfl rfl rfl ?_
                        refine v_load_pt (.c _) lay62 rfl rfl rfl rfl ?_
                        refine v_nil ?_
                        refine d_q rfl rfl rfl rfl rfl ?_
                        refine v_fa_pt (off' := 1) lay101 rfl rfl rfl ?_
                        refine v_nil ?_
                        refine d_q rfl rfl rfl rfl rfl ?_
                        refine v_load_pt (.c _) lay2 rfl rfl rfl rfl ?_
                        refine v_nil ?_
                        refine d_q rfl rfl rfl rfl rfl ?_
                        refine v_move rfl ?_
                        refine v_nil ?_
                        refine d_q rfl rfl rfl rfl rfl ?_
                        refine v_nil_pt rfl ?_
                        refine v_nil ?_
                        refine d_q rfl rfl rfl rfl rfl ?_
                        refine v_fa_pt (off' := _) lay46 rfl rfl rfl ?_
                        refine v_nil ?_
                        refine d_q rfl rfl rfl rfl rfl ?_
                        refine v_load_flat pn 0 (.c (.v _)) pe_len lay2 rfl rfl (by omega) (by first | omega | (simp; omega)) rfl rfl ?_
                        refine v_nil ?_
                        refine d_q rfl rfl rfl rfl rfl ?_
                        refine v_move rfl ?_
                        refine v_nil ?_
                        refine d_q rfl rfl rfl rfl rfl ?_
                        refine v_nil_pt rfl ?_
                        refine v_nil ?_
                        refine d_q rfl rfl rfl rfl rfl ?_
                        refine v_fa_pt (off' := _) lay46 rfl rfl rfl ?_
                        refine v_nil ?_
                        refine d_q rfl rfl rfl rfl rfl ?_
                        refine v_load_flat pn 1 (.c (.v _)) pe_len lay2 rfl rfl (by omega) (by first | omega | (simp; omega)) rfl rfl ?_
                        refine v_nil ?_
                        refine d_q rfl rfl rfl rfl rfl ?_
                        refine v_build [(0, 1), (1, 1), (2, 1), (3, 1)] [.v _, .v _, .v _, .v _] lay101 rfl rfl ?_
                        refine v_nil ?_
                        refine d_z (.c (.sl true 1 4 (flat nce [(true, b.wr[a].2.1, b.ps[pn].1, b.ps[pn].2)]))) rfl rfl rfl ?_
                        refine d_e rfl rfl rfl ?_
                        refine v_app_flat_sl (H' := [_, _, _, _, _, _, _, _, _, _, _, _, _, _, _]) nce_sc nce_len lay62 lay101 rfl rfl (by first | rfl | (simp; done) | (simp; omega) | omega | (rw [bg_l (by omega)])) rfl rfl rfl (by unfold maxLen; simp only []; omega) rfl rfl ?_
                        refine v_nil ⟨again_nil, ?_⟩
                        refine d_q rfl rfl rfl rfl rfl ?_
                        refine v_nil_pt rfl ?_
                        refine v_nil ?_
                        refine d_q rfl rfl rfl rfl rfl ?_
                        refine v_fa_pt (off' := 0) lay94 rfl rfl rfl ?_
                        refine v_nil ?_
                        refine d_q rfl rfl rfl rfl rfl ?_
                        refine v_fa_pt (off' := 4) lay64 rfl rfl rfl ?_
                        refine v_nil ?_
                        refine d_e rfl rfl rfl ?_
                        refine v_store (H' := [_, _, ⟨[_, _, _, _, _, _, _], 94, true⟩, _, _, _, _, _, _, _, _, _, _, _, _]) lay62 rfl rfl rfl rfl rfl rfl ?_
                        refine v_nil ⟨again_nil, ?_⟩
                        refine d_nil ?_
                        refine r_n rfl ?_
                        refine v_nil ?_
                        refine q_bn ?_
                        refine q_n ?_
                        refine w_seq ?_
                        refine w_reg rfl ?_
                        refine v_assign (c := .v (.int .i64 0)) rfl ?_
                        refine v_nil ?_
                        refine q_n ?_
                        refine w_ret ?_
                        refine r_r rfl ?_
                        refine v_eql lay2 rfl rfl (fun h24 => ?_) (fun h24 => ?_)
                        · skip
                          refine v_nil ?_
                          refine q_n ?_
                          refine w_t rfl ?_
                          refine w_reg rfl ?_
                          refine v_move rfl ?_
                          refine v_add lay2 rfl rfl (i64r (by omega)) ?_
                          refine v_assign rfl ?_
                          refine v_nil ?_
                          refine q_bn ?_
                          refine q_n ?_
                          refine w_reg rfl ?_
                          refine v_add lay3 rfl rfl (i64r (by omega)) ?_
                          refine v_move rfl ?_
                          refine v_nil ?_
                          refine q_n ?_
                          have hdo : doB p b ds[i] = ({ b with wr := (b.wr.take a ++ b.wr.drop (a + 1)) ++ [(true, b.wr[a].2.1, b.ps[pn].1, b.ps[pn].2)] }, 0) := do_deliver hk3 ha k4 (come_old (b := cutW b a) hbk hpn k6 hnv)
                          refine ⟨_, _, _, ?_, ⟨i + 1, { b with wr := (b.wr.take a ++ b.wr.drop (a + 1)) ++ [(true, b.wr[a].2.1, b.ps[pn].1, b.ps[pn].2)] }, cs ++ [0], rfl, by omega, st_step hst hi1 hdo, ok_do hok hd hdo, by simp; omega, rfl, rfl⟩, by omega⟩
                          exact turn [some 0, some 1, some 2, some 3, some 4, some 5, some 6, some 14] rfl rfl rfl ⟨⟨_, rfl, .cons tr_v (.cons tr_sl .nil)⟩, ⟨_, rfl, .cons tr_v (.cons tr_v (.cons tr_v (.cons tr_v (.cons tr_v .nil))))⟩, ⟨_, rfl, .cons (tr_mun rfl (by first | rfl | (simp; done) | (simp; omega) | (rw [bg_l (by omega)]))) (.cons (tr_mun rfl (by first | rfl | (simp; done) | (simp; omega) | (rw [bg_l (by omega)]))) (.cons (tr_mun rfl (by first | rfl | (simp; done) | (simp; omega) | (rw [bg_l (by omega)]))) (.cons (tr_mun rfl (by first | rfl | (simp; done) | (simp; omega) | (rw [bg_l (by omega)]))) (.cons (tr_mun rfl (by first | rfl | (simp; done) | (simp; omega) | (rw [bg_l (by omega)]))) (.cons tr_v (.cons tr_sl .nil))))))⟩, ⟨_, rfl, trc_flat pe_sc rfl⟩, ⟨_, rfl, trc_flat pe_sc rfl⟩, ⟨_, rfl, trc_flat pe_sc rfl⟩, ⟨_, rfl, trc_flat int_sc rfl⟩, ⟨_, rfl, trc_flat nce_sc rfl⟩, trivial⟩ ⟨tr_pt rfl, (tr_i (cz_eq rfl)), tr_sl, tr_v, tr_v, trivial⟩
                        · skip
                          exact absurd (by decide) h24
                  · skip
                    refine v_assign rfl ?_
                    refine v_nil ?_
                    refine q_n ?_
                    refine w_f rfl ?_
                    refine w_seq ?_
                    refine w_reg rfl ?_
                    refine v_eql lay2 rfl rfl (fun h25 => ?_) (fun h25 => ?_)
                    · skip
                      have hk4 := h25
                      have k4 : a < b.wr.length := e1 (by omega)
                      obtain ⟨pn, hpn⟩ : ∃ pn : Nat, b.wr[a].2.1 = pn := Int.eq_ofNat_of_zero_le (hok.po _ (List.getElem_mem k4)).1
                      have hp2 := (hok.po _ (List.getElem_mem k4)).2
                      have k5 : pn < b.kn.length := by omega
                      have k6 : pn < b.ps.length := by omega
                      have e6 := e2 h25
                      rw [gD k4] at e6
                      refine v_assign rfl ?_
                      refine v_nil ?_
                      refine q_n ?_
                      refine w_t rfl ?_
                      refine w_draw [0, 0, 2, 6, 14, 30, 0, 64, 254, 510, 1023] [⟨0, 0, []⟩, ⟨1, 0, []⟩, ⟨2, 0, []⟩, ⟨3, 0, []⟩, ⟨4, 0, []⟩, ⟨5, 0, []⟩, ⟨6, 0, []⟩, ⟨7, 0, []⟩, ⟨8, 0, []⟩, ⟨9, 0, []⟩, ⟨10, 1, []⟩] rfl rfl ?_
                      refine d_q rfl rfl rfl rfl rfl ?_
                      refine v_move rfl ?_
                      refine v_nil ?_
                      refine d_q rfl rfl rfl rfl rfl ?_
                      refine v_move rfl ?_
                      refine v_nil ?_
                      refine d_q rfl rfl rfl rfl rfl ?_
                      refine v_nil_pt rfl ?_
                      refine v_nil ?_
                      refine d_q rfl rfl rfl rfl rfl ?_
                      refine v_fa_pt (off' := 0) lay94 rfl rfl rfl ?_
                      refine v_nil ?_
                      refine d_q rfl rfl rfl rfl rfl ?_
                      refine v_fa_pt (off' := 4) lay64 rfl rfl rfl ?_
                      refine v_nil ?_
                      refine d_q rfl rfl rfl rfl rfl ?_
                      refine v_load_pt (.c _) lay62 rfl rfl rfl rfl ?_
                      refine v_nil ?_
                      refine d_q rfl rfl rfl rfl rfl ?_
                      refine v_fa_pt (off' := 1) lay25 rfl rfl rfl ?_
                      refine v_nil ?_
                      refine d_q rfl rfl rfl rfl rfl ?_
                      refine v_load_pt (.c _) lay2 rfl rfl rfl rfl ?_
                      refine v_nil ?_
                      refine d_q rfl rfl rfl rfl rfl ?_
                      refine v_idx_mu_e (k := 4) (off := 0) (a) lay62 lay101 rfl rfl rfl (ha) (by omega) ?_
                      refine v_nil ?_
                      refine d_q rfl rfl rfl rfl rfl ?_
                      refine v_load_flat a 0 (.agg [.v _, .v _, .v _, .v _]) nce_len lay101 rfl rfl (by omega) (by first | omega | (simp; omega)) rfl rfl ?_
                      refine v_nil ?_
                      refine dec_split (p := b.wr[a].1 = true) (fun hb1 => ?_) (fun hb1 => ?_)
                      · skip
                        refine d_id ?_
                        refine d_inl (n := 71) (drawD_ok X) (fun _ _ => Go.Proofs.Try.call91 _ _) Go.Proofs.Try.func91 rfl rfl rfl rfl rfl rfl ?_
                        apply Exists.intro
                        apply Exists.intro
                        refine ⟨?_, ?_, ?_⟩
                        · skip
                          refine w_seq ?_
                          refine w_reg rfl ?_
                          refine v_box (m := 10) (H' := [_, _, _, _, _, _, _, _, _, _, _]) lay101 rfl rfl rfl ?_
                          refine v_nil ?_
                          refine q_n ?_
                          refine w_seq ?_
                          refine w_seq ?_
                          refine w_reg rfl ?_
                          refine v_fa_pt (off' := 0) lay101 rfl rfl rfl ?_
                          refine v_load_ptb lay4 rfl rfl rfl rfl (fun h27 => ?_) (fun h27 => ?_)
                          · skip
                            have hbk := h27
                            refine v_nil ?_
                            refine q_n ?_
                            refine w_t rfl ?_
                            refine w_seq ?_
                            refine w_draw [0, 1, 3, 7, 15, 0, 32, 0, 128, 384, 896, 1920, 0, 4096, 16256, 32640, 0, 65536, 262016, 524287, 1048575] [⟨0, 0, []⟩, ⟨1, 0, []⟩, ⟨2, 0, []⟩, ⟨3, 0, []⟩, ⟨4, 0, []⟩, ⟨5, 0, []⟩, ⟨6, 0, []⟩, ⟨7, 0, []⟩, ⟨8, 0, []⟩, ⟨9, 0, []⟩, ⟨10, 0, []⟩, ⟨11, 0, []⟩, ⟨12, 0, []⟩, ⟨13, 0, []⟩, ⟨14, 0, []⟩, ⟨15, 0, []⟩, ⟨16, 0, []⟩, ⟨17, 0, []⟩, ⟨18, 0, []⟩, ⟨19, 0, []⟩, ⟨20, 1, []⟩] rfl rfl ?_
                            refine d_q rfl rfl rfl rfl rfl ?_
                            refine v_move rfl ?_
                            refine v_nil ?_
                            refine d_q rfl rfl rfl rfl rfl ?_
                            refine v_nil_pt rfl ?_
                            refine v_nil ?_
                            refine d_q rfl rfl rfl rfl rfl ?_
                            refine v_fa_pt (off' := 0) lay94 rfl rfl rfl ?_
                            refine v_nil ?_
                            refine d_q rfl rfl rfl rfl rfl ?_
                            refine v_fa_pt (off' := 3) lay64 rfl rfl rfl ?_
                            refine v_nil ?_
                            refine d_q rfl rfl rfl rfl rfl ?_
                            refine v_load_pt (.c _) lay28 rfl rfl rfl rfl ?_
                            refine v_nil ?_
                            refine d_q rfl rfl rfl rfl rfl ?_
                            refine v_fa_pt (off' := 1) lay101 rfl rfl rfl ?_
                            refine v_nil ?_
                            refine d_q rfl rfl rfl rfl rfl ?_
                            refine v_load_pt (.c _) lay2 rfl rfl rfl rfl ?_
                            refine v_nil ?_
                            refine d_q rfl rfl rfl rfl rfl ?_
                            refine v_move rfl ?_
                            refine v_nil ?_
                            refine d_q rfl rfl rfl rfl rfl ?_
                            refine v_nil_pt rfl ?_
                            refine v_nil ?_
                            refine d_q rfl rfl rfl rfl rfl ?_
                            refine v_fa_pt (off' := 0) lay94 rfl rfl rfl ?_
                            refine v_nil ?_
                            refine d_q rfl rfl rfl rfl rfl ?_
                            refine v_fa_pt (off' := 3) lay64 rfl rfl rfl ?_
                            refine v_nil ?_
                            refine d_q rfl rfl rfl rfl rfl ?_
                            refine v_load_pt (.c _) lay28 rfl rfl rfl rfl ?_
                            refine v_nil ?_
                            refine d_q rfl rfl rfl rfl rfl ?_
                            refine v_fa_pt (off' := 1) lay101 rfl rfl rfl ?_
                            refine v_nil ?_
                            refine d_q rfl rfl rfl rfl rfl ?_
                            refine v_load_pt (.c _) lay2 rfl rfl rfl rfl ?_
                            refine v_nil ?_
                            refine d_q rfl rfl rfl rfl rfl ?_
                            refine v_idx_mu_e (k := 1) (off := 0) (pn) lay28 lay2 rfl rfl rfl (hpn) (by omega) ?_
                            refine v_nil ?_
                            refine d_q rfl rfl rfl rfl rfl ?_
                            refine v_load_flat pn 0 (.c (.v _)) int_len lay2 rfl rfl (by omega) (by first | omega | (simp; omega)) rfl rfl ?_
                            refine v_nil ?_
                            refine d_q rfl rfl rfl rfl rfl ?_
                            refine v_fa_pt (off' := 3) lay101 rfl rfl rfl ?_
                            refine v_nil ?_
                            refine d_q rfl rfl rfl rfl rfl ?_
                            refine v_load_pt (.c _) lay2 rfl rfl rfl rfl ?_
                            refine v_nil ?_
                            refine d_q rfl rfl rfl rfl rfl ?_
                            refine v_max rfl rfl ?_
                            refine v_nil ?_
                            refine d_q rfl rfl rfl rfl rfl ?_
                            refine v_idx_mu_e (k := 1) (off := 0) (pn) lay28 lay2 rfl rfl rfl (hpn) (by omega) ?_
                            refine v_nil ?_
                            refine d_e rfl rfl rfl ?_
                            refine v_store_flat (H' := [_, _, _, _, _, _, _, _, _, _, _]) pn 0 (mx b.kn[pn] b.wr[a].2.2.2) int_len lay2 rfl rfl rfl (by omega) (by first | omega | (simp; omega)) rfl rfl (rfl) rfl ?_
                            refine v_nil ⟨again_nil, ?_⟩
                            refine d_nil ?_
                            refine q_n ?_
                            refine w_ret (q_r ?_)
                            refine r_r rfl ?_
                            exact ⟨rfl, rfl⟩
                          · skip
                            have hbk := h27
                            exact absurd (hb1.symm.trans h27) (by decide)
                        · exact again_nil
                        · skip
                          refine d_nil ?_
                          refine q_bn ?_
                          refine q_n ?_
                          refine w_seq ?_
                          refine w_reg rfl ?_
                          refine v_assign (c := .v (.int .i64 0)) rfl ?_
                          refine v_nil ?_
                          refine q_n ?_
                          refine w_ret ?_
                          refine r_r rfl ?_
                          refine v_eql lay2 rfl rfl (fun h30 => ?_) (fun h30 => ?_)
                          · skip
                            refine v_nil ?_
                            refine q_n ?_
                            refine w_t rfl ?_
                            refine w_reg rfl ?_
                            refine v_move rfl ?_
                            refine v_add lay2 rfl rfl (i64r (by omega)) ?_
                            refine v_assign rfl ?_
                            refine v_nil ?_
                            refine q_bn ?_
                            refine q_n ?_
                            refine w_reg rfl ?_
                            refine v_add lay3 rfl rfl (i64r (by omega)) ?_
                            refine v_move rfl ?_
                            refine v_nil ?_
                            refine q_n ?_
                            have hdo : doB p b ds[i] = ({ b with kn := b.kn.set pn (mx b.kn[pn] b.wr[a].2.2.2) }, 0) := do_copy hk4 ha k4 e6 (come_back hb1 hpn k5)
                            refine ⟨_, _, _, ?_, ⟨i + 1, { b with kn := b.kn.set pn (mx b.kn[pn] b.wr[a].2.2.2) }, cs ++ [0], rfl, by omega, st_step hst hi1 hdo, ok_do hok hd hdo, by simp; omega, rfl, rfl⟩, by omega⟩
                            exact turn [some 0, some 1, some 2, some 3, some 4, some 5, some 6, some 7] rfl rfl rfl ⟨⟨_, rfl, .cons tr_v (.cons tr_sl .nil)⟩, ⟨_, rfl, .cons tr_v (.cons tr_v (.cons tr_v (.cons tr_v (.cons tr_v .nil))))⟩, ⟨_, rfl, .cons (tr_mun rfl (by first | rfl | (simp; done) | (simp; omega) | (rw [bg_l (by omega)]))) (.cons (tr_mun rfl (by first | rfl | (simp; done) | (simp; omega) | (rw [bg_l (by omega)]))) (.cons (tr_mun rfl (by first | rfl | (simp; done) | (simp; omega) | (rw [bg_l (by omega)]))) (.cons (tr_mun rfl (by first | rfl | (simp; done) | (simp; omega) | (rw [bg_l (by omega)]))) (.cons (tr_mun rfl (by first | rfl | (simp; done) | (simp; omega) | (rw [bg_l (by omega)]))) (.cons tr_v (.cons tr_sl .nil))))))⟩, ⟨_, rfl, trc_flat pe_sc rfl⟩, ⟨_, rfl, trc_flat pe_sc rfl⟩, ⟨_, rfl, trc_flat pe_sc rfl⟩, ⟨_, rfl, trc_flat int_sc rfl⟩, ⟨_, rfl, trc_flat nce_sc rfl⟩, trivial⟩ ⟨tr_pt rfl, (tr_i (cz_eq rfl)), tr_sl, tr_v, tr_v, trivial⟩
                          · skip
                            exact absurd (by decide) h30
                      · skip
                        refine dec_split (p := b.wr[a].2.2.2 > b.ps[pn].2) (fun hv1 => ?_) (fun hv1 => ?_)
                        · skip
                          refine d_id ?_
                          refine d_inl (n := 71) (drawD_ok X) (fun _ _ => Go.Proofs.Try.call91 _ _) Go.Proofs.Try.func91 rfl rfl rfl rfl rfl rfl ?_
                          apply Exists.intro
                          apply Exists.intro
                          refine ⟨?_, ?_, ?_⟩
                          · skip
                            refine w_seq ?_
                            refine w_reg rfl ?_
                            refine v_box (m := 10) (H' := [_, _, _, _, _, _, _, _, _, _, _]) lay101 rfl rfl rfl ?_
                            refine v_nil ?_
                            refine q_n ?_
                            refine w_seq ?_
                            refine w_seq ?_
                            refine w_reg rfl ?_
                            refine v_fa_pt (off' := 0) lay101 rfl rfl rfl ?_
                            refine v_load_ptb lay4 rfl rfl rfl rfl (fun h31 => ?_) (fun h31 => ?_)
                            · skip
                              have hbk := h31
                              exact absurd ((Bool.eq_false_iff.2 hb1).symm.trans h31) (by decide)
                            · skip
                              have hbk := h31
                              refine v_nil ?_
                              refine q_n ?_
                              refine w_f rfl ?_
                              refine w_skip ?_
                              refine q_n ?_
                              refine w_seq ?_
                              refine w_draw [0, 1, 3, 7, 15, 0, 32, 127, 255] [⟨0, 0, []⟩, ⟨1, 0, []⟩, ⟨2, 0, []⟩, ⟨3, 0, []⟩, ⟨4, 0, []⟩, ⟨5, 0, []⟩, ⟨6, 0, []⟩, ⟨7, 0, []⟩, ⟨8, 0, []⟩] rfl rfl ?_
                              refine d_q rfl rfl rfl rfl rfl ?_
                              refine v_move rfl ?_
                              refine v_nil ?_
                              refine d_q rfl rfl rfl rfl rfl ?_
                              refine v_nil_pt rfl ?_
                              refine v_nil ?_
                              refine d_q rfl rfl rfl rfl rfl ?_
                              refine v_fa_pt (off' := 0) lay94 rfl rfl rfl ?_
                              refine v_nil ?_
                              refine d_q rfl rfl rfl rfl rfl ?_
                              refine v_fa_pt (off' := 1) lay64 rfl rfl rfl ?_
                              refine v_nil ?_
                              refine d_q rfl rfl rfl rfl rfl ?_
                              refine v_load_pt (.c _) lay61 rfl rfl rfl rfl ?_
                              refine v_nil ?_
                              refine d_q rfl rfl rfl rfl rfl ?_
                              refine v_fa_pt (off' := 1) lay101 rfl rfl rfl ?_
                              refine v_nil ?_
                              refine d_q rfl rfl rfl rfl rfl ?_
                              refine v_load_pt (.c _) lay2 rfl rfl rfl rfl ?_
                              refine v_nil ?_
                              refine d_q rfl rfl rfl rfl rfl ?_
                              refine v_idx_mu_e (k := 2) (off := 0) (pn) lay61 lay46 rfl rfl rfl (hpn) (by omega) ?_
                              refine v_nil ?_
                              refine d_q rfl rfl rfl rfl rfl ?_
                              refine v_assign rfl ?_
                              refine v_nil ?_
                              refine d_nil ?_
                              refine q_n ?_
                              refine w_seq ?_
                              refine w_seq ?_
                              refine w_draw [0, 1, 0, 4, 12, 28, 63] [⟨0, 0, []⟩, ⟨1, 0, []⟩, ⟨2, 0, []⟩, ⟨3, 0, []⟩, ⟨4, 0, []⟩, ⟨5, 0, []⟩, ⟨6, 0, []⟩] rfl rfl ?_
                              refine d_q rfl rfl rfl rfl rfl ?_
                              refine v_fa_pt (off' := 3) lay101 rfl rfl rfl ?_
                              refine v_nil ?_
                              refine d_q rfl rfl rfl rfl rfl ?_
                              refine v_load_pt (.c _) lay2 rfl rfl rfl rfl ?_
                              refine v_nil ?_
                              refine d_q rfl rfl rfl rfl rfl ?_
                              refine v_move rfl ?_
                              refine v_nil ?_
                              refine d_q rfl rfl rfl rfl rfl ?_
                              refine v_nil_pt rfl ?_
                              refine v_nil ?_
                              refine d_q rfl rfl rfl rfl rfl ?_
                              refine v_fa_pt (off' := _) lay46 rfl rfl rfl ?_
                              refine v_nil ?_
                              refine d_q rfl rfl rfl rfl rfl ?_
                              refine v_load_flat pn 1 (.c (.v _)) pe_len lay2 rfl rfl (by omega) (by first | omega | (simp; omega)) rfl rfl ?_
                              refine v_nil ?_
                              refine d_q rfl rfl rfl rfl rfl ?_
                              refine v_gtr lay2 rfl rfl (fun h33 => ?_) (fun h33 => ?_)
                              · skip
                                have hnv := h33
                                refine v_nil ?_
                                refine d_nil ?_
                                refine q_n ?_
                                refine w_t rfl ?_
                                refine w_reg rfl ?_
                                refine v_move rfl ?_
                                refine v_fa_pt (off' := 2) lay101 rfl rfl rfl ?_
                                refine v_load_pt (.c _) lay2 rfl rfl rfl rfl ?_
                                refine v_fa_pt (off' := 3) lay101 rfl rfl rfl ?_
                                refine v_load_pt (.c _) lay2 rfl rfl rfl rfl ?_
                                refine v_build [(0, 1), (1, 1)] [.v _, .v _] lay46 rfl rfl ?_
                                refine v_nil_pt rfl ?_
                                refine v_store_flat (H' := [_, _, _, _, _, _, _, _, _, _, _]) pn 0 ((b.wr[a].2.2.1, b.wr[a].2.2.2)) pe_len lay46 rfl rfl rfl (by omega) (by first | omega | (simp; omega)) rfl rfl (rfl) rfl ?_
                                refine v_nil ?_
                                refine q_n ?_
                                refine w_draw [0, 0, 2, 6, 14, 30, 0, 64, 0, 256, 768, 1792, 0, 4096, 12288, 28672, 65472, 131008, 262142, 524287, 1048575, 2097151, 4194303] [⟨0, 0, []⟩, ⟨1, 0, []⟩, ⟨2, 0, []⟩, ⟨3, 0, []⟩, ⟨4, 0, []⟩, ⟨5, 0, []⟩, ⟨6, 0, []⟩, ⟨7, 0, []⟩, ⟨8, 0, []⟩, ⟨9, 0, []⟩, ⟨10, 0, []⟩, ⟨11, 0, []⟩, ⟨12, 0, []⟩, ⟨13, 0, []⟩, ⟨14, 0, []⟩, ⟨15, 0, []⟩, ⟨16, 0, []⟩, ⟨17, 2, []⟩, ⟨18, 1, []⟩, ⟨19, 0, []⟩, ⟨20, 0, []⟩, ⟨21, 0, []⟩, ⟨22, 1, []⟩] rfl rfl ?_
                                refine d_q rfl rfl rfl rfl rfl ?_
                                refine v_move rfl ?_
                                refine v_nil ?_
                                refine d_q rfl rfl rfl rfl rfl ?_
                                refine v_move rfl ?_
                                refine v_nil ?_
                                refine d_q rfl rfl rfl rfl rfl ?_
                                refine v_nil_pt rfl ?_
                                refine v_nil ?_
                                refine d_q rfl rfl rfl rfl rfl ?_
                                refine v_fa_pt (off' := 0) lay94 rfl rfl rfl ?_
                                refine v_nil ?_
                                refine d_q rfl rfl rfl rfl rfl ?_
                                refine v_fa_pt (off' := 4) lay64 rfl rfl rfl ?_
                                refine v_nil ?_
                                refine d_q rfl rfl rfl rfl rfl ?_
                                refine v_load_pt (.c _) lay62 rfl rfl rfl rfl ?_
                                refine v_nil ?_
                                refine d_q rfl rfl rfl rfl rfl ?_
                                refine v_fa_pt (off' := 1) lay101 rfl rfl rfl ?_
                                refine v_nil ?_
                                refine d_q rfl rfl rfl rfl rfl ?_
                                refine v_load_pt (.c _) lay2 rfl rfl rfl rfl ?_
                                refine v_nil ?_
                                refine d_q rfl rfl rfl rfl rfl ?_
                                refine v_move rfl ?_
                                refine v_nil ?_
                                refine d_q rfl rfl rfl rfl rfl ?_
                                refine v_nil_pt rfl ?_
                                refine v_nil ?_
                                refine d_q rfl rfl rfl rfl rfl ?_
                                refine v_fa_pt (off' := _) lay46 rfl rfl rfl ?_
                                refine v_nil ?_
                                refine d_q rfl rfl rfl rfl rfl ?_
                                refine v_load_flat pn 0 (.c (.v _)) pe_len lay2 rfl rfl (by omega) (by first | omega | (simp; omega)) rfl rfl ?_
                                refine v_nil ?_
                                refine d_q rfl rfl rfl rfl rfl ?_
                                refine v_move rfl ?_
                                refine v_nil ?_
                                refine d_q rfl rfl rfl rfl rfl ?_
                                refine v_nil_pt rfl ?_
                                refine v_nil ?_
                                refine d_q rfl rfl rfl rfl rfl ?_
                                refine v_fa_pt (off' := _) lay46 rfl rfl rfl ?_
                                refine v_nil ?_
                                refine d_q rfl rfl rfl rfl rfl ?_
                                refine v_load_flat pn 1 (.c (.v _)) pe_len lay2 rfl rfl (by omega) (by first | omega | (simp; omega)) rfl rfl ?_
                                refine v_nil ?_
                                refine d_q rfl rfl rfl rfl rfl ?_
                                refine v_build [(0, 1), (1, 1), (2, 1), (3, 1)] [.v _, .v _, .v _, .v _] lay101 rfl rfl ?_
                                refine v_nil ?_
                                refine d_z (.c (.sl true 1 4 (flat nce [(true, b.wr[a].2.1, ((b.ps.set pn (b.wr[a].2.2.1, b.wr[a].2.2.2))[pn]'(by simpa using k6)).1, ((b.ps.set pn (b.wr[a].2.2.1, b.wr[a].2.2.2))[pn]'(by simpa using k6)).2)]))) rfl rfl rfl ?_
                                refine d_e rfl rfl rfl ?_
                                refine v_app_flat_sl (H' := [_, _, _, _, _, _, _, _, _, _, _, _]) nce_sc nce_len lay62 lay101 rfl rfl (by first | rfl | (simp; done) | (simp; omega) | omega | (rw [bg_l (by omega)])) rfl rfl rfl (by unfold maxLen; simp only []; omega) rfl rfl ?_
                                refine v_nil ⟨again_nil, ?_⟩
                                refine d_q rfl rfl rfl rfl rfl ?_
                                refine v_nil_pt rfl ?_
                                refine v_nil ?_
                                refine d_q rfl rfl rfl rfl rfl ?_
                                refine v_fa_pt (off' := 0) lay94 rfl rfl rfl ?_
                                refine v_nil ?_
                                refine d_q rfl rfl rfl rfl rfl ?_
                                refine v_fa_pt (off' := 4) lay64 rfl rfl rfl ?_
                                refine v_nil ?_
                                refine d_e rfl rfl rfl ?_
                                refine v_store (H' := [_, _, ⟨[_, _, _, _, _, _, _], 94, true⟩, _, _, _, _, _, _, _, _, _]) lay62 rfl rfl rfl rfl rfl rfl ?_
                                refine v_nil ⟨again_nil, ?_⟩
                                refine d_nil ?_
                                refine r_n rfl ?_
                                exact ⟨rfl, rfl⟩
                              · skip
                                have hnv := h33
                                exact absurd hv1 h33
                          · exact again_nil
                          · skip
                            refine d_nil ?_
                            refine q_bn ?_
                            refine q_n ?_
                            refine w_seq ?_
                            refine w_reg rfl ?_
                            refine v_assign (c := .v (.int .i64 0)) rfl ?_
                            refine v_nil ?_
                            refine q_n ?_
                            refine w_ret ?_
                            refine r_r rfl ?_
                            refine v_eql lay2 rfl rfl (fun h34 => ?_) (fun h34 => ?_)
                            · skip
                              refine v_nil ?_
                              refine q_n ?_
                              refine w_t rfl ?_
                              refine w_reg rfl ?_
                              refine v_move rfl ?_
                              refine v_add lay2 rfl rfl (i64r (by omega)) ?_
                              refine v_assign rfl ?_
                              refine v_nil ?_
                              refine q_bn ?_
                              refine q_n ?_
                              refine w_reg rfl ?_
                              refine v_add lay3 rfl rfl (i64r (by omega)) ?_
                              refine v_move rfl ?_
                              refine v_nil ?_
                              refine q_n ?_
                              have hdo : doB p b ds[i] = ({ b with ps := b.ps.set pn (b.wr[a].2.2.1, b.wr[a].2.2.2), wr := b.wr ++ [(true, b.wr[a].2.1, b.wr[a].2.2.1, b.wr[a].2.2.2)] }, 0) := do_copy hk4 ha k4 e6 (come_new (Bool.eq_false_iff.2 hb1) hpn k6 hv1)
                              refine ⟨_, _, _, ?_, ⟨i + 1, { b with ps := b.ps.set pn (b.wr[a].2.2.1, b.wr[a].2.2.2), wr := b.wr ++ [(true, b.wr[a].2.1, b.wr[a].2.2.1, b.wr[a].2.2.2)] }, cs ++ [0], rfl, by omega, st_step hst hi1 hdo, ok_do hok hd hdo, by simp; omega, rfl, rfl⟩, by omega⟩
                              exact turn [some 0, some 1, some 2, some 3, some 4, some 5, some 6, some 11] rfl rfl rfl ⟨⟨_, rfl, .cons tr_v (.cons tr_sl .nil)⟩, ⟨_, rfl, .cons tr_v (.cons tr_v (.cons tr_v (.cons tr_v (.cons tr_v .nil))))⟩, ⟨_, rfl, .cons (tr_mun rfl (by first | rfl | (simp; done) | (simp; omega) | (rw [bg_l (by omega)]))) (.cons (tr_mun rfl (by first | rfl | (simp; done) | (simp; omega) | (rw [bg_l (by omega)]))) (.cons (tr_mun rfl (by first | rfl | (simp; done) | (simp; omega) | (rw [bg_l (by omega)]))) (.cons (tr_mun rfl (by first | rfl | (simp; done) | (simp; omega) | (rw [bg_l (by omega)]))) (.cons (tr_mun rfl (by first | rfl | (simp; done) | (simp; omega) | (rw [bg_l (by omega)]))) (.cons tr_v (.cons tr_sl .nil))))))⟩, ⟨_, rfl, trc_flat pe_sc rfl⟩, ⟨_, rfl, trc_flat pe_sc rfl⟩, ⟨_, rfl, trc_flat pe_sc rfl⟩, ⟨_, rfl, trc_flat int_sc rfl⟩, ⟨_, rfl, trc_flat nce_sc (congrArg (flat nce) (by simp only [List.getElem_set_self]))⟩, trivial⟩ ⟨tr_pt rfl, (tr_i (cz_eq rfl)), tr_sl, tr_v, tr_v, trivial⟩
                            · skip
                              exact absurd (by decide) h34
                        · skip
                          refine d_id ?_
                          refine d_inl (n := 71) (drawD_ok X) (fun _ _ => Go.Proofs.Try.call91 _ _) Go.Proofs.Try.func91 rfl rfl rfl rfl rfl rfl ?_
                          apply Exists.intro
                          apply Exists.intro
                          refine ⟨?_, ?_, ?_⟩
                          · skip
                            refine w_seq ?_
                            refine w_reg rfl ?_
                            refine v_box (m := 10) (H' := [_, _, _, _, _, _, _, _, _, _, _]) lay101 rfl rfl rfl ?_
                            refine v_nil ?_
                            refine q_n ?_
                            refine w_seq ?_
                            refine w_seq ?_
                            refine w_reg rfl ?_
                            refine v_fa_pt (off' := 0) lay101 rfl rfl rfl ?_
                            refine v_load_ptb lay4 rfl rfl rfl rfl (fun h35 => ?_) (fun h35 => ?_)
                            · skip
                              have hbk := h35
                              exact absurd ((Bool.eq_false_iff.2 hb1).symm.trans h35) (by decide)
                            · skip
                              have hbk := h35
                              refine v_nil ?_
                              refine q_n ?_
                              refine w_f rfl ?_
                              refine w_skip ?_
                              refine q_n ?_
                              refine w_seq ?_
                              refine w_draw [0, 1, 3, 7, 15, 0, 32, 127, 255] [⟨0, 0, []⟩, ⟨1, 0, []⟩, ⟨2, 0, []⟩, ⟨3, 0, []⟩, ⟨4, 0, []⟩, ⟨5, 0, []⟩, ⟨6, 0, []⟩, ⟨7, 0, []⟩, ⟨8, 0, []⟩] rfl rfl ?_
                              refine d_q rfl rfl rfl rfl rfl ?_
                              refine v_move rfl ?_
                              refine v_nil ?_
                              refine d_q rfl rfl rfl rfl rfl ?_
                              refine v_nil_pt rfl ?_
                              refine v_nil ?_
                              refine d_q rfl rfl rfl rfl rfl ?_
                              refine v_fa_pt (off' := 0) lay94 rfl rfl rfl ?_
                              refine v_nil ?_
                              refine d_q rfl rfl rfl rfl rfl ?_
                              refine v_fa_pt (off' := 1) lay64 rfl rfl rfl ?_
                              refine v_nil ?_
                              refine d_q rfl rfl rfl rfl rfl ?_
                              refine v_load_pt (.c _) lay61 rfl rfl rfl rfl ?_
                              refine v_nil ?_
                              refine d_q rfl rfl rfl rfl rfl ?_
                              refine v_fa_pt (off' := 1) lay101 rfl rfl rfl ?_
                              refine v_nil ?_
                              refine d_q rfl rfl rfl rfl rfl ?_
                              refine v_load_pt (.c _) lay2 rfl rfl rfl rfl ?_
                              refine v_nil ?_
                              refine d_q rfl rfl rfl rfl rfl ?_
                              refine v_idx_mu_e (k := 2) (off := 0) (pn) lay61 lay46 rfl rfl rfl (hpn) (by omega) ?_
                              refine v_nil ?_
                              refine d_q rfl rfl rfl rfl rfl ?_
                              refine v_assign rfl ?_
                              refine v_nil ?_
                              refine d_nil ?_
                              refine q_n ?_
                              refine w_seq ?_
                              refine w_seq ?_
                              refine w_draw [0, 1, 0, 4, 12, 28, 63] [⟨0, 0, []⟩, ⟨1, 0, []⟩, ⟨2, 0, []⟩, ⟨3, 0, []⟩, ⟨4, 0, []⟩, ⟨5, 0, []⟩, ⟨6, 0, []⟩] rfl rfl ?_
                              refine d_q rfl rfl rfl rfl rfl ?_
                              refine v_fa_pt (off' := 3) lay101 rfl rfl rfl ?_
                              refine v_nil ?_
                              refine d_q rfl rfl rfl rfl rfl ?_
                              refine v_load_pt (.c _) lay2 rfl rfl rfl rfl ?_
                              refine v_nil ?_
                              refine d_q rfl rfl rfl rfl rfl ?_
                              refine v_move rfl ?_
                              refine v_nil ?_
                              refine d_q rfl rfl rfl rfl rfl ?_
                              refine v_nil_pt rfl ?_
                              refine v_nil ?_
                              refine d_q rfl rfl rfl rfl rfl ?_
                              refine v_fa_pt (off' := _) lay46 rfl rfl rfl ?_
                              refine v_nil ?_
                              refine d_q rfl rfl rfl rfl rfl ?_
                              refine v_load_flat pn 1 (.c (.v _)) pe_len lay2 rfl rfl (by omega) (by first | omega | (simp; omega)) rfl rfl ?_
                              refine v_nil ?_
                              refine d_q rfl rfl rfl rfl rfl ?_
                              refine v_gtr lay2 rfl rfl (fun h37 => ?_) (fun h37 => ?_)
                              · skip
                                have hnv := h37
                                exact absurd h37 hv1
                              · skip
                                have hnv := h37
                                refine v_nil ?_
                                refine d_nil ?_
                                refine q_n ?_
                                refine w_f rfl ?_
                                refine w_skip ?_
                                refine q_n ?_
                                refine w_draw [0, 0, 2, 6, 14, 30, 0, 64, 0, 256, 768, 1792, 0, 4096, 12288, 28672, 65472, 131008, 262142, 524287, 1048575, 2097151, 4194303] [⟨0, 0, []⟩, ⟨1, 0, []⟩, ⟨2, 0, []⟩, ⟨3, 0, []⟩, ⟨4, 0, []⟩, ⟨5, 0, []⟩, ⟨6, 0, []⟩, ⟨7, 0, []⟩, ⟨8, 0, []⟩, ⟨9, 0, []⟩, ⟨10, 0, []⟩, ⟨11, 0, []⟩, ⟨12, 0, []⟩, ⟨13, 0, []⟩, ⟨14, 0, []⟩, ⟨15, 0, []⟩, ⟨16, 0, []⟩, ⟨17, 2, []⟩, ⟨18, 1, []⟩, ⟨19, 0, []⟩, ⟨20, 0, []⟩, ⟨21, 0, []⟩, ⟨22, 1, []⟩] rfl rfl ?_
                                refine d_q rfl rfl rfl rfl rfl ?_
                                refine v_move rfl ?_
                                refine v_nil ?_
                                refine d_q rfl rfl rfl rfl rfl ?_
                                refine v_move rfl ?_
                                refine v_nil ?_
                                refine d_q rfl rfl rfl rfl rfl ?_
                                refine v_nil_pt rfl ?_
                                refine v_nil ?_
                                refine d_q rfl rfl rfl rfl rfl ?_
                                refine v_fa_pt (off' := 0) lay94 rfl rfl rfl ?_
                                refine v_nil ?_
                                refine d_q rfl rfl rfl rfl rfl ?_
                                refine v_fa_pt (off' := 4) lay64 rfl rfl rfl ?_
                                refine v_nil ?_
                                refine d_q rfl rfl rfl rfl rfl ?_
                                refine v_load_pt (.c _) lay62 rfl rfl rfl rfl ?_
                                refine v_nil ?_
                                refine d_q rfl rfl rfl rfl rfl ?_
                                refine v_fa_pt (off' := 1) lay101 rfl rfl rfl ?_
                                refine v_nil ?_
                                refine d_q rfl rfl rfl rfl rfl ?_
                                refine v_load_pt (.c _) lay2 rfl rfl rfl rfl ?_
                                refine v_nil ?_
                                refine d_q rfl rfl rfl rfl rfl ?_
                                refine v_move rfl ?_
                                refine v_nil ?_
                                refine d_q rfl rfl rfl rfl rfl ?_
                                refine v_nil_pt rfl ?_
                                refine v_nil ?_
                                refine d_q rfl rfl rfl rfl rfl ?_
                                refine v_fa_pt (off' := _) lay46 rfl rfl rfl ?_
                                refine v_nil ?_
                                refine d_q rfl rfl rfl rfl rfl ?_
                                refine v_load_flat pn 0 (.c (.v _)) pe_len lay2 rfl rfl (by omega) (by first | omega | (simp; omega)) rfl rfl ?_
                                refine v_nil ?_
                                refine d_q rfl rfl rfl rfl rfl ?_
                                refine v_move rfl ?_
                                refine v_nil ?_
                                refine d_q rfl rfl rfl rfl rfl ?_
                                refine v_nil_pt rfl ?_
                                refine v_nil ?_
                                refine d_q rfl rfl rfl rfl rfl ?_
                                refine v_fa_pt (off' := _) lay46 rfl rfl rfl ?_
                                refine v_nil ?_
                                refine d_q rfl rfl rfl rfl rfl ?_
                                refine v_load_flat pn 1 (.c (.v _)) pe_len lay2 rfl rfl (by omega) (by first | omega | (simp; omega)) rfl rfl ?_
                                refine v_nil ?_
                                refine d_q rfl rfl rfl rfl rfl ?_
                                refine v_build [(0, 1), (1, 1), (2, 1), (3, 1)] [.v _, .v _, .v _, .v _] lay101 rfl rfl ?_
                                refine v_nil ?_
                                refine d_z (.c (.sl true 1 4 (flat nce [(true, b.wr[a].2.1, b.ps[pn].1, b.ps[pn].2)]))) rfl rfl rfl ?_
                                refine d_e rfl rfl rfl ?_
                                refine v_app_flat_sl (H' := [_, _, _, _, _, _, _, _, _, _, _, _]) nce_sc nce_len lay62 lay101 rfl rfl (by first | rfl | (simp; done) | (simp; omega) | omega | (rw [bg_l (by omega)])) rfl rfl rfl (by unfold maxLen; simp only []; omega) rfl rfl ?_
                                refine v_nil ⟨again_nil, ?_⟩
                                refine d_q rfl rfl rfl rfl rfl ?_
                                refine v_nil_pt rfl ?_
                                refine v_nil ?_
                                refine d_q rfl rfl rfl rfl rfl ?_
                                refine v_fa_pt (off' := 0) lay94 rfl rfl rfl ?_
                                refine v_nil ?_
                                refine d_q rfl rfl rfl rfl rfl ?_
                                refine v_fa_pt (off' := 4) lay64 rfl rfl rfl ?_
                                refine v_nil ?_
                                refine d_e rfl rfl rfl ?_
                                refine v_store (H' := [_, _, ⟨[_, _, _, _, _, _, _], 94, true⟩, _, _, _, _, _, _, _, _, _]) lay62 rfl rfl rfl rfl rfl rfl ?_
                                refine v_nil ⟨again_nil, ?_⟩
                                refine d_nil ?_
                                refine r_n rfl ?_
                                exact ⟨rfl, rfl⟩
                          · exact again_nil
                          · skip
                            refine d_nil ?_
                            refine q_bn ?_
                            refine q_n ?_
                            refine w_seq ?_
                            refine w_reg rfl ?_
                            refine v_assign (c := .v (.int .i64 0)) rfl ?_
                            refine v_nil ?_
                            refine q_n ?_
                            refine w_ret ?_
                            refine r_r rfl ?_
                            refine v_eql lay2 rfl rfl (fun h38 => ?_) (fun h38 => ?_)
                            · skip
                              refine v_nil ?_
                              refine q_n ?_
                              refine w_t rfl ?_
                              refine w_reg rfl ?_
                              refine v_move rfl ?_
                              refine v_add lay2 rfl rfl (i64r (by omega)) ?_
                              refine v_assign rfl ?_
                              refine v_nil ?_
                              refine q_bn ?_
                              refine q_n ?_
                              refine w_reg rfl ?_
                              refine v_add lay3 rfl rfl (i64r (by omega)) ?_
                              refine v_move rfl ?_
                              refine v_nil ?_
                              refine q_n ?_
                              have hdo : doB p b ds[i] = ({ b with wr := b.wr ++ [(true, b.wr[a].2.1, b.ps[pn].1, b.ps[pn].2)] }, 0) := do_copy hk4 ha k4 e6 (come_old (Bool.eq_false_iff.2 hb1) hpn k6 hv1)
                              refine ⟨_, _, _, ?_, ⟨i + 1, { b with wr := b.wr ++ [(true, b.wr[a].2.1, b.ps[pn].1, b.ps[pn].2)] }, cs ++ [0], rfl, by omega, st_step hst hi1 hdo, ok_do hok hd hdo, by simp; omega, rfl, rfl⟩, by omega⟩
                              exact turn [some 0, some 1, some 2, some 3, some 4, some 5, some 6, some 11] rfl rfl rfl ⟨⟨_, rfl, .cons tr_v (.cons tr_sl .nil)⟩, ⟨_, rfl, .cons tr_v (.cons tr_v (.cons tr_v (.cons tr_v (.cons tr_v .nil))))⟩, ⟨_, rfl, .cons (tr_mun rfl (by first | rfl | (simp; done) | (simp; omega) | (rw [bg_l (by omega)]))) (.cons (tr_mun rfl (by first | rfl | (simp; done) | (simp; omega) | (rw [bg_l (by omega)]))) (.cons (tr_mun rfl (by first | rfl | (simp; done) | (simp; omega) | (rw [bg_l (by omega)]))) (.cons (tr_mun rfl (by first | rfl | (simp; done) | (simp; omega) | (rw [bg_l (by omega)]))) (.cons (tr_mun rfl (by first | rfl | (simp; done) | (simp; omega) | (rw [bg_l (by omega)]))) (.cons tr_v (.cons tr_sl .nil))))))⟩, ⟨_, rfl, trc_flat pe_sc rfl⟩, ⟨_, rfl, trc_flat pe_sc rfl⟩, ⟨_, rfl, trc_flat pe_sc rfl⟩, ⟨_, rfl, trc_flat int_sc rfl⟩, ⟨_, rfl, trc_flat nce_sc rfl⟩, trivial⟩ ⟨tr_pt rfl, (tr_i (cz_eq rfl)), tr_sl, tr_v, tr_v, trivial⟩
                            · skip
                              exact absurd (by decide) h38
                    · skip
                      refine v_assign rfl ?_
                      refine v_nil ?_
                      refine q_n ?_
                      refine w_f rfl ?_
                      refine w_seq ?_
                      refine w_reg rfl ?_
                      refine v_eql lay2 rfl rfl (fun h39 => ?_) (fun h39 => ?_)
                      · skip
                        have hk5 := h39
                        have k4 : a < b.wr.length := e1 (by omega)
                        refine v_assign rfl ?_
                        refine v_nil ?_
                        refine q_n ?_
                        refine w_t rfl ?_
                        refine w_reg rfl ?_
                        refine v_move rfl ?_
                        refine v_fa_pt (off' := 1) lay25 rfl rfl rfl ?_
                        refine v_load_pt (.c _) lay2 rfl rfl rfl rfl ?_
                        refine v_inl (n := 28) (drawD_ok X) (fun _ _ => Go.Proofs.Try.call92 _ _) Go.Proofs.Try.func92 rfl rfl rfl rfl ?_
                        refine w_seq ?_
                        refine w_reg rfl ?_
                        refine v_alloc (m := 10) (H' := [_, _, _, _, _, _, _, _, _, _, ⟨[.v _, .v _, .v _, .v _], 101, true⟩]) lay101 rfl rfl ?_
                        refine v_nil ?_
                        refine q_n ?_
                        refine w_seq ?_
                        refine w_reg rfl ?_
                        refine v_move rfl ?_
                        refine v_nil_pt rfl ?_
                        refine v_fa_pt (off' := 0) lay94 rfl rfl rfl ?_
                        refine v_fa_pt (off' := 4) lay64 rfl rfl rfl ?_
                        refine v_load_pt (.c _) lay62 rfl rfl rfl rfl ?_
                        refine v_move rfl ?_
                        refine v_idx_mu_e (k := 4) (off := 0) (a) lay62 lay101 rfl rfl rfl (ha) (by omega) ?_
                        refine v_load_flat a 0 (.agg [.v _, .v _, .v _, .v _]) nce_len lay101 rfl rfl (by omega) (by first | omega | (simp; omega)) rfl rfl ?_
                        refine v_alloc (m := 11) (H' := [_, _, _, _, _, _, _, _, _, _, _, ⟨[.v _, .v _, .v _, .v _], 101, true⟩]) lay101 rfl rfl ?_
                        refine v_store (H' := [_, _, _, _, _, _, _, _, _, _, _, ⟨[_, _, _, _], 101, true⟩]) lay101 rfl rfl rfl rfl rfl rfl ?_
                        refine v_nil ?_
                        refine q_n ?_
                        refine w_seq ?_
                        refine w_reg rfl ?_
                        refine v_move rfl ?_
                        refine v_move rfl ?_
                        refine v_nil_pt rfl ?_
                        refine v_fa_pt (off' := 0) lay94 rfl rfl rfl ?_
                        refine v_fa_pt (off' := 4) lay64 rfl rfl rfl ?_
                        refine v_load_pt (.c _) lay62 rfl rfl rfl rfl ?_
                        refine v_move rfl ?_
                        refine v_move rfl ?_
                        refine v_add lay3 rfl rfl (i64r (by omega)) ?_
                        refine v_del (ys := b.wr) (i := a) (H' := [_, _, _, _, _, _, _, _, _, _, _, _, _]) rfl rfl (by omega) ha rfl rfl rfl rfl ?_
                        refine v_nil_pt rfl ?_
                        refine v_fa_pt (off' := 0) lay94 rfl rfl rfl ?_
                        refine v_fa_pt (off' := 4) lay64 rfl rfl rfl ?_
                        refine v_store (H' := [_, _, ⟨[_, _, _, _, _, _, _], 94, true⟩, _, _, _, _, _, _, _, _, _, _]) lay62 rfl rfl rfl rfl rfl rfl ?_
                        refine v_nil ?_
                        refine q_n ?_
                        refine w_seq ?_
                        refine w_reg rfl ?_
                        refine v_load_pt (.agg [_, _, _, _]) lay101 rfl rfl rfl rfl ?_
                        refine v_store (H' := [_, _, _, _, _, _, _, _, _, _, ⟨[_, _, _, _], 101, true⟩, _, _]) lay101 rfl rfl rfl rfl rfl rfl ?_
                        refine v_nil ?_
                        refine q_n ?_
                        refine w_ret ?_
                        refine r_r rfl ?_
                        refine v_nil ?_
                        refine q_bn ?_
                        refine q_n ?_
                        refine w_seq ?_
                        refine w_reg rfl ?_
                        refine v_assign (c := .v (.int .i64 0)) rfl ?_
                        refine v_nil ?_
                        refine q_n ?_
                        refine w_ret ?_
                        refine r_r rfl ?_
                        refine v_eql lay2 rfl rfl (fun h41 => ?_) (fun h41 => ?_)
                        · skip
                          refine v_nil ?_
                          refine q_n ?_
                          refine w_t rfl ?_
                          refine w_reg rfl ?_
                          refine v_move rfl ?_
                          refine v_add lay2 rfl rfl (i64r (by omega)) ?_
                          refine v_assign rfl ?_
                          refine v_nil ?_
                          refine q_bn ?_
                          refine q_n ?_
                          refine w_reg rfl ?_
                          refine v_add lay3 rfl rfl (i64r (by omega)) ?_
                          refine v_move rfl ?_
                          refine v_nil ?_
                          refine q_n ?_
                          have hdo : doB p b ds[i] = ({ b with wr := b.wr.take a ++ b.wr.drop (a + 1) }, 0) := do_drop hk5 ha k4
                          refine ⟨_, _, _, ?_, ⟨i + 1, { b with wr := b.wr.take a ++ b.wr.drop (a + 1) }, cs ++ [0], rfl, by omega, st_step hst hi1 hdo, ok_do hok hd hdo, by simp; omega, rfl, rfl⟩, by omega⟩
                          exact turn [some 0, some 1, some 2, some 3, some 4, some 5, some 6, some 12] rfl rfl rfl ⟨⟨_, rfl, .cons tr_v (.cons tr_sl .nil)⟩, ⟨_, rfl, .cons tr_v (.cons tr_v (.cons tr_v (.cons tr_v (.cons tr_v .nil))))⟩, ⟨_, rfl, .cons (tr_mun rfl (by first | rfl | (simp; done) | (simp; omega) | (rw [bg_l (by omega)]))) (.cons (tr_mun rfl (by first | rfl | (simp; done) | (simp; omega) | (rw [bg_l (by omega)]))) (.cons (tr_mun rfl (by first | rfl | (simp; done) | (simp; omega) | (rw [bg_l (by omega)]))) (.cons (tr_mun rfl (by first | rfl | (simp; done) | (simp; omega) | (rw [bg_l (by omega)]))) (.cons (tr_mun rfl (by first | rfl | (simp; done) | (simp; omega) | (rw [bg_l (by omega)]))) (.cons tr_v (.cons tr_sl .nil))))))⟩, ⟨_, rfl, trc_flat pe_sc rfl⟩, ⟨_, rfl, trc_flat pe_sc rfl⟩, ⟨_, rfl, trc_flat pe_sc rfl⟩, ⟨_, rfl, trc_flat int_sc rfl⟩, ⟨_, rfl, trc_flat nce_sc rfl⟩, trivial⟩ ⟨tr_pt rfl, (tr_i (cz_eq rfl)), tr_sl, tr_v, tr_v, trivial⟩
                        · skip
                          exact absurd (by decide) h41
                      · skip
                        refine v_assign rfl ?_
                        refine v_nil ?_
                        refine q_n ?_
                        refine w_f rfl ?_
                        refine w_seq ?_
                        refine w_reg rfl ?_
                        refine v_eql lay2 rfl rfl (fun h42 => ?_) (fun h42 => ?_)
                        · skip
                          have hk6 := h42
                          have k2 : a < b.ps.length := e3 (by omega)
                          have k1 : a < b.nw.length := by omega
                          have k3 : a < b.sv.length := by omega
                          have hve := hok.ve _ (List.getElem_mem k1)
                          refine v_assign rfl ?_
                          refine v_nil ?_
                          refine q_n ?_
                          refine w_t rfl ?_
                          refine w_draw [0, 1, 3, 7, 15, 0, 32, 0, 128, 384, 896, 1920, 0, 4096, 16256, 32640, 65535, 131071] [⟨0, 0, []⟩, ⟨1, 0, []⟩, ⟨2, 0, []⟩, ⟨3, 0, []⟩, ⟨4, 0, []⟩, ⟨5, 0, []⟩, ⟨6, 0, []⟩, ⟨7, 0, []⟩, ⟨8, 0, []⟩, ⟨9, 0, []⟩, ⟨10, 0, []⟩, ⟨11, 0, []⟩, ⟨12, 0, []⟩, ⟨13, 0, []⟩, ⟨14, 0, []⟩, ⟨15, 0, []⟩, ⟨16, 0, []⟩, ⟨17, 1, []⟩] rfl rfl ?_
                          refine d_q rfl rfl rfl rfl rfl ?_
                          refine v_move rfl ?_
                          refine v_nil ?_
                          refine d_q rfl rfl rfl rfl rfl ?_
                          refine v_nil_pt rfl ?_
                          refine v_nil ?_
                          refine d_q rfl rfl rfl rfl rfl ?_
                          refine v_fa_pt (off' := 0) lay94 rfl rfl rfl ?_
                          refine v_nil ?_
                          refine d_q rfl rfl rfl rfl rfl ?_
                          refine v_fa_pt (off' := 2) lay64 rfl rfl rfl ?_
                          refine v_nil ?_
                          refine d_q rfl rfl rfl rfl rfl ?_
                          refine v_load_pt (.c _) lay61 rfl rfl rfl rfl ?_
                          refine v_nil ?_
                          refine d_q rfl rfl rfl rfl rfl ?_
                          refine v_fa_pt (off' := 1) lay25 rfl rfl rfl ?_
                          refine v_nil ?_
                          refine d_q rfl rfl rfl rfl rfl ?_
                          refine v_load_pt (.c _) lay2 rfl rfl rfl rfl ?_
                          refine v_nil ?_
                          refine d_q rfl rfl rfl rfl rfl ?_
                          refine v_move rfl ?_
                          refine v_nil ?_
                          refine d_q rfl rfl rfl rfl rfl ?_
                          refine v_nil_pt rfl ?_
                          refine v_nil ?_
                          refine d_q rfl rfl rfl rfl rfl ?_
                          refine v_fa_pt (off' := 0) lay94 rfl rfl rfl ?_
                          refine v_nil ?_
                          refine d_q rfl rfl rfl rfl rfl ?_
                          refine v_fa_pt (off' := 1) lay64 rfl rfl rfl ?_
                          refine v_nil ?_
                          refine d_q rfl rfl rfl rfl rfl ?_
                          refine v_load_pt (.c _) lay61 rfl rfl rfl rfl ?_
                          refine v_nil ?_
                          refine d_q rfl rfl rfl rfl rfl ?_
                          refine v_fa_pt (off' := 1) lay25 rfl rfl rfl ?_
                          refine v_nil ?_
                          refine d_q rfl rfl rfl rfl rfl ?_
                          refine v_load_pt (.c _) lay2 rfl rfl rfl rfl ?_
                          refine v_nil ?_
                          refine d_q rfl rfl rfl rfl rfl ?_
                          refine v_idx_mu_e (k := 2) (off := 0) (a) lay61 lay46 rfl rfl rfl (ha) (by omega) ?_
                          refine v_nil ?_
                          refine d_q rfl rfl rfl rfl rfl ?_
                          refine v_load_flat a 0 (.agg [.v _, .v _]) pe_len lay46 rfl rfl (by omega) (by first | omega | (simp; omega)) rfl rfl ?_
                          refine v_nil ?_
                          refine d_q rfl rfl rfl rfl rfl ?_
                          refine v_idx_mu_e (k := 2) (off := 0) (a) lay61 lay46 rfl rfl rfl (ha) (by omega) ?_
                          refine v_nil ?_
                          refine d_e rfl rfl rfl ?_
                          refine v_store_flat (H' := [_, _, _, _, _, _, _, _, _, _]) a 0 (b.ps[a]) pe_len lay46 rfl rfl rfl (by omega) (by first | omega | (simp; omega)) rfl rfl (rfl) rfl ?_
                          refine v_nil ⟨again_nil, ?_⟩
                          refine d_nil ?_
                          refine q_bn ?_
                          refine q_n ?_
                          refine w_seq ?_
                          refine w_reg rfl ?_
                          refine v_assign (c := .v (.int .i64 0)) rfl ?_
                          refine v_nil ?_
                          refine q_n ?_
                          refine w_ret ?_
                          refine r_r rfl ?_
                          refine v_eql lay2 rfl rfl (fun h45 => ?_) (fun h45 => ?_)
                          · skip
                            refine v_nil ?_
                            refine q_n ?_
                            refine w_t rfl ?_
                            refine w_reg rfl ?_
                            refine v_move rfl ?_
                            refine v_add lay2 rfl rfl (i64r (by omega)) ?_
                            refine v_assign rfl ?_
                            refine v_nil ?_
                            refine q_bn ?_
                            refine q_n ?_
                            refine w_reg rfl ?_
                            refine v_add lay3 rfl rfl (i64r (by omega)) ?_
                            refine v_move rfl ?_
                            refine v_nil ?_
                            refine q_n ?_
                            have hdo : doB p b ds[i] = ({ b with sv := b.sv.set a b.ps[a] }, 0) := do_save hk6 ha k2
                            refine ⟨_, _, _, ?_, ⟨i + 1, { b with sv := b.sv.set a b.ps[a] }, cs ++ [0], rfl, by omega, st_step hst hi1 hdo, ok_do hok hd hdo, by simp; omega, rfl, rfl⟩, by omega⟩
                            exact turn [some 0, some 1, some 2, some 3, some 4, some 5, some 6, some 7] rfl rfl rfl ⟨⟨_, rfl, .cons tr_v (.cons tr_sl .nil)⟩, ⟨_, rfl, .cons tr_v (.cons tr_v (.cons tr_v (.cons tr_v (.cons tr_v .nil))))⟩, ⟨_, rfl, .cons (tr_mun rfl (by first | rfl | (simp; done) | (simp; omega) | (rw [bg_l (by omega)]))) (.cons (tr_mun rfl (by first | rfl | (simp; done) | (simp; omega) | (rw [bg_l (by omega)]))) (.cons (tr_mun rfl (by first | rfl | (simp; done) | (simp; omega) | (rw [bg_l (by omega)]))) (.cons (tr_mun rfl (by first | rfl | (simp; done) | (simp; omega) | (rw [bg_l (by omega)]))) (.cons (tr_mun rfl (by first | rfl | (simp; done) | (simp; omega) | (rw [bg_l (by omega)]))) (.cons tr_v (.cons tr_sl .nil))))))⟩, ⟨_, rfl, trc_flat pe_sc rfl⟩, ⟨_, rfl, trc_flat pe_sc rfl⟩, ⟨_, rfl, trc_flat pe_sc rfl⟩, ⟨_, rfl, trc_flat int_sc rfl⟩, ⟨_, rfl, trc_flat nce_sc rfl⟩, trivial⟩ ⟨tr_pt rfl, (tr_i (cz_eq rfl)), tr_sl, tr_v, tr_v, trivial⟩
                          · skip
                            exact absurd (by decide) h45
                        · skip
                          refine v_assign rfl ?_
                          refine v_nil ?_
                          refine q_n ?_
                          refine w_f rfl ?_
                          refine w_seq ?_
                          refine w_reg rfl ?_
                          refine v_eql lay2 rfl rfl (fun h46 => ?_) (fun h46 => ?_)
                          · skip
                            have k2 : a < b.ps.length := e3 (by omega)
                            have k1 : a < b.nw.length := by omega
                            have k3 : a < b.sv.length := by omega
                            have hve := hok.ve _ (List.getElem_mem k1)
                            refine v_assign rfl ?_
                            refine v_nil ?_
                            refine q_n ?_
                            refine w_t rfl ?_
                            refine w_draw [0, 1, 3, 7, 15, 0, 32, 0, 128, 384, 896, 1920, 0, 4096, 16256, 32640, 65535, 131071] [⟨0, 0, []⟩, ⟨1, 0, []⟩, ⟨2, 0, []⟩, ⟨3, 0, []⟩, ⟨4, 0, []⟩, ⟨5, 0, []⟩, ⟨6, 0, []⟩, ⟨7, 0, []⟩, ⟨8, 0, []⟩, ⟨9, 0, []⟩, ⟨10, 0, []⟩, ⟨11, 0, []⟩, ⟨12, 0, []⟩, ⟨13, 0, []⟩, ⟨14, 0, []⟩, ⟨15, 0, []⟩, ⟨16, 0, []⟩, ⟨17, 1, []⟩] rfl rfl ?_
                            refine d_q rfl rfl rfl rfl rfl ?_
                            refine v_move rfl ?_
                            refine v_nil ?_
                            refine d_q rfl rfl rfl rfl rfl ?_
                            refine v_nil_pt rfl ?_
                            refine v_nil ?_
                            refine d_q rfl rfl rfl rfl rfl ?_
                            refine v_fa_pt (off' := 0) lay94 rfl rfl rfl ?_
                            refine v_nil ?_
                            refine d_q rfl rfl rfl rfl rfl ?_
                            refine v_fa_pt (off' := 1) lay64 rfl rfl rfl ?_
                            refine v_nil ?_
                            refine d_q rfl rfl rfl rfl rfl ?_
                            refine v_load_pt (.c _) lay61 rfl rfl rfl rfl ?_
                            refine v_nil ?_
                            refine d_q rfl rfl rfl rfl rfl ?_
                            refine v_fa_pt (off' := 1) lay25 rfl rfl rfl ?_
                            refine v_nil ?_
                            refine d_q rfl rfl rfl rfl rfl ?_
                            refine v_load_pt (.c _) lay2 rfl rfl rfl rfl ?_
                            refine v_nil ?_
                            refine d_q rfl rfl rfl rfl rfl ?_
                            refine v_move rfl ?_
                            refine v_nil ?_
                            refine d_q rfl rfl rfl rfl rfl ?_
                            refine v_nil_pt rfl ?_
                            refine v_nil ?_
                            refine d_q rfl rfl rfl rfl rfl ?_
                            refine v_fa_pt (off' := 0) lay94 rfl rfl rfl ?_
                            refine v_nil ?_
                            refine d_q rfl rfl rfl rfl rfl ?_
                            refine v_fa_pt (off' := 2) lay64 rfl rfl rfl ?_
                            refine v_nil ?_
                            refine d_q rfl rfl rfl rfl rfl ?_
                            refine v_load_pt (.c _) lay61 rfl rfl rfl rfl ?_
                            refine v_nil ?_
                            refine d_q rfl rfl rfl rfl rfl ?_
                            refine v_fa_pt (off' := 1) lay25 rfl rfl rfl ?_
                            refine v_nil ?_
                            refine d_q rfl rfl rfl rfl rfl ?_
                            refine v_load_pt (.c _) lay2 rfl rfl rfl rfl ?_
                            refine v_nil ?_
                            refine d_q rfl rfl rfl rfl rfl ?_
                            refine v_idx_mu_e (k := 2) (off := 0) (a) lay61 lay46 rfl rfl rfl (ha) (by omega) ?_
                            refine v_nil ?_
                            refine d_q rfl rfl rfl rfl rfl ?_
                            refine v_load_flat a 0 (.agg [.v _, .v _]) pe_len lay46 rfl rfl (by omega) (by first | omega | (simp; omega)) rfl rfl ?_
                            refine v_nil ?_
                            refine d_q rfl rfl rfl rfl rfl ?_
                            refine v_idx_mu_e (k := 2) (off := 0) (a) lay61 lay46 rfl rfl rfl (ha) (by omega) ?_
                            refine v_nil ?_
                            refine d_e rfl rfl rfl ?_
                            refine v_store_flat (H' := [_, _, _, _, _, _, _, _, _, _]) a 0 (b.sv[a]) pe_len lay46 rfl rfl rfl (by omega) (by first | omega | (simp; omega)) rfl rfl (rfl) rfl ?_
                            refine v_nil ⟨again_nil, ?_⟩
                            refine d_nil ?_
                            refine q_bn ?_
                            refine q_n ?_
                            refine w_seq ?_
                            refine w_reg rfl ?_
                            refine v_assign (c := .v (.int .i64 0)) rfl ?_
                            refine v_nil ?_
                            refine q_n ?_
                            refine w_ret ?_
                            refine r_r rfl ?_
                            refine v_eql lay2 rfl rfl (fun h49 => ?_) (fun h49 => ?_)
                            · skip
                              refine v_nil ?_
                              refine q_n ?_
                              refine w_t rfl ?_
                              refine w_reg rfl ?_
                              refine v_move rfl ?_
                              refine v_add lay2 rfl rfl (i64r (by omega)) ?_
                              refine v_assign rfl ?_
                              refine v_nil ?_
                              refine q_bn ?_
                              refine q_n ?_
                              refine w_reg rfl ?_
                              refine v_add lay3 rfl rfl (i64r (by omega)) ?_
                              refine v_move rfl ?_
                              refine v_nil ?_
                              refine q_n ?_
                              have hdo : doB p b ds[i] = ({ b with ps := b.ps.set a b.sv[a] }, 0) := do_crash (by omega) ha k2 k3
                              refine ⟨_, _, _, ?_, ⟨i + 1, { b with ps := b.ps.set a b.sv[a] }, cs ++ [0], rfl, by omega, st_step hst hi1 hdo, ok_do hok hd hdo, by simp; omega, rfl, rfl⟩, by omega⟩
                              exact turn [some 0, some 1, some 2, some 3, some 4, some 5, some 6, some 7] rfl rfl rfl ⟨⟨_, rfl, .cons tr_v (.cons tr_sl .nil)⟩, ⟨_, rfl, .cons tr_v (.cons tr_v (.cons tr_v (.cons tr_v (.cons tr_v .nil))))⟩, ⟨_, rfl, .cons (tr_mun rfl (by first | rfl | (simp; done) | (simp; omega) | (rw [bg_l (by omega)]))) (.cons (tr_mun rfl (by first | rfl | (simp; done) | (simp; omega) | (rw [bg_l (by omega)]))) (.cons (tr_mun rfl (by first | rfl | (simp; done) | (simp; omega) | (rw [bg_l (by omega)]))) (.cons (tr_mun rfl (by first | rfl | (simp; done) | (simp; omega) | (rw [bg_l (by omega)]))) (.cons (tr_mun rfl (by first | rfl | (simp; done) | (simp; omega) | (rw [bg_l (by omega)]))) (.cons tr_v (.cons tr_sl .nil))))))⟩, ⟨_, rfl, trc_flat pe_sc rfl⟩, ⟨_, rfl, trc_flat pe_sc rfl⟩, ⟨_, rfl, trc_flat pe_sc rfl⟩, ⟨_, rfl, trc_flat int_sc rfl⟩, ⟨_, rfl, trc_flat nce_sc rfl⟩, trivial⟩ ⟨tr_pt rfl, (tr_i (cz_eq rfl)), tr_sl, tr_v, tr_v, trivial⟩
                            · skip
                              exact absurd (by decide) h49
                          · skip
                            exfalso; omega
          · skip
            refine v_nil ?_
            refine q_n ?_
            refine w_seq ?_
            refine w_f rfl ?_
            refine w_exit ?_
            refine q_e ?_
            refine q_e ?_
            refine q_hit ?_
            refine q_n ?_
            refine w_seq ?_
            refine w_reg rfl ?_
            refine v_move rfl ?_
            refine v_move rfl ?_
            refine v_assign rfl ?_
            refine v_assign rfl ?_
            refine v_nil ?_
            refine q_n ?_
            refine w_ret ?_
            refine r_r rfl ?_
            refine v_move_t rfl ?_
            refine v_extract_c rfl rfl ?_
            refine v_extract_c rfl rfl ?_
            refine v_assign rfl ?_
            refine v_assign rfl ?_
            refine v_nil ?_
            refine q_n ?_
            refine w_seq ?_
            refine w_reg rfl ?_
            refine v_move rfl ?_
            refine v_move rfl ?_
            refine v_nil_pt rfl ?_
            refine v_fa_pt (off' := 0) lay94 rfl rfl rfl ?_
            refine v_fa_pt (off' := 4) lay64 rfl rfl rfl ?_
            refine v_load_pt (.c _) lay62 rfl rfl rfl rfl ?_
            refine v_live1 (N := 8) (H' := [_, _, _, _, _, _, _, _, _]) (c71l b.wr (by have := hok.wr; omega)) (sc_flat nce_sc _) rfl rfl rfl rfl rfl rfl (.cons (vw_mu2 nce_sc nce_len rfl (by first | rfl | (simp; done) | (simp; omega))) .nil) ?_
            refine v_nil_pt rfl ?_
            refine v_fa_pt (off' := 0) lay94 rfl rfl rfl ?_
            refine v_fa_pt (off' := 4) lay64 rfl rfl rfl ?_
            refine v_store (H' := [_, _, ⟨[_, _, _, _, _, _, _], 94, true⟩, _, _, _, _, _, _]) lay62 rfl rfl rfl rfl rfl rfl ?_
            refine v_nil ?_
            refine q_n ?_
            refine w_seq ?_
            refine w_reg rfl ?_
            refine v_move rfl ?_
            refine v_nil_pt rfl ?_
            refine v_fa_pt (off' := 0) lay94 rfl rfl rfl ?_
            refine v_load_pt (.agg [_, _, _, _, _]) lay64 rfl rfl rfl rfl ?_
            refine v_move rfl ?_
            refine v_store (H' := [_, ⟨[_, _, _, _, _], 64, true⟩, _, _, _, _, _, _, _]) lay64 rfl rfl rfl rfl rfl rfl ?_
            refine v_assign rfl ?_
            refine v_assign (c := .v (.int .i64 0)) rfl ?_
            refine v_nil ?_
            refine q_n ?_
            refine w_ret ?_
            refine r_r rfl ?_
            obtain rfl : i = ds.length := by omega
            rw [bo_of hg, hst]
            exact l_ans [some 3, some 4, some 5, some 6, some 8] rfl rfl ⟨⟨_, rfl, trc_flat pe_sc rfl⟩, ⟨_, rfl, trc_flat pe_sc rfl⟩, ⟨_, rfl, trc_flat pe_sc rfl⟩, ⟨_, rfl, trc_flat int_sc rfl⟩, ⟨_, rfl, trc_flat nce_sc rfl⟩, trivial⟩ (a_tup (.cons (tr_agg (.cons (tr_mu rfl) (.cons (tr_mu rfl) (.cons (tr_mu rfl) (.cons (tr_mu rfl) (.cons (tr_mu rfl) .nil)))))) (.cons tr_v (.cons tr_v .nil))))
end Go.VL
