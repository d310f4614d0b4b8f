/- Posts that are late: both walks, the marks, and the law's. -/
import Derived.Test.YtbejolinihbokaaC9
namespace Go.VL
open Go.RowKit
set_option maxRecDepth 20000
set_option maxHeartbeats 8000000
theorem snoc_eq {α : Type} {enc : α → List C} (f : Nat → α) (i : Nat) {x : α} (h : f i = x) : flat enc ((List.range i).map f ++ [x]) = flat enc ((List.range (i + 1)).map f) := by rw [range_step, h]
/-- Which of the first posts are late. -/
def lt (b : Bd) (i : Nat) : List Int := ((List.range i).filter (fun j => decide ((b.nw.getD j (0, 0)).2 > b.kn.getD j 0))).map (fun (j : Nat) => (j : Int))
theorem lt_yes {b : Bd} {i : Nat} (h1 : i < b.nw.length) (h2 : i < b.kn.length) (h : b.nw[i].2 > b.kn[i]) : lt b i ++ [(i : Int)] = lt b (i + 1) := by
  unfold lt
  rw [List.range_succ, List.filter_append, List.map_append]
  simp [h1, h2, h]
theorem lt_no {b : Bd} {i : Nat} (h1 : i < b.nw.length) (h2 : i < b.kn.length) (h : ¬ b.nw[i].2 > b.kn[i]) : lt b i = lt b (i + 1) := by
  unfold lt
  rw [List.range_succ, List.filter_append, List.map_append]
  simp [h1, h2, h]
theorem lt_len (b : Bd) (i : Nat) : (lt b i).length ≤ i := by
  unfold lt
  rw [List.length_map]
  exact Nat.le_trans (List.length_filter_le _ _) (by simp)
/-- Which posts are late. -/
def lateR (p : Int) (fs : List Int) (ds : List De) : List Int × Int := if gvR p fs ds ≠ 0 then ([], gvR p fs ds) else (lt (stB p fs ds ds.length).1 (stB p fs ds ds.length).1.ps.length, 0)
theorem late_bad {p : Int} {fs : List Int} {ds : List De} (h : gvR p fs ds ≠ 0) : lateR p fs ds = ([], gvR p fs ds) := by
  unfold lateR
  rw [if_pos h]
theorem late_bad2 {p : Int} {fs : List Int} {ds : List De} (h : dcR p fs ds 0 ≠ 0) : lateR p fs ds = ([], dcR p fs ds 0) := by
  rw [dc_gv] at h ⊢
  exact late_bad h
theorem late_of {p : Int} {fs : List Int} {ds : List De} (h : gvR p fs ds = 0) : lateR p fs ds = (lt (stB p fs ds ds.length).1 (stB p fs ds ds.length).1.ps.length, 0) := by
  unfold lateR
  rw [h, if_neg (by simp)]
theorem late_len {p : Int} {fs : List Int} {ds : List De} : (lateR p fs ds).1.length ≤ 2 ^ 40 := by
  unfold lateR
  split
  · simp
  · rename_i h
    have h0 : gvR p fs ds = 0 := Decidable.of_not_not h
    obtain ⟨hoc, hds, hdl⟩ := gv_ok h0
    have := hoc.2.2.2.1
    have h1 := (st_ok (p := p) (fs := fs) hds ds.length (Nat.le_refl _)).ps
    have h2 := lt_len (stB p fs ds ds.length).1 (stB p fs ds ds.length).1.ps.length
    simp only
    omega
def imark (a : Int) (j : Nat) : Int := a + j
def dmark (a : Int) (j : Nat) : De := (a + 3 * j, a + 3 * j + 1, a + 3 * j + 1 + 1)
def dset1 (X : De) (b : Int) : De := (b, X.2.1, X.2.2)
def dset2 (X : De) (b : Int) : De := (X.1, b, X.2.2)
def dset3 (X : De) (b : Int) : De := (X.1, X.2.1, b)
theorem dce1 (X : De) (b : Int) : dce (dset1 X b) = setCells (dce X) 0 [.v (.int .i64 b)] := rfl
theorem dce2 (X : De) (b : Int) : dce (dset2 X b) = setCells (dce X) 1 [.v (.int .i64 b)] := rfl
theorem dce3 (X : De) (b : Int) : dce (dset3 X b) = setCells (dce X) 2 [.v (.int .i64 b)] := rfl
theorem dmark_step {a : Int} {i : Nat} {xs : List De} (h : i < xs.length) {y1 y2 y3 : De} (h3 : y3 = dmark a i) : (((marks (dmark a) i xs).set i y1).set i y2).set i y3 = marks (dmark a) (i + 1) xs := by
  rw [List.set_set, List.set_set, h3]
  exact marks_step h
theorem imark_step {a : Int} {i : Nat} {xs : List Int} (h : i < xs.length) : (marks (imark a) i xs).set i (a + i) = marks (imark a) (i + 1) xs := marks_step (f := imark a) h
theorem c30 (p : Int) (fs : List Int) (ds : List De) (hx : fs.length ≤ 2 ^ 40) (hd : ds.length ≤ 2 ^ 40) : PureC X 30 [.agg (cen false p fs), .c (dcs false ds)] (.tup [.c (ints true (lateR p fs ds).1), cI (lateR p fs ds).2]) := by
  refine PureC.of_body (drawD_ok X) (fun _ _ => Go.Proofs.Try.call30 _ _) Go.Proofs.Try.func30 rfl (n := 56) rfl ?_
  refine w_seq ?_
  refine w_reg rfl ?_
  refine v_box (m := 0) (H' := [_]) lay33 rfl rfl rfl ?_
  refine v_assign rfl ?_
  refine v_assign (c := .v (.int .i64 0)) rfl ?_
  refine v_nil ?_
  refine q_n ?_
  refine w_seq ?_
  refine w_seq ?_
  refine w_reg rfl ?_
  refine v_move rfl ?_
  refine v_call (c58 _ _ _ (by omega) (by omega)) rfl rfl rfl (.cons (vw_pt rfl (.cons .v (.cons (.sl (fun h => by cases h)) .nil))) (.cons vw_sl .nil)) ?_
  refine v_assign rfl ?_
  refine v_nil ?_
  refine q_n ?_
  refine w_seq ?_
  refine w_reg rfl ?_
  refine v_move rfl ?_
  refine v_neq lay2 rfl rfl (fun h1 => ?_) (fun h1 => ?_)
  · skip
    refine v_nil ?_
    refine q_n ?_
    refine w_t rfl ?_
    refine w_seq ?_
    refine w_reg rfl ?_
    refine v_lit (flat int []) (H' := [_, _]) lay28 lay2 rfl rfl ⟨by decide, by decide⟩ rfl rfl ?_
    refine v_move rfl ?_
    refine v_assign rfl ?_
    refine v_assign rfl ?_
    refine v_nil ?_
    refine q_n ?_
    refine w_ret (q_r ?_)
    refine r_r rfl ?_
    rw [late_bad h1]
    exact a_tup (.cons (a_flat2 int_sc int_len rfl rfl rfl rfl) (.cons tr_v .nil))
  · skip
    have hg : gvR p fs ds = 0 := by omega
    obtain ⟨hoc, hds, hdl⟩ := gv_ok hg
    have hf : fs.length ≤ 6 := hoc.2.2.2.1
    have hok := st_ok (p := p) (fs := fs) hds ds.length (Nat.le_refl _)
    have n1 := hok.nw
    have n2 := hok.ps
    have n4 := hok.kn
    have n5 := hok.wr
    refine v_nil ?_
    refine q_n ?_
    refine w_f rfl ?_
    refine w_skip ?_
    refine q_n ?_
    refine w_seq ?_
    refine w_reg rfl ?_
    refine v_move rfl ?_
    refine v_call (c59 p fs ds (by omega) (by assumption) (by omega)) rfl rfl rfl (.cons (vw_pt rfl (.cons .v (.cons (.sl (fun h => by cases h)) .nil))) (.cons vw_sl .nil)) ?_
    refine v_move_t rfl ?_
    refine v_extract_c rfl rfl ?_
    refine v_extract_c rfl rfl ?_
    refine v_assign rfl ?_
    refine v_assign rfl ?_
    refine v_nil ?_
    refine q_n ?_
    refine w_seq ?_
    refine w_reg rfl ?_
    refine v_lit (flat int []) (H' := [_, _]) lay28 lay2 rfl rfl ⟨by decide, by decide⟩ rfl rfl ?_
    refine v_assign rfl ?_
    refine v_nil ?_
    refine q_n ?_
    refine w_seq ?_
    refine w_seq ?_
    refine w_reg rfl ?_
    refine v_assign (c := .v (.int .i64 0)) rfl ?_
    refine v_nil ?_
    refine q_n ?_
    refine w_block ?_
    refine w_loop (fun k sl H => ∃ i : Nat, k = (stB p fs ds ds.length).1.ps.length - i ∧ i ≤ (stB p fs ds ds.length).1.ps.length ∧ sl = sls [(7, .c (.vw true (bdv true (stB p fs ds ds.length).1) 0)), (9, .c (.mu 0 0 (lt (stB p fs ds ds.length).1 i).length 1)), (10, cI i)] ∧ H = [⟨flat int (lt (stB p fs ds ds.length).1 i), 2, true⟩]) ?_ ?_
    · refine ⟨_, _, _, ?_, 0, rfl, Nat.zero_le _, rfl, rfl⟩
      exact turn [some 1] rfl rfl rfl ⟨⟨_, rfl, trc_flat int_sc (xs := []) rfl⟩, trivial⟩ ⟨tr_vw, tr_mun rfl rfl, tr_v, trivial⟩
    · rintro k sl H ⟨i, rfl, hi, rfl, rfl⟩
      have hll := lt_len (stB p fs ds ds.length).1 i
      refine w_seq ?_
      refine w_seq ?_
      refine w_reg rfl ?_
      refine v_move rfl ?_
      refine v_move rfl ?_
      refine v_nil_vw rfl ?_
      refine v_fa_vw (off' := 1) lay90 rfl rfl rfl ?_
      refine v_fa_vw (off' := 2) lay64 rfl rfl rfl ?_
      refine v_load_vw (.c (_)) lay61 rfl rfl rfl ?_
      refine v_len_sl lay61 rfl ?_
      refine v_lss lay3 rfl rfl (fun h2 => ?_) (fun h2 => ?_)
      · skip
        have i1 : i < (stB p fs ds ds.length).1.nw.length := by omega
        have i2 : i < (stB p fs ds ds.length).1.kn.length := by omega
        refine v_nil ?_
        refine q_n ?_
        refine w_t rfl ?_
        refine w_skip ?_
        refine q_n ?_
        refine w_seq ?_
        refine w_block ?_
        refine w_seq ?_
        refine w_draw [0, 1, 3, 7, 15, 0, 63, 127, 255, 0, 512, 1536, 3584, 7680, 0, 32256, 65024, 131071] [⟨0, 0, []⟩, ⟨1, 0, []⟩, ⟨2, 0, []⟩, ⟨3, 0, []⟩, ⟨4, 0, []⟩, ⟨5, 0, []⟩, ⟨6, 0, []⟩, ⟨7, 0, []⟩, ⟨8, 0, []⟩, ⟨9, 0, []⟩, ⟨10, 0, []⟩, ⟨11, 0, []⟩, ⟨12, 0, []⟩, ⟨13, 0, []⟩, ⟨14, 0, []⟩, ⟨15, 0, []⟩, ⟨16, 0, []⟩, ⟨17, 0, []⟩] rfl rfl ?_
        refine d_q rfl rfl rfl rfl rfl ?_
        refine v_move rfl ?_
        refine v_nil ?_
        refine d_q rfl rfl rfl rfl rfl ?_
        refine v_nil_vw rfl ?_
        refine v_nil ?_
        refine d_q rfl rfl rfl rfl rfl ?_
        refine v_fa_vw (off' := 1) lay90 rfl rfl rfl ?_
        refine v_nil ?_
        refine d_q rfl rfl rfl rfl rfl ?_
        refine v_fa_vw (off' := 1) lay64 rfl rfl rfl ?_
        refine v_nil ?_
        refine d_q rfl rfl rfl rfl rfl ?_
        refine v_load_vw (.c (_)) lay61 rfl rfl rfl ?_
        refine v_nil ?_
        refine d_q rfl rfl rfl rfl rfl ?_
        refine v_move rfl ?_
        refine v_nil ?_
        refine d_q rfl rfl rfl rfl rfl ?_
        refine v_idx_e (k := 2) (i) pe_len lay61 lay46 rfl rfl rfl (rfl) rfl (rfl) (by omega) ?_
        refine v_nil ?_
        refine d_q rfl rfl rfl rfl rfl ?_
        refine v_fa_vw (off' := 1) lay46 rfl rfl rfl ?_
        refine v_nil ?_
        refine d_q rfl rfl rfl rfl rfl ?_
        refine v_load_vw (.c (.v _)) lay2 rfl rfl rfl ?_
        refine v_nil ?_
        refine d_q rfl rfl rfl rfl rfl ?_
        refine v_move rfl ?_
        refine v_nil ?_
        refine d_q rfl rfl rfl rfl rfl ?_
        refine v_nil_vw rfl ?_
        refine v_nil ?_
        refine d_q rfl rfl rfl rfl rfl ?_
        refine v_fa_vw (off' := 1) lay90 rfl rfl rfl ?_
        refine v_nil ?_
        refine d_q rfl rfl rfl rfl rfl ?_
        refine v_fa_vw (off' := 4) lay64 rfl rfl rfl ?_
        refine v_nil ?_
        refine d_q rfl rfl rfl rfl rfl ?_
        refine v_load_vw (.c (_)) lay28 rfl rfl rfl ?_
        refine v_nil ?_
        refine d_q rfl rfl rfl rfl rfl ?_
        refine v_move rfl ?_
        refine v_nil ?_
        refine d_q rfl rfl rfl rfl rfl ?_
        refine v_idx_e (k := 1) (i) int_len lay28 lay2 rfl rfl rfl (rfl) rfl (rfl) (by omega) ?_
        refine v_nil ?_
        refine d_q rfl rfl rfl rfl rfl ?_
        refine v_load_vw (.c (.v _)) lay2 rfl rfl rfl ?_
        refine v_nil ?_
        refine d_q rfl rfl rfl rfl rfl ?_
        refine v_gtr lay2 rfl rfl (fun h5 => ?_) (fun h5 => ?_)
        · skip
          have hyes := h5
          refine v_nil ?_
          refine d_nil ?_
          refine q_n ?_
          refine w_t rfl ?_
          refine w_reg rfl ?_
          refine v_move rfl ?_
          refine v_move rfl ?_
          refine v_lit (flat int [_]) (H' := [_, _]) lay28 lay2 rfl rfl ⟨by decide, by decide⟩ rfl rfl ?_
          refine v_app_flat (H' := [_, _, _]) int_sc int_len lay28 lay2 rfl rfl (by first | rfl | (simp; done)) rfl rfl (by first | rfl | (simp; done)) rfl rfl (by unfold maxLen; simp only []; omega) rfl rfl ?_
          refine v_assign rfl ?_
          refine v_nil ?_
          refine q_bn ?_
          refine q_n ?_
          refine w_reg rfl ?_
          refine v_move rfl ?_
          refine v_add lay3 rfl rfl (i64r (by omega)) ?_
          refine v_assign rfl ?_
          refine v_nil ?_
          refine q_n ?_
          have hll := lt_len (stB p fs ds ds.length).1 i
          refine ⟨_, _, _, ?_, ⟨i + 1, rfl, by omega, rfl, rfl⟩, by omega⟩
          exact turn [some 2] rfl rfl rfl ⟨⟨_, rfl, trc_flat int_sc (congrArg (flat int) (lt_yes i1 i2 hyes))⟩, trivial⟩ ⟨tr_vw, tr_mun rfl (by rw [← lt_yes i1 i2 hyes, List.length_append]; rfl), tr_v, trivial⟩
        · skip
          have hno := h5
          refine v_nil ?_
          refine d_nil ?_
          refine q_n ?_
          refine w_f rfl ?_
          refine w_skip ?_
          refine q_bn ?_
          refine q_n ?_
          refine w_reg rfl ?_
          refine v_move rfl ?_
          refine v_add lay3 rfl rfl (i64r (by omega)) ?_
          refine v_assign rfl ?_
          refine v_nil ?_
          refine q_n ?_
          have hll := lt_len (stB p fs ds ds.length).1 i
          refine ⟨_, _, _, ?_, ⟨i + 1, rfl, by omega, rfl, rfl⟩, by omega⟩
          exact turn [some 0] rfl rfl rfl ⟨⟨_, rfl, trc_flat int_sc (congrArg (flat int) (lt_no i1 i2 hno))⟩, trivial⟩ ⟨tr_vw, tr_mun rfl (congrArg List.length (lt_no i1 i2 hno)), tr_v, trivial⟩
      · skip
        refine v_nil ?_
        refine q_n ?_
        refine w_f rfl ?_
        refine w_exit ?_
        refine q_e ?_
        refine q_e ?_
        refine q_hit ?_
        refine q_n ?_
        refine w_seq ?_
        refine w_reg rfl ?_
        refine v_move rfl ?_
        refine v_assign rfl ?_
        refine v_assign (c := .v (.int .i64 0)) rfl ?_
        refine v_nil ?_
        refine q_n ?_
        refine w_ret ?_
        refine r_r rfl ?_
        obtain rfl : i = (stB p fs ds ds.length).1.ps.length := by omega
        rw [late_of hg]
        exact a_tup (.cons (a_flat2 int_sc int_len rfl rfl rfl rfl) (.cons tr_v .nil))

theorem c31l (p : Int) (fs : List Int) (ds : List De) (hx : fs.length ≤ 2 ^ 40) (hd : ds.length ≤ 2 ^ 40) : LiveC X 31 [.agg (cen false p fs), .c (dcs false ds)] (.tup [.c (.mu 0 0 (lateR p fs ds).1.length 1), cI (lateR p fs ds).2]) [⟨flat int (lateR p fs ds).1, 2, true⟩] := by
  refine LiveC.of_body (drawD_ok X) (fun _ _ => Go.Proofs.Try.call31 _ _) Go.Proofs.Try.func31 rfl (n := 53) rfl ?_
  refine w_seq ?_
  refine w_reg rfl ?_
  refine v_box (m := 0) (H' := [_]) lay33 rfl rfl rfl ?_
  refine v_assign rfl ?_
  refine v_assign (c := .v (.int .i64 0)) rfl ?_
  refine v_nil ?_
  refine q_n ?_
  refine w_seq ?_
  refine w_seq ?_
  refine w_reg rfl ?_
  refine v_load_pt (.agg [_, _]) lay33 rfl rfl rfl rfl ?_
  refine v_move rfl ?_
  refine v_call (c60 _ _ _ _ (by omega) (by omega)) rfl rfl rfl (.cons (vw_agg (.cons vw_v (.cons vw_sl .nil))) (.cons vw_sl (.cons vw_v .nil))) ?_
  refine v_assign rfl ?_
  refine v_nil ?_
  refine q_n ?_
  refine w_seq ?_
  refine w_reg rfl ?_
  refine v_move rfl ?_
  refine v_neq lay2 rfl rfl (fun h1 => ?_) (fun h1 => ?_)
  · skip
    refine v_nil ?_
    refine q_n ?_
    refine w_t rfl ?_
    refine w_seq ?_
    refine w_reg rfl ?_
    refine v_move rfl ?_
    refine v_assign rfl ?_
    refine v_assign rfl ?_
    refine v_nil ?_
    refine q_n ?_
    refine w_ret (q_r ?_)
    refine r_r rfl ?_
    rw [late_bad2 h1]
    exact l_ans [none] rfl rfl ⟨rfl, trivial⟩ (a_tup (.cons (tr_nil rfl) (.cons tr_v .nil)))
  · skip
    have hg : gvR p fs ds = 0 := by rw [← dc_gv]; omega
    obtain ⟨hoc, hds, hdl⟩ := gv_ok hg
    have hf : fs.length ≤ 6 := hoc.2.2.2.1
    have hok := st_ok (p := p) (fs := fs) hds ds.length (Nat.le_refl _)
    have n1 := hok.nw
    have n2 := hok.ps
    have n4 := hok.kn
    have n5 := hok.wr
    refine v_nil ?_
    refine q_n ?_
    refine w_f rfl ?_
    refine w_skip ?_
    refine q_n ?_
    refine w_seq ?_
    refine w_reg rfl ?_
    refine v_load_pt (.agg [_, _]) lay33 rfl rfl rfl rfl ?_
    refine v_move rfl ?_
    refine v_call (c65 p fs ds (by omega) (by assumption) (by omega)) rfl rfl rfl (.cons (vw_agg (.cons vw_v (.cons vw_sl .nil))) (.cons vw_sl .nil)) ?_
    refine v_move_t rfl ?_
    refine v_extract_c rfl rfl ?_
    refine v_extract_c rfl rfl ?_
    refine v_assign rfl ?_
    refine v_assign rfl ?_
    refine v_nil ?_
    refine q_n ?_
    refine w_seq ?_
    refine w_reg rfl ?_
    refine v_lit (flat int []) (H' := [_, _]) lay28 lay2 rfl rfl ⟨by decide, by decide⟩ rfl rfl ?_
    refine v_assign rfl ?_
    refine v_nil ?_
    refine q_n ?_
    refine w_seq ?_
    refine w_seq ?_
    refine w_reg rfl ?_
    refine v_move rfl ?_
    refine v_nil_vw rfl ?_
    refine v_fa_vw (off' := 0) lay94 rfl rfl rfl ?_
    refine v_fa_vw (off' := 0) lay64 rfl rfl rfl ?_
    refine v_load_vw (.c (_)) lay61 rfl rfl rfl ?_
    refine v_len_sl lay61 rfl ?_
    refine v_move (c := .v (.int .i64 0)) rfl ?_
    refine v_nil ?_
    refine q_n ?_
    refine w_block ?_
    refine w_loop (fun k sl H => ∃ i : Nat, k = (stB p fs ds ds.length).1.ps.length - i ∧ i ≤ (stB p fs ds ds.length).1.ps.length ∧ sl = sls [(7, .c (.vw true (bdw (stB p fs ds ds.length).1) 0)), (9, .c (.mu 0 0 (lt (stB p fs ds ds.length).1 i).length 1)), (29, .c (.sl true (stB p fs ds ds.length).1.nw.length 2 (flat pe (stB p fs ds ds.length).1.nw))), (30, cI (stB p fs ds ds.length).1.nw.length), (31, cI i)] ∧ H = [⟨flat int (lt (stB p fs ds ds.length).1 i), 2, true⟩]) ?_ ?_
    · refine ⟨_, _, _, ?_, 0, rfl, Nat.zero_le _, rfl, rfl⟩
      exact turn [some 1] rfl rfl rfl ⟨⟨_, rfl, trc_flat int_sc (xs := []) rfl⟩, trivial⟩ ⟨tr_vw, tr_mun rfl rfl, tr_sl, tr_v, tr_v, trivial⟩
    · rintro k sl H ⟨i, rfl, hi, rfl, rfl⟩
      have hll := lt_len (stB p fs ds ds.length).1 i
      refine w_seq ?_
      refine w_reg rfl ?_
      refine v_lss lay3 rfl rfl (fun h2 => ?_) (fun h2 => ?_)
      · skip
        have i1 : i < (stB p fs ds ds.length).1.nw.length := by omega
        have i2 : i < (stB p fs ds ds.length).1.kn.length := by omega
        refine v_nil ?_
        refine q_n ?_
        refine w_seq ?_
        refine w_t rfl ?_
        refine w_skip ?_
        refine q_n ?_
        refine w_seq ?_
        refine w_block ?_
        refine w_seq ?_
        refine w_reg rfl ?_
        refine v_move rfl ?_
        refine v_idx_e (k := 2) (i) pe_len lay61 lay46 rfl rfl rfl (rfl) rfl (rfl) (by omega) ?_
        refine v_load_vw (.agg [.v _, .v _]) lay46 rfl rfl rfl ?_
        refine v_alloc (m := 1) (H' := [_, ⟨[.v _, .v _], 46, true⟩]) lay46 rfl rfl ?_
        refine v_assign rfl ?_
        refine v_store (H' := [_, ⟨[_, _], 46, true⟩]) lay46 rfl rfl rfl rfl rfl rfl ?_
        refine v_nil ?_
        refine q_n ?_
        refine w_seq ?_
        refine w_draw [0, 1, 0, 4, 12, 28, 60, 0, 252, 508, 1023] [⟨0, 0, []⟩, ⟨1, 0, []⟩, ⟨2, 0, []⟩, ⟨3, 0, []⟩, ⟨4, 0, []⟩, ⟨5, 0, []⟩, ⟨6, 0, []⟩, ⟨7, 0, []⟩, ⟨8, 0, []⟩, ⟨9, 0, []⟩, ⟨10, 0, []⟩] rfl rfl ?_
        refine d_q rfl rfl rfl rfl rfl ?_
        refine v_fa_pt (off' := 1) lay46 rfl rfl rfl ?_
        refine v_nil ?_
        refine d_q rfl rfl rfl rfl rfl ?_
        refine v_load_pt (.c _) lay2 rfl rfl rfl rfl ?_
        refine v_nil ?_
        refine d_q rfl rfl rfl rfl rfl ?_
        refine v_move rfl ?_
        refine v_nil ?_
        refine d_q rfl rfl rfl rfl rfl ?_
        refine v_nil_vw rfl ?_
        refine v_nil ?_
        refine d_q rfl rfl rfl rfl rfl ?_
        refine v_fa_vw (off' := 0) lay94 rfl rfl rfl ?_
        refine v_nil ?_
        refine d_q rfl rfl rfl rfl rfl ?_
        refine v_fa_vw (off' := 3) lay64 rfl rfl rfl ?_
        refine v_nil ?_
        refine d_q rfl rfl rfl rfl rfl ?_
        refine v_load_vw (.c (_)) lay28 rfl rfl rfl ?_
        refine v_nil ?_
        refine d_q rfl rfl rfl rfl rfl ?_
        refine v_move rfl ?_
        refine v_nil ?_
        refine d_q rfl rfl rfl rfl rfl ?_
        refine v_idx_e (k := 1) (i) int_len lay28 lay2 rfl rfl rfl (rfl) rfl (rfl) (by omega) ?_
        refine v_nil ?_
        refine d_q rfl rfl rfl rfl rfl ?_
        refine v_load_vw (.c (.v _)) lay2 rfl rfl rfl ?_
        refine v_nil ?_
        refine d_q rfl rfl rfl rfl rfl ?_
        refine v_gtr lay2 rfl rfl (fun h5 => ?_) (fun h5 => ?_)
        · skip
          have hyes := h5
          refine v_nil ?_
          refine d_nil ?_
          refine q_n ?_
          refine w_t rfl ?_
          refine w_reg rfl ?_
          refine v_move rfl ?_
          refine v_move rfl ?_
          refine v_lit (flat int [_]) (H' := [_, _, _]) lay28 lay2 rfl rfl ⟨by decide, by decide⟩ rfl rfl ?_
          refine v_app_flat (H' := [_, _, _, _]) int_sc int_len lay28 lay2 rfl rfl (by first | rfl | (simp; done)) rfl rfl (by first | rfl | (simp; done)) rfl rfl (by unfold maxLen; simp only []; omega) rfl rfl ?_
          refine v_assign rfl ?_
          refine v_nil ?_
          refine q_bn ?_
          refine q_n ?_
          refine w_reg rfl ?_
          refine v_add lay3 rfl rfl (i64r (by omega)) ?_
          refine v_move rfl ?_
          refine v_nil ?_
          refine q_n ?_
          have hll := lt_len (stB p fs ds ds.length).1 i
          refine ⟨_, _, _, ?_, ⟨i + 1, rfl, by omega, rfl, rfl⟩, by omega⟩
          exact turn [some 3] rfl rfl rfl ⟨⟨_, rfl, trc_flat int_sc (congrArg (flat int) (lt_yes i1 i2 hyes))⟩, trivial⟩ ⟨tr_vw, tr_mun rfl (by rw [← lt_yes i1 i2 hyes, List.length_append]; rfl), tr_sl, tr_v, tr_v, trivial⟩
        · skip
          have hno := h5
          refine v_nil ?_
          refine d_nil ?_
          refine q_n ?_
          refine w_f rfl ?_
          refine w_skip ?_
          refine q_bn ?_
          refine q_n ?_
          refine w_reg rfl ?_
          refine v_add lay3 rfl rfl (i64r (by omega)) ?_
          refine v_move rfl ?_
          refine v_nil ?_
          refine q_n ?_
          have hll := lt_len (stB p fs ds ds.length).1 i
          refine ⟨_, _, _, ?_, ⟨i + 1, rfl, by omega, rfl, rfl⟩, by omega⟩
          exact turn [some 0] rfl rfl rfl ⟨⟨_, rfl, trc_flat int_sc (congrArg (flat int) (lt_no i1 i2 hno))⟩, trivial⟩ ⟨tr_vw, tr_mun rfl (congrArg List.length (lt_no i1 i2 hno)), tr_sl, tr_v, tr_v, trivial⟩
      · skip
        refine v_nil ?_
        refine q_n ?_
        refine w_seq ?_
        refine w_f rfl ?_
        refine w_exit ?_
        refine q_e ?_
        refine q_e ?_
        refine q_hit ?_
        refine q_n ?_
        refine w_seq ?_
        refine w_reg rfl ?_
        refine v_move rfl ?_
        refine v_assign rfl ?_
        refine v_assign (c := .v (.int .i64 0)) rfl ?_
        refine v_nil ?_
        refine q_n ?_
        refine w_ret ?_
        refine r_r rfl ?_
        obtain rfl : i = (stB p fs ds ds.length).1.ps.length := by omega
        rw [late_of hg]
        exact l_ans [some 0] rfl rfl ⟨⟨_, rfl, trc_flat int_sc rfl⟩, trivial⟩ (a_tup (.cons (tr_mun rfl rfl) (.cons tr_v .nil)))

theorem c31 (p : Int) (fs : List Int) (ds : List De) (hx : fs.length ≤ 2 ^ 40) (hd : ds.length ≤ 2 ^ 40) : PureC X 31 [.agg (cen false p fs), .c (dcs false ds)] (.tup [.c (ints true (lateR p fs ds).1), cI (lateR p fs ds).2]) :=
  (c31l p fs ds hx hd).pure (a_tup (.cons (a_flat int_sc int_len rfl rfl) (.cons tr_v .nil)))

theorem c22l (xs : List De) (hx : xs.length ≤ 2 ^ 40) : LiveC X 22 [.c (dcs false xs)] (.c (.mu 0 0 xs.length 3)) [⟨flat dce xs, 25, true⟩] := by
  refine LiveC.of_body (drawD_ok X) (fun _ _ => Go.Proofs.Try.call22 _ _) Go.Proofs.Try.func22 rfl (n := 23) rfl ?_
  refine w_seq ?_
  refine w_reg rfl ?_
  refine v_assign rfl ?_
  refine v_nil ?_
  refine q_n ?_
  refine w_seq ?_
  refine w_reg rfl ?_
  refine v_move rfl ?_
  refine v_len_sl lay37 rfl ?_
  refine v_make (enc := dce) (a0 := ((0, 0, 0) : De)) (m := 0) (H' := [_]) rfl lay41 lay25 rfl rfl rfl rfl (xs.length) (rfl) (by unfold maxLen; simp only []; omega) rfl rfl ?_
  refine v_assign rfl ?_
  refine v_nil ?_
  refine q_n ?_
  refine w_seq ?_
  refine w_seq ?_
  refine w_reg rfl ?_
  refine v_assign (c := .v (.int .i64 0)) rfl ?_
  refine v_nil ?_
  refine q_n ?_
  refine w_block ?_
  refine w_loop (fun k sl H => ∃ i : Nat, k = xs.length - i ∧ i ≤ xs.length ∧ sl = sls [(0, .c (dcs false xs)), (3, .c (.mu 0 0 xs.length 3)), (4, cI i)] ∧ H = [⟨flat dce (xs.take i ++ List.replicate (xs.length - i) (0, 0, 0)), 25, true⟩]) ?_ ?_
  · refine ⟨_, _, _, ?_, 0, rfl, Nat.zero_le _, rfl, rfl⟩
    exact turn [some 0] rfl rfl rfl ⟨⟨_, rfl, .stay (stays_flat dce_sc _)⟩, trivial⟩ ⟨tr_sl, tr_mu rfl, tr_v, trivial⟩
  · rintro k sl H ⟨i, rfl, hi, rfl, rfl⟩
    refine w_seq ?_
    refine w_seq ?_
    refine w_reg rfl ?_
    refine v_move rfl ?_
    refine v_move rfl ?_
    refine v_len_sl lay37 rfl ?_
    refine v_lss lay3 rfl rfl (fun h1 => ?_) (fun h1 => ?_)
    · skip
      refine v_nil ?_
      refine q_n ?_
      refine w_t rfl ?_
      refine w_skip ?_
      refine q_n ?_
      refine w_seq ?_
      refine w_block ?_
      refine w_reg rfl ?_
      refine v_move rfl ?_
      refine v_move rfl ?_
      refine v_move rfl ?_
      refine v_move rfl ?_
      have hq2 : i < _ := (by omega : i < xs.length)
      refine v_idx_n (k := 3) i dce_len lay37 lay23 rfl rfl rfl (rfl) rfl hq2 ?_
      refine v_load_vw (.agg [.v _, .v _, .v _]) lay23 rfl rfl rfl ?_
      refine v_call (c13 _) rfl rfl rfl (.cons (vw_agg (.cons vw_v (.cons vw_v (.cons vw_v .nil)))) .nil) ?_
      have hq3 : i < _ := (by omega : i < xs.length)
      refine v_idx_mu_n (k := 3) (off := 0) i lay41 lay25 rfl rfl rfl hq3 ?_
      refine v_store_flat (H' := [_]) i 0 (xs[i]) dce_len lay25 rfl rfl rfl (by omega) (by simp; omega) rfl rfl (rfl) rfl ?_
      refine v_nil ?_
      refine q_bn ?_
      refine q_n ?_
      refine w_reg rfl ?_
      refine v_move rfl ?_
      refine v_add lay3 rfl rfl (i64r (by omega)) ?_
      refine v_assign rfl ?_
      refine v_nil ?_
      refine q_n ?_
      refine ⟨_, _, _, ?_, ⟨i + 1, rfl, by omega, rfl, rfl⟩, by omega⟩
      exact turn [some 0] rfl rfl rfl ⟨⟨_, rfl, by rw [fill_step hq2]; exact .stay (stays_flat dce_sc _)⟩, trivial⟩ ⟨tr_sl, tr_mu rfl, tr_v, trivial⟩
    · skip
      refine v_nil ?_
      refine q_n ?_
      refine w_f rfl ?_
      refine w_exit ?_
      refine q_e ?_
      refine q_e ?_
      refine q_hit ?_
      refine q_n ?_
      refine w_seq ?_
      refine w_reg rfl ?_
      refine v_move rfl ?_
      refine v_assign rfl ?_
      refine v_nil ?_
      refine q_n ?_
      refine w_ret ?_
      refine r_r rfl ?_
      obtain rfl : i = xs.length := by omega
      exact l_ans [some 0] rfl rfl ⟨⟨_, rfl, trc_flat dce_sc (by simp)⟩, trivial⟩ (tr_mu rfl)

theorem c35 (xs : List Int) (a : Int) (hx : xs.length ≤ 2 ^ 40) (ha : 0 ≤ a ∧ a ≤ 2 ^ 50) : MarkC X 35 xs.length 1 2 (flat int xs) (.int .i64 a) (.int .i64 (a + xs.length)) (flat int ((List.range xs.length).map (imark a))) := by
  refine MarkC.of_body (drawD_ok X) (fun _ _ => Go.Proofs.Try.call35 _ _) Go.Proofs.Try.func35 rfl (sc_flat int_sc _) (q := 19) rfl ?_
  refine w_seq ?_
  refine w_reg rfl ?_
  refine v_assign (c := .v (.int .i64 0)) rfl ?_
  refine v_nil ?_
  refine q_n ?_
  refine w_seq ?_
  refine w_seq ?_
  refine w_reg rfl ?_
  refine v_assign (c := .v (.int .i64 0)) rfl ?_
  refine v_nil ?_
  refine q_n ?_
  refine w_block ?_
  refine w_loop (fun k sl H => ∃ i : Nat, k = xs.length - i ∧ i ≤ xs.length ∧ sl = sls [(0, .c (.mu 0 0 xs.length 1)), (1, cI (a + i)), (5, cI i)] ∧ H = [⟨flat int (marks (imark a) i xs), 2, true⟩]) ?_ ?_
  · refine ⟨_, _, _, ?_, 0, rfl, Nat.zero_le _, rfl, rfl⟩
    exact turn [some 0] rfl rfl rfl ⟨⟨_, rfl, trc_flat int_sc rfl⟩, trivial⟩ ⟨tr_mu rfl, tr_i (by simp), tr_v, trivial⟩
  · rintro k sl H ⟨i, rfl, hi, rfl, rfl⟩
    refine w_seq ?_
    refine w_seq ?_
    refine w_reg rfl ?_
    refine v_move rfl ?_
    refine v_move rfl ?_
    refine v_len_mu lay28 rfl ?_
    refine v_lss lay3 rfl rfl (fun h1 => ?_) (fun h1 => ?_)
    · skip
      refine v_nil ?_
      refine q_n ?_
      refine w_t rfl ?_
      refine w_skip ?_
      refine q_n ?_
      refine w_seq ?_
      refine w_block ?_
      refine w_seq ?_
      refine w_reg rfl ?_
      refine v_move rfl ?_
      refine v_move rfl ?_
      refine v_move rfl ?_
      refine v_idx_mu_e (k := 1) (off := 0) (i) lay28 lay2 rfl rfl rfl (rfl) (by omega) ?_
      refine v_store_flat (H' := [_]) i 0 ((a + i)) int_len lay2 rfl rfl rfl (by omega) (by rw [marks_len (by omega)]; omega) rfl rfl (rfl) rfl ?_
      refine v_nil ?_
      refine q_n ?_
      refine w_reg rfl ?_
      refine v_move rfl ?_
      refine v_add lay3 rfl rfl (i64r (by omega)) ?_
      refine v_assign rfl ?_
      refine v_nil ?_
      refine q_bn ?_
      refine q_n ?_
      refine w_reg rfl ?_
      refine v_move rfl ?_
      refine v_add lay3 rfl rfl (i64r (by omega)) ?_
      refine v_assign rfl ?_
      refine v_nil ?_
      refine q_n ?_
      refine ⟨_, _, _, ?_, ⟨i + 1, rfl, by omega, rfl, rfl⟩, by omega⟩
      exact turn [some 0] rfl rfl rfl ⟨⟨_, rfl, trc_flat int_sc (congrArg (flat int) (imark_step (by omega)))⟩, trivial⟩ ⟨tr_mu rfl, tr_i (by push_cast; omega), tr_v, trivial⟩
    · skip
      refine v_nil ?_
      refine q_n ?_
      refine w_f rfl ?_
      refine w_exit ?_
      refine q_e ?_
      refine q_e ?_
      refine q_hit ?_
      refine q_n ?_
      refine w_seq ?_
      refine w_reg rfl ?_
      refine v_move rfl ?_
      refine v_assign rfl ?_
      refine v_nil ?_
      refine q_n ?_
      refine w_ret ?_
      refine r_r rfl ?_
      obtain rfl : i = xs.length := by omega
      exact ⟨rfl, [], by rw [← marks_all]⟩

theorem c34 (xs : List De) (a : Int) (hx : xs.length ≤ 2 ^ 40) (ha : 0 ≤ a ∧ a ≤ 2 ^ 50) : MarkC X 34 xs.length 3 25 (flat dce xs) (.int .i64 a) (.int .i64 (a + 3 * xs.length)) (flat dce ((List.range xs.length).map (dmark a))) := by
  refine MarkC.of_body (drawD_ok X) (fun _ _ => Go.Proofs.Try.call34 _ _) Go.Proofs.Try.func34 rfl (sc_flat dce_sc _) (q := 34) rfl ?_
  refine w_seq ?_
  refine w_reg rfl ?_
  refine v_assign (c := .v (.int .i64 0)) rfl ?_
  refine v_nil ?_
  refine q_n ?_
  refine w_seq ?_
  refine w_seq ?_
  refine w_reg rfl ?_
  refine v_assign (c := .v (.int .i64 0)) rfl ?_
  refine v_nil ?_
  refine q_n ?_
  refine w_block ?_
  refine w_loop (fun k sl H => ∃ i : Nat, k = xs.length - i ∧ i ≤ xs.length ∧ sl = sls [(0, .c (.mu 0 0 xs.length 3)), (1, cI (a + 3 * i)), (5, cI i)] ∧ H = [⟨flat dce (marks (dmark a) i xs), 25, true⟩]) ?_ ?_
  · refine ⟨_, _, _, ?_, 0, rfl, Nat.zero_le _, rfl, rfl⟩
    exact turn [some 0] rfl rfl rfl ⟨⟨_, rfl, trc_flat dce_sc rfl⟩, trivial⟩ ⟨tr_mu rfl, tr_i (by simp), tr_v, trivial⟩
  · rintro k sl H ⟨i, rfl, hi, rfl, rfl⟩
    refine w_seq ?_
    refine w_seq ?_
    refine w_reg rfl ?_
    refine v_move rfl ?_
    refine v_move rfl ?_
    refine v_len_mu lay41 rfl ?_
    refine v_lss lay3 rfl rfl (fun h1 => ?_) (fun h1 => ?_)
    · skip
      refine v_nil ?_
      refine q_n ?_
      refine w_t rfl ?_
      refine w_skip ?_
      refine q_n ?_
      refine w_seq ?_
      refine w_block ?_
      refine w_seq ?_
      refine w_reg rfl ?_
      refine v_move rfl ?_
      refine v_move rfl ?_
      refine v_move rfl ?_
      refine v_idx_mu_e (k := 3) (off := 0) (i) lay41 lay25 rfl rfl rfl (rfl) (by omega) ?_
      refine v_fa_pt (off' := _) lay25 rfl rfl rfl ?_
      refine v_store_flat (H' := [_]) i 0 (dset1 _ _) dce_len lay2 rfl rfl rfl (by omega) (by (try simp only [List.length_set]); rw [marks_len hi]; omega) rfl rfl (dce1 _ _) rfl ?_
      refine v_nil ?_
      refine q_n ?_
      refine w_seq ?_
      refine w_reg rfl ?_
      refine v_move rfl ?_
      refine v_add lay3 rfl rfl (i64r (by omega)) ?_
      refine v_assign rfl ?_
      refine v_nil ?_
      refine q_n ?_
      refine w_seq ?_
      refine w_reg rfl ?_
      refine v_move rfl ?_
      refine v_move rfl ?_
      refine v_move rfl ?_
      refine v_idx_mu_e (k := 3) (off := 0) (i) lay41 lay25 rfl rfl rfl (rfl) (by omega) ?_
      refine v_fa_pt (off' := _) lay25 rfl rfl rfl ?_
      refine v_store_flat (H' := [_]) i 1 (dset2 _ _) dce_len lay2 rfl rfl rfl (by omega) (by (try simp only [List.length_set]); rw [marks_len hi]; omega) rfl rfl (dce2 _ _) rfl ?_
      refine v_nil ?_
      refine q_n ?_
      refine w_seq ?_
      refine w_reg rfl ?_
      refine v_move rfl ?_
      refine v_add lay3 rfl rfl (i64r (by omega)) ?_
      refine v_assign rfl ?_
      refine v_nil ?_
      refine q_n ?_
      refine w_seq ?_
      refine w_reg rfl ?_
      refine v_move rfl ?_
      refine v_move rfl ?_
      refine v_move rfl ?_
      refine v_idx_mu_e (k := 3) (off := 0) (i) lay41 lay25 rfl rfl rfl (rfl) (by omega) ?_
      refine v_fa_pt (off' := _) lay25 rfl rfl rfl ?_
      refine v_store_flat (H' := [_]) i 2 (dset3 _ _) dce_len lay2 rfl rfl rfl (by omega) (by (try simp only [List.length_set]); rw [marks_len hi]; omega) rfl rfl (dce3 _ _) rfl ?_
      refine v_nil ?_
      refine q_n ?_
      refine w_reg rfl ?_
      refine v_move rfl ?_
      refine v_add lay3 rfl rfl (i64r (by omega)) ?_
      refine v_assign rfl ?_
      refine v_nil ?_
      refine q_bn ?_
      refine q_n ?_
      refine w_reg rfl ?_
      refine v_move rfl ?_
      refine v_add lay3 rfl rfl (i64r (by omega)) ?_
      refine v_assign rfl ?_
      refine v_nil ?_
      refine q_n ?_
      refine ⟨_, _, _, ?_, ⟨i + 1, rfl, by omega, rfl, rfl⟩, by omega⟩
      exact turn [some 0] rfl rfl rfl ⟨⟨_, rfl, trc_flat dce_sc (congrArg (flat dce) (dmark_step (by omega) (by simp only [List.getElem_set_self]; rfl)))⟩, trivial⟩ ⟨tr_mu rfl, tr_i (by push_cast; omega), tr_v, trivial⟩
    · skip
      refine v_nil ?_
      refine q_n ?_
      refine w_f rfl ?_
      refine w_exit ?_
      refine q_e ?_
      refine q_e ?_
      refine q_hit ?_
      refine q_n ?_
      refine w_seq ?_
      refine w_reg rfl ?_
      refine v_move rfl ?_
      refine v_assign rfl ?_
      refine v_nil ?_
      refine q_n ?_
      refine w_ret ?_
      refine r_r rfl ?_
      obtain rfl : i = xs.length := by omega
      exact ⟨rfl, [], by rw [← marks_all]⟩

theorem c36 (n : Nat) (a : Int) (hx : n ≤ 2 ^ 40) (ha : 0 ≤ a ∧ a ≤ 2 ^ 50) : PureC X 36 [.c (.sl false n 1 (flat int ((List.range n).map (imark a)))), cI a] (cI (a + n)) := by
  refine PureC.of_body (drawD_ok X) (fun _ _ => Go.Proofs.Try.call36 _ _) Go.Proofs.Try.func36 rfl (n := 21) rfl ?_
  refine w_seq ?_
  refine w_reg rfl ?_
  refine v_assign (c := .v (.int .i64 0)) rfl ?_
  refine v_nil ?_
  refine q_n ?_
  refine w_seq ?_
  refine w_seq ?_
  refine w_reg rfl ?_
  refine v_assign (c := .v (.int .i64 0)) rfl ?_
  refine v_nil ?_
  refine q_n ?_
  refine w_block ?_
  refine w_loop (fun k sl H => ∃ i : Nat, k = n - i ∧ i ≤ n ∧ sl = sls [(0, .c (.sl false n 1 (flat int ((List.range n).map (imark a))))), (1, cI (a + i)), (5, cI i)] ∧ H = []) ?_ ?_
  · refine ⟨_, _, _, ?_, 0, rfl, Nat.zero_le _, rfl, rfl⟩
    exact turn0 ⟨tr_sl, tr_i (by simp), tr_v, trivial⟩
  · rintro k sl H ⟨i, rfl, hi, rfl, rfl⟩
    refine w_seq ?_
    refine w_seq ?_
    refine w_reg rfl ?_
    refine v_move rfl ?_
    refine v_move rfl ?_
    refine v_len_sl lay28 rfl ?_
    refine v_lss lay3 rfl rfl (fun h1 => ?_) (fun h1 => ?_)
    · skip
      refine v_nil ?_
      refine q_n ?_
      refine w_t rfl ?_
      refine w_skip ?_
      refine q_n ?_
      refine w_seq ?_
      refine w_block ?_
      refine w_seq ?_
      refine w_seq ?_
      refine w_reg rfl ?_
      refine v_move rfl ?_
      refine v_move rfl ?_
      refine v_idx_e (k := 1) (i) int_len lay28 lay2 rfl rfl rfl (by simp) rfl (rfl) (by simp; omega) ?_
      refine v_load_vw (.c (.v _)) lay2 rfl rfl rfl ?_
      refine v_move rfl ?_
      refine v_neq lay2 rfl rfl (fun h3 => ?_) (fun h3 => ?_)
      · skip
        exact absurd (by simp [imark]) h3
      · skip
        refine v_nil ?_
        refine q_n ?_
        refine w_f rfl ?_
        refine w_skip ?_
        refine q_n ?_
        refine w_reg rfl ?_
        refine v_move rfl ?_
        refine v_add lay3 rfl rfl (i64r (by omega)) ?_
        refine v_assign rfl ?_
        refine v_nil ?_
        refine q_bn ?_
        refine q_n ?_
        refine w_reg rfl ?_
        refine v_move rfl ?_
        refine v_add lay3 rfl rfl (i64r (by omega)) ?_
        refine v_assign rfl ?_
        refine v_nil ?_
        refine q_n ?_
        refine ⟨_, _, _, ?_, ⟨i + 1, rfl, by omega, rfl, rfl⟩, by omega⟩
        exact turn0 ⟨tr_sl, tr_i (by push_cast; omega), tr_v, trivial⟩
    · skip
      refine v_nil ?_
      refine q_n ?_
      refine w_f rfl ?_
      refine w_exit ?_
      refine q_e ?_
      refine q_e ?_
      refine q_hit ?_
      refine q_n ?_
      refine w_seq ?_
      refine w_reg rfl ?_
      refine v_move rfl ?_
      refine v_assign rfl ?_
      refine v_nil ?_
      refine q_n ?_
      refine w_ret ?_
      refine r_r rfl ?_
      obtain rfl : i = n := by omega
      exact a_i rfl

theorem c55l (xs : List Int) (hx : xs.length ≤ 2 ^ 40) : LiveC X 55 [.c (ints false xs)] (.c (.mu 0 0 xs.length 1)) [⟨flat int xs, 2, true⟩] := by
  refine LiveC.of_body (drawD_ok X) (fun _ _ => Go.Proofs.Try.call55 _ _) Go.Proofs.Try.func55 rfl (n := 22) rfl ?_
  refine w_seq ?_
  refine w_reg rfl ?_
  refine v_assign rfl ?_
  refine v_nil ?_
  refine q_n ?_
  refine w_seq ?_
  refine w_reg rfl ?_
  refine v_move rfl ?_
  refine v_len_sl lay28 rfl ?_
  refine v_make (enc := int) (a0 := (0 : Int)) (m := 0) (H' := [_]) rfl lay28 lay2 rfl rfl rfl rfl (xs.length) (rfl) (by unfold maxLen; simp only []; omega) rfl rfl ?_
  refine v_assign rfl ?_
  refine v_nil ?_
  refine q_n ?_
  refine w_seq ?_
  refine w_seq ?_
  refine w_reg rfl ?_
  refine v_assign (c := .v (.int .i64 0)) rfl ?_
  refine v_nil ?_
  refine q_n ?_
  refine w_block ?_
  refine w_loop (fun k sl H => ∃ i : Nat, k = xs.length - i ∧ i ≤ xs.length ∧ sl = sls [(0, .c (ints false xs)), (3, .c (.mu 0 0 xs.length 1)), (4, cI i)] ∧ H = [⟨flat int (xs.take i ++ List.replicate (xs.length - i) 0), 2, true⟩]) ?_ ?_
  · refine ⟨_, _, _, ?_, 0, rfl, Nat.zero_le _, rfl, rfl⟩
    exact turn [some 0] rfl rfl rfl ⟨⟨_, rfl, .stay (stays_flat int_sc _)⟩, trivial⟩ ⟨tr_sl, tr_mu rfl, tr_v, trivial⟩
  · rintro k sl H ⟨i, rfl, hi, rfl, rfl⟩
    refine w_seq ?_
    refine w_seq ?_
    refine w_reg rfl ?_
    refine v_move rfl ?_
    refine v_move rfl ?_
    refine v_len_sl lay28 rfl ?_
    refine v_lss lay3 rfl rfl (fun h1 => ?_) (fun h1 => ?_)
    · skip
      refine v_nil ?_
      refine q_n ?_
      refine w_t rfl ?_
      refine w_skip ?_
      refine q_n ?_
      refine w_seq ?_
      refine w_block ?_
      refine w_reg rfl ?_
      refine v_move rfl ?_
      refine v_move rfl ?_
      refine v_move rfl ?_
      refine v_move rfl ?_
      have hq2 : i < _ := (by omega : i < xs.length)
      refine v_idx_n (k := 1) i int_len lay28 lay2 rfl rfl rfl (rfl) rfl hq2 ?_
      refine v_load_vw (.c (.v _)) lay2 rfl rfl rfl ?_
      have hq3 : i < _ := (by omega : i < xs.length)
      refine v_idx_mu_n (k := 1) (off := 0) i lay28 lay2 rfl rfl rfl hq3 ?_
      refine v_store_flat (H' := [_]) i 0 (xs[i]) int_len lay2 rfl rfl rfl (by omega) (by simp; omega) rfl rfl (rfl) rfl ?_
      refine v_nil ?_
      refine q_bn ?_
      refine q_n ?_
      refine w_reg rfl ?_
      refine v_move rfl ?_
      refine v_add lay3 rfl rfl (i64r (by omega)) ?_
      refine v_assign rfl ?_
      refine v_nil ?_
      refine q_n ?_
      refine ⟨_, _, _, ?_, ⟨i + 1, rfl, by omega, rfl, rfl⟩, by omega⟩
      exact turn [some 0] rfl rfl rfl ⟨⟨_, rfl, by rw [fill_step hq2]; exact .stay (stays_flat int_sc _)⟩, trivial⟩ ⟨tr_sl, tr_mu rfl, tr_v, trivial⟩
    · skip
      refine v_nil ?_
      refine q_n ?_
      refine w_f rfl ?_
      refine w_exit ?_
      refine q_e ?_
      refine q_e ?_
      refine q_hit ?_
      refine q_n ?_
      refine w_seq ?_
      refine w_reg rfl ?_
      refine v_move rfl ?_
      refine v_assign rfl ?_
      refine v_nil ?_
      refine q_n ?_
      refine w_ret ?_
      refine r_r rfl ?_
      obtain rfl : i = xs.length := by omega
      exact l_ans [some 0] rfl rfl ⟨⟨_, rfl, trc_flat int_sc (by simp)⟩, trivial⟩ (tr_mu rfl)

theorem c17l (p : Int) (xs : List Int) (hx : xs.length ≤ 2 ^ 40) : LiveC X 17 [.agg (cen false p xs)] (.agg [.v (.int .i64 p), .mu 0 0 xs.length 1]) [⟨flat int xs, 2, true⟩] := by
  refine LiveC.of_body (drawD_ok X) (fun _ _ => Go.Proofs.Try.call17 _ _) Go.Proofs.Try.func17 rfl (n := 12) rfl ?_
  refine w_seq ?_
  refine w_reg rfl ?_
  refine v_box (m := 0) (H' := [_]) lay30 rfl rfl rfl ?_
  refine v_alloc (m := 1) (H' := [_, ⟨[.v _, .v _], 33, true⟩]) lay33 rfl rfl ?_
  refine v_nil ?_
  refine q_n ?_
  refine w_seq ?_
  refine w_reg rfl ?_
  refine v_alloc (m := 2) (H' := [_, _, ⟨[.v _, .v _], 33, true⟩]) lay33 rfl rfl ?_
  refine v_nil ?_
  refine q_n ?_
  refine w_seq ?_
  refine w_reg rfl ?_
  refine v_fa_pt (off' := 0) lay30 rfl rfl rfl ?_
  refine v_load_pt (.c _) lay2 rfl rfl rfl rfl ?_
  refine v_fa_pt (off' := 0) lay33 rfl rfl rfl ?_
  refine v_store (H' := [_, _, ⟨[_, _], 33, true⟩]) lay2 rfl rfl rfl rfl rfl rfl ?_
  refine v_nil ?_
  refine q_n ?_
  refine w_seq ?_
  refine w_reg rfl ?_
  refine v_fa_pt (off' := 1) lay30 rfl rfl rfl ?_
  refine v_load_pt (.c _) lay28 rfl rfl rfl rfl ?_
  refine v_live1 (N := 3) (H' := [_, _, _, _]) (c55l _ (by omega)) (sc_flat int_sc _) rfl rfl rfl rfl rfl rfl (.cons vw_sl .nil) ?_
  refine v_fa_pt (off' := 1) lay33 rfl rfl rfl ?_
  refine v_store (H' := [_, _, ⟨[_, _], 33, true⟩, _]) lay28 rfl rfl rfl rfl rfl rfl ?_
  refine v_nil ?_
  refine q_n ?_
  refine w_seq ?_
  refine w_reg rfl ?_
  refine v_load_pt (.agg [_, _]) lay33 rfl rfl rfl rfl ?_
  refine v_store (H' := [_, ⟨[_, _], 33, true⟩, _, _]) lay33 rfl rfl rfl rfl rfl rfl ?_
  refine v_nil ?_
  refine q_n ?_
  refine w_ret ?_
  refine r_r rfl ?_
  exact l_ans [some 3] rfl rfl ⟨⟨_, rfl, trc_flat int_sc rfl⟩, trivial⟩ (tr_agg (.cons tr_v (.cons (tr_mu rfl) .nil)))

theorem c8 (p : Int) (fs : List Int) (ds : List De) (hx : fs.length ≤ maxLen) (hd : ds.length ≤ maxLen) : PureC X 8 [.agg (cen false p fs), .c (dcs false ds)] (cB true) := by
  refine PureC.of_body (drawD_ok X) (fun _ _ => Go.Proofs.Try.call8 _ _) Go.Proofs.Try.func8 rfl (n := 119) rfl ?_
  refine w_seq ?_
  refine w_reg rfl ?_
  refine v_box (m := 0) (H' := [_]) lay30 rfl rfl rfl ?_
  refine v_assign (c := .v (.bool false)) rfl ?_
  refine v_nil ?_
  refine q_n ?_
  refine w_seq ?_
  refine w_reg rfl ?_
  refine v_assign (c := .v (.int .i64 1048576)) rfl ?_
  refine v_nil ?_
  refine q_n ?_
  refine w_seq ?_
  refine w_reg rfl ?_
  refine v_load_pt (.agg [_, _]) lay30 rfl rfl rfl rfl ?_
  refine v_move rfl ?_
  refine v_call (c15 _ _ _ (by omega) hx) rfl rfl rfl (.cons (vw_agg (.cons vw_v (.cons vw_sl .nil))) (.cons vw_v .nil)) ?_
  refine v_assign rfl ?_
  refine v_nil ?_
  refine q_n ?_
  refine w_seq ?_
  refine w_seq ?_
  refine w_reg rfl ?_
  refine v_move rfl ?_
  refine v_lss lay3 rfl rfl (fun h1 => ?_) (fun h1 => ?_)
  · skip
    refine v_nil ?_
    refine q_n ?_
    refine w_t rfl ?_
    refine w_seq ?_
    refine w_reg rfl ?_
    refine v_assign (c := .v (.bool true)) rfl ?_
    refine v_nil ?_
    refine q_n ?_
    refine w_ret (q_r ?_)
    refine r_r rfl ?_
    exact tr_v
  · skip
    have hx2 : fs.length ≤ 2 ^ 40 := by unfold szr at h1; split at h1 <;> omega
    have hl0 : 0 ≤ szr fs.length 1048576 ∧ szr fs.length 1048576 ≤ 2 ^ 20 := ⟨by omega, by unfold szr; split <;> omega⟩
    refine v_nil ?_
    refine q_n ?_
    refine w_f rfl ?_
    refine w_skip ?_
    refine q_n ?_
    refine w_seq ?_
    refine w_reg rfl ?_
    refine v_move rfl ?_
    refine v_move rfl ?_
    refine v_call (c20 _ _ (by omega) (by assumption)) rfl rfl rfl (.cons vw_sl (.cons vw_v .nil)) ?_
    refine v_assign rfl ?_
    refine v_nil ?_
    refine q_n ?_
    refine w_seq ?_
    refine w_seq ?_
    refine w_reg rfl ?_
    refine v_move rfl ?_
    refine v_lss lay3 rfl rfl (fun h2 => ?_) (fun h2 => ?_)
    · skip
      refine v_nil ?_
      refine q_n ?_
      refine w_t rfl ?_
      refine w_seq ?_
      refine w_reg rfl ?_
      refine v_assign (c := .v (.bool true)) rfl ?_
      refine v_nil ?_
      refine q_n ?_
      refine w_ret (q_r ?_)
      refine r_r rfl ?_
      exact tr_v
    · skip
      have hd2 : ds.length ≤ 2 ^ 40 := by unfold szr at h2 hl0; split at h2 <;> omega
      have hln := late_len (p := p) (fs := fs) (ds := ds)
      refine v_nil ?_
      refine q_n ?_
      refine w_f rfl ?_
      refine w_skip ?_
      refine q_n ?_
      refine w_seq ?_
      refine w_reg rfl ?_
      refine v_load_pt (.agg [_, _]) lay30 rfl rfl rfl rfl ?_
      refine v_call (c17 _ _ hx2) rfl rfl rfl (.cons (vw_agg (.cons vw_v (.cons vw_sl .nil))) .nil) ?_
      refine v_move rfl ?_
      refine v_call (c22 _ (by omega)) rfl rfl rfl (.cons vw_sl .nil) ?_
      refine v_call (c30 _ _ _ (by omega) (by omega)) rfl rfl rfl (.cons (vw_agg (.cons vw_v (.cons vw_sl .nil))) (.cons vw_sl .nil)) ?_
      refine v_move_t rfl ?_
      refine v_extract_c rfl rfl ?_
      refine v_extract_c rfl rfl ?_
      refine v_assign rfl ?_
      refine v_assign rfl ?_
      refine v_nil ?_
      refine q_n ?_
      refine w_seq ?_
      refine w_reg rfl ?_
      refine v_load_pt (.agg [_, _]) lay30 rfl rfl rfl rfl ?_
      refine v_live1 (N := 1) (H' := [_, _]) (c17l _ _ (by omega)) (sc_flat int_sc _) rfl rfl rfl rfl rfl rfl (.cons (vw_agg (.cons vw_v (.cons vw_sl .nil))) .nil) ?_
      refine v_alloc (m := 2) (H' := [_, _, ⟨[.v _, .v _], 33, true⟩]) lay33 rfl rfl ?_
      refine v_store (H' := [_, _, ⟨[_, _], 33, true⟩]) lay33 rfl rfl rfl rfl rfl rfl ?_
      refine v_nil ?_
      refine q_n ?_
      refine w_seq ?_
      refine w_reg rfl ?_
      refine v_move rfl ?_
      refine v_live1 (N := 3) (H' := [_, _, _, _]) (c22l _ (by omega)) (sc_flat dce_sc _) rfl rfl rfl rfl rfl rfl (.cons vw_sl .nil) ?_
      refine v_assign rfl ?_
      refine v_nil ?_
      refine q_n ?_
      refine w_seq ?_
      refine w_reg rfl ?_
      refine v_load_pt (.agg [_, _]) lay33 rfl rfl rfl rfl ?_
      refine v_move rfl ?_
      refine v_live1 (N := 4) (H' := [_, _, _, _, _]) (c31l _ _ _ (by omega) (by omega)) (sc_flat int_sc _) rfl rfl rfl rfl rfl rfl (.cons (vw_agg (.cons vw_v (.cons (vw_mu2 int_sc int_len rfl (by first | (simp; done) | (simp; omega))) .nil))) (.cons (vw_mu2 dce_sc dce_len rfl (by first | (simp; done) | (simp; omega))) .nil)) ?_
      refine v_move_t rfl ?_
      refine v_extract_c rfl rfl ?_
      refine v_extract_c rfl rfl ?_
      refine v_assign rfl ?_
      refine v_assign rfl ?_
      refine v_nil ?_
      refine q_n ?_
      refine w_seq ?_
      refine w_seq ?_
      refine w_reg rfl ?_
      refine v_move rfl ?_
      refine v_move rfl ?_
      refine v_callb (c32 _ _ (by omega)) rfl rfl (.cons (vw_mu2 int_sc int_len rfl (by first | (simp; done) | (simp; omega))) (.cons vw_sl .nil)) (fun h3 => ?_) (fun h3 => ?_)
      · skip
        refine v_not false rfl rfl ?_
        refine v_move rfl ?_
        refine v_guard_on rfl rfl ?_
        refine v_move rfl ?_
        refine v_guard_on rfl rfl ?_
        refine v_move rfl ?_
        refine v_guard_on rfl rfl ?_
        refine v_neq lay2 rfl rfl (fun h4 => ?_) (fun h4 => ?_)
        · skip
          exact absurd rfl h4
        · skip
          refine v_pick_f rfl rfl ?_
          refine v_nil ?_
          refine q_n ?_
          refine w_f rfl ?_
          refine w_skip ?_
          refine q_n ?_
          refine w_seq ?_
          refine w_seq ?_
          refine w_draw [0, 0, 2, 7, 15] [⟨0, 0, []⟩, ⟨1, 0, []⟩, ⟨2, 0, []⟩, ⟨3, 0, []⟩, ⟨4, 0, []⟩] rfl rfl ?_
          refine d_q rfl rfl rfl rfl rfl ?_
          refine v_load_pt (.agg [_, _]) lay33 rfl rfl rfl rfl ?_
          refine v_nil ?_
          refine d_q rfl rfl rfl rfl rfl ?_
          refine v_load_pt (.agg [_, _]) lay30 rfl rfl rfl rfl ?_
          refine v_nil ?_
          refine d_call (c17 _ _ hx2) rfl rfl rfl rfl rfl (.cons (vw_agg (.cons vw_v (.cons vw_sl .nil))) .nil) ?_
          refine d_callb (c19 _ _ _ _ hx2) rfl rfl rfl rfl (.cons (vw_agg (.cons vw_v (.cons (vw_mu2 int_sc int_len rfl (by first | (simp; done) | (simp; omega))) .nil))) (.cons (vw_agg (.cons vw_v (.cons vw_sl .nil))) .nil)) (fun h5 => ?_) (fun h5 => ?_)
          · skip
            refine d_q rfl rfl rfl rfl rfl ?_
            refine v_not false rfl rfl ?_
            refine v_nil ?_
            refine d_nil ?_
            refine q_n ?_
            refine w_f rfl ?_
            refine w_skip ?_
            refine q_n ?_
            refine w_seq ?_
            refine w_seq ?_
            refine w_reg rfl ?_
            refine v_move rfl ?_
            refine v_move rfl ?_
            refine v_call (c22 _ (by omega)) rfl rfl rfl (.cons vw_sl .nil) ?_
            refine v_callb (c24 _ _ (by omega)) rfl rfl (.cons (vw_mu2 dce_sc dce_len rfl (by first | (simp; done) | (simp; omega))) (.cons vw_sl .nil)) (fun h6 => ?_) (fun h6 => ?_)
            · skip
              refine v_not false rfl rfl ?_
              refine v_nil ?_
              refine q_n ?_
              refine w_f rfl ?_
              refine w_skip ?_
              refine q_n ?_
              refine w_seq ?_
              refine w_reg rfl ?_
              refine v_assign (c := .v (.int .i64 1)) rfl ?_
              refine v_nil ?_
              refine q_n ?_
              refine w_seq ?_
              refine w_reg rfl ?_
              refine v_load_pt (.agg [_, _]) lay33 rfl rfl rfl rfl ?_
              refine v_move rfl ?_
              refine v_inl (n := 10) (drawD_ok X) (fun _ _ => Go.Proofs.Try.call33 _ _) Go.Proofs.Try.func33 rfl rfl rfl rfl ?_
              refine w_seq ?_
              refine w_reg rfl ?_
              refine v_box (m := 5) (H' := [_, _, _, _, _, _]) lay33 rfl rfl rfl ?_
              refine v_assign (c := .v (.int .i64 0)) rfl ?_
              refine v_nil ?_
              refine q_n ?_
              refine w_seq ?_
              refine w_reg rfl ?_
              refine v_fa_pt (off' := 1) lay33 rfl rfl rfl ?_
              refine v_load_pt (.c _) lay28 rfl rfl rfl rfl ?_
              refine v_move rfl ?_
              refine v_mark (H' := [_, _, _, _, _, _]) (c35 _ _ (by omega) (by omega)) rfl (sc_flat int_sc _) (sc_flat int_sc _) rfl rfl rfl rfl ?_
              refine v_assign rfl ?_
              refine v_nil ?_
              refine q_n ?_
              refine w_seq ?_
              refine w_reg rfl ?_
              refine v_move rfl ?_
              refine v_assign rfl ?_
              refine v_nil ?_
              refine q_n ?_
              refine w_ret ?_
              refine r_r rfl ?_
              refine v_assign rfl ?_
              refine v_nil ?_
              refine q_n ?_
              refine w_seq ?_
              refine w_reg rfl ?_
              refine v_move rfl ?_
              refine v_move rfl ?_
              refine v_mark (H' := [_, _, _, _, _, _]) (c34 _ _ (by omega) (by omega)) rfl (sc_flat dce_sc _) (sc_flat dce_sc _) rfl rfl rfl rfl ?_
              refine v_assign rfl ?_
              refine v_nil ?_
              refine q_n ?_
              refine w_seq ?_
              refine w_seq ?_
              refine w_reg rfl ?_
              refine v_move rfl ?_
              refine v_lss lay3 rfl rfl (fun h7 => ?_) (fun h7 => ?_)
              · skip
                exact absurd h7 (by omega)
              · skip
                refine v_move rfl ?_
                refine v_guard_on rfl rfl ?_
                refine v_move rfl ?_
                refine v_guard_on rfl rfl ?_
                refine v_move rfl ?_
                refine v_guard_on rfl rfl ?_
                refine v_callb (c32 _ _ (by omega)) rfl rfl (.cons (vw_mu2 int_sc int_len rfl (by first | (simp; done) | (simp; omega))) (.cons vw_sl .nil)) (fun h8 => ?_) (fun h8 => ?_)
                · skip
                  refine v_guard_on rfl rfl ?_
                  refine v_not false rfl rfl ?_
                  refine v_pick_f rfl rfl ?_
                  refine v_move rfl ?_
                  refine v_guard_on rfl rfl ?_
                  refine v_move rfl ?_
                  refine v_guard_on rfl rfl ?_
                  refine v_move rfl ?_
                  refine v_guard_on rfl rfl ?_
                  refine v_neq lay2 rfl rfl (fun h9 => ?_) (fun h9 => ?_)
                  · skip
                    exact absurd rfl h9
                  · skip
                    refine v_pick_f rfl rfl ?_
                    refine v_nil ?_
                    refine q_n ?_
                    refine w_f rfl ?_
                    refine w_skip ?_
                    refine q_n ?_
                    refine w_seq ?_
                    refine w_reg rfl ?_
                    refine v_assign (c := .v (.int .i64 1)) rfl ?_
                    refine v_nil ?_
                    refine q_n ?_
                    refine w_seq ?_
                    refine w_reg rfl ?_
                    refine v_move rfl ?_
                    refine v_move rfl ?_
                    refine v_mark (H' := [_, _, _, _, _, _]) (c35 _ _ (by omega) (by omega)) rfl (sc_flat int_sc _) (sc_flat int_sc _) rfl rfl rfl rfl ?_
                    refine v_assign rfl ?_
                    refine v_nil ?_
                    refine q_n ?_
                    refine w_seq ?_
                    refine w_reg rfl ?_
                    refine v_assign (c := .v (.int .i64 1)) rfl ?_
                    refine v_nil ?_
                    refine q_n ?_
                    refine w_seq ?_
                    refine w_reg rfl ?_
                    refine v_move rfl ?_
                    refine v_move rfl ?_
                    refine v_call (c36 _ _ (by omega) (by omega)) rfl rfl rfl (.cons (vw_mu2 int_sc int_len rfl (by first | (simp; done) | (simp; omega))) (.cons vw_v .nil)) ?_
                    refine v_assign rfl ?_
                    refine v_nil ?_
                    refine q_n ?_
                    refine w_seq ?_
                    refine w_seq ?_
                    refine w_reg rfl ?_
                    refine v_move rfl ?_
                    refine v_lss lay3 rfl rfl (fun h10 => ?_) (fun h10 => ?_)
                    · skip
                      exact absurd h10 (by omega)
                    · skip
                      refine v_nil ?_
                      refine q_n ?_
                      refine w_f rfl ?_
                      refine w_skip ?_
                      refine q_n ?_
                      refine w_seq ?_
                      refine w_seq ?_
                      refine w_reg rfl ?_
                      refine v_move rfl ?_
                      refine v_move rfl ?_
                      refine v_neq lay3 rfl rfl (fun h11 => ?_) (fun h11 => ?_)
                      · skip
                        exact absurd rfl h11
                      · skip
                        refine v_nil ?_
                        refine q_n ?_
                        refine w_f rfl ?_
                        refine w_skip ?_
                        refine q_n ?_
                        refine w_seq ?_
                        refine w_reg rfl ?_
                        refine v_load_pt (.agg [_, _]) lay30 rfl rfl rfl rfl ?_
                        refine v_call (c17 _ _ hx2) rfl rfl rfl (.cons (vw_agg (.cons vw_v (.cons vw_sl .nil))) .nil) ?_
                        refine v_move rfl ?_
                        refine v_call (c22 _ (by omega)) rfl rfl rfl (.cons vw_sl .nil) ?_
                        refine v_call (c31 _ _ _ (by omega) (by omega)) rfl rfl rfl (.cons (vw_agg (.cons vw_v (.cons vw_sl .nil))) (.cons vw_sl .nil)) ?_
                        refine v_move_t rfl ?_
                        refine v_extract_c rfl rfl ?_
                        refine v_extract_c rfl rfl ?_
                        refine v_assign rfl ?_
                        refine v_assign rfl ?_
                        refine v_nil ?_
                        refine q_n ?_
                        refine w_seq ?_
                        refine w_seq ?_
                        refine w_reg rfl ?_
                        refine v_move rfl ?_
                        refine v_move rfl ?_
                        refine v_callb (c32 _ _ (by omega)) rfl rfl (.cons vw_sl (.cons vw_sl .nil)) (fun h12 => ?_) (fun h12 => ?_)
                        · skip
                          refine v_not false rfl rfl ?_
                          refine v_move rfl ?_
                          refine v_guard_on rfl rfl ?_
                          refine v_move rfl ?_
                          refine v_guard_on rfl rfl ?_
                          refine v_move rfl ?_
                          refine v_guard_on rfl rfl ?_
                          refine v_neq lay2 rfl rfl (fun h13 => ?_) (fun h13 => ?_)
                          · skip
                            exact absurd rfl h13
                          · skip
                            refine v_pick_f rfl rfl ?_
                            refine v_nil ?_
                            refine q_n ?_
                            refine w_f rfl ?_
                            refine w_skip ?_
                            refine q_n ?_
                            refine w_seq ?_
                            refine w_reg rfl ?_
                            refine v_assign (c := .v (.int .i64 1)) rfl ?_
                            refine v_nil ?_
                            refine q_n ?_
                            refine w_seq ?_
                            refine w_reg rfl ?_
                            refine v_move rfl ?_
                            refine v_move rfl ?_
                            refine v_call (c36 _ _ (by omega) (by omega)) rfl rfl rfl (.cons (vw_mu2 int_sc int_len rfl (by first | (simp; done) | (simp; omega))) (.cons vw_v .nil)) ?_
                            refine v_assign rfl ?_
                            refine v_nil ?_
                            refine q_n ?_
                            refine w_seq ?_
                            refine w_seq ?_
                            refine w_reg rfl ?_
                            refine v_move rfl ?_
                            refine v_lss lay3 rfl rfl (fun h14 => ?_) (fun h14 => ?_)
                            · skip
                              exact absurd h14 (by omega)
                            · skip
                              refine v_nil ?_
                              refine q_n ?_
                              refine w_f rfl ?_
                              refine w_skip ?_
                              refine q_n ?_
                              refine w_seq ?_
                              refine w_seq ?_
                              refine w_reg rfl ?_
                              refine v_move rfl ?_
                              refine v_move rfl ?_
                              refine v_neq lay3 rfl rfl (fun h15 => ?_) (fun h15 => ?_)
                              · skip
                                exact absurd rfl h15
                              · skip
                                refine v_nil ?_
                                refine q_n ?_
                                refine w_f rfl ?_
                                refine w_skip ?_
                                refine q_n ?_
                                refine w_seq ?_
                                refine w_reg rfl ?_
                                refine v_assign (c := .v (.bool true)) rfl ?_
                                refine v_nil ?_
                                refine q_n ?_
                                refine w_ret ?_
                                refine r_r rfl ?_
                                exact tr_v
                        · skip
                          exact absurd rfl h12
                · skip
                  exact absurd rfl h8
            · skip
              exact absurd rfl h6
          · skip
            exact absurd ⟨rfl, rfl⟩ h5
      · skip
        exact absurd rfl h3
end Go.VL
