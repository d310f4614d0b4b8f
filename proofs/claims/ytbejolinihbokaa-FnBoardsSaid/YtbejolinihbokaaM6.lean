/- Texts of one proof, put together: K1, K2, C21, K3, K4, B0. -/
import Derived.Test.YtbejolinihbokaaM5
import Derived.Test.YtbejolinihbokaaM4
import Derived.Test.YtbejolinihbokaaM2
import Derived.Test.YtbejolinihbokaaRows
import Derived.ProofKit
import Derived.Below
import Derived.ChangeSame
import Derived.Handed
import Derived.KernelRfl
namespace Go.VL
open Go.RowKit
set_option maxRecDepth 20000
set_option maxHeartbeats 8000000
/-- The lists of a board. -/
abbrev bds (o : Bool) (b : Bd) : List C := [.sl o b.nw.length 2 (flat pe b.nw), .sl o b.ps.length 2 (flat pe b.ps), .sl o b.sv.length 2 (flat pe b.sv), .sl o b.kn.length 1 (flat int b.kn), .sl o b.wr.length 4 (flat nce b.wr)]
def bdz : Bd := ⟨[], [], [], [], []⟩
theorem bd_ext {b c : Bd} : b = c ↔ b.nw = c.nw ∧ b.ps = c.ps ∧ b.sv = c.sv ∧ b.kn = c.kn ∧ b.wr = c.wr := by
  obtain ⟨a1, a2, a3, a4, a5⟩ := b
  obtain ⟨c1, c2, c3, c4, c5⟩ := c
  simp
instance : DecidableEq Bd := fun b c => decidable_of_iff _ bd_ext.symm
abbrev boV (r : Bd × Int × Int) : V := .tup [.agg (bds true r.1), cI r.2.1, cI r.2.2]
abbrev boL (r : Bd × Int × Int) : V := .tup [.agg [.mu 0 0 r.1.nw.length 2, .mu 1 0 r.1.ps.length 2, .mu 2 0 r.1.sv.length 2, .mu 3 0 r.1.kn.length 1, .mu 4 0 r.1.wr.length 4], cI r.2.1, cI r.2.2]
abbrev boO (b : Bd) : List Ob := [⟨flat pe b.nw, 46, true⟩, ⟨flat pe b.ps, 46, true⟩, ⟨flat pe b.sv, 46, true⟩, ⟨flat int b.kn, 2, true⟩, ⟨flat nce b.wr, 101, true⟩]
/-- The board behind all deeds, and how many have been done. -/
def boR (p : Int) (fs : List Int) (ds : List De) : Bd × Int × Int := if gvR p fs ds ≠ 0 then (bdz, 0, gvR p fs ds) else ((stB p fs ds ds.length).1, cz (stB p fs ds ds.length).2, 0)
theorem bo_bad {p : Int} {fs : List Int} {ds : List De} (h : gvR p fs ds ≠ 0) : boR p fs ds = (bdz, 0, gvR p fs ds) := by
  unfold boR
  rw [if_pos h]
theorem bo_bad2 {p : Int} {fs : List Int} {ds : List De} (h : dcR p fs ds 0 ≠ 0) : boR p fs ds = (bdz, 0, dcR p fs ds 0) := by
  rw [dc_gv] at h ⊢
  exact bo_bad h
theorem bo_of {p : Int} {fs : List Int} {ds : List De} (h : gvR p fs ds = 0) : boR p fs ds = ((stB p fs ds ds.length).1, cz (stB p fs ds ds.length).2, 0) := by
  unfold boR
  rw [h, if_neg (by simp)]
theorem bo_len (p : Int) (fs : List Int) (ds : List De) : (boR p fs ds).1.nw.length ≤ 10 ∧ (boR p fs ds).1.ps.length ≤ 10 ∧ (boR p fs ds).1.sv.length ≤ 10 ∧ (boR p fs ds).1.kn.length ≤ 10 ∧ (boR p fs ds).1.wr.length ≤ 10 := by
  unfold boR
  split
  · simp [bdz]
  · rename_i h
    have h0 : gvR p fs ds = 0 := Decidable.of_not_not h
    obtain ⟨hoc, hds, hdl⟩ := gv_ok h0
    have := hoc.2.2.2.1
    have h1 := st_ok (p := p) (fs := fs) hds ds.length (Nat.le_refl _)
    have n1 := h1.nw
    have n2 := h1.ps
    have n3 := h1.sv
    have n4 := h1.kn
    have n5 := h1.wr
    simp only
    omega
theorem cz_all {cs : List Int} {i : Nat} (h : i = cs.length) : cz (cs.take i) = cz cs := by rw [h, List.take_length]
theorem cz_yes {cs : List Int} {i : Nat} (hi : i < cs.length) (h : cs[i] = 0) : cz (cs.take i) + 1 = cz (cs.take (i + 1)) := by
  rw [List.take_succ_eq_append_getElem hi]
  exact cz_eq h
theorem cz_no {cs : List Int} {i : Nat} (hi : i < cs.length) (h : ¬ cs[i] = 0) : cz (cs.take i) = cz (cs.take (i + 1)) := by
  rw [List.take_succ_eq_append_getElem hi]
  exact cz_ne h
def pmark (a : Int) (j : Nat) : Po := (a + 2 * j, a + 2 * j + 1)
def pset1 (X : Po) (b : Int) : Po := (b, X.2)
def pset2 (X : Po) (b : Int) : Po := (X.1, b)
theorem pe1 (X : Po) (b : Int) : pe (pset1 X b) = setCells (pe X) 0 [.v (.int .i64 b)] := rfl
theorem pe2 (X : Po) (b : Int) : pe (pset2 X b) = setCells (pe X) 1 [.v (.int .i64 b)] := rfl
theorem pmark_step {a : Int} {i : Nat} {xs : List Po} (h : i < xs.length) {y1 y2 : Po} (h3 : y2 = pmark a i) : ((marks (pmark a) i xs).set i y1).set i y2 = marks (pmark a) (i + 1) xs := by
  rw [List.set_set, h3]
  exact marks_step h
def nmark (a : Int) (j : Nat) : No := (decide ((a + 4 * j).tmod 3 = 0), a + 4 * j + 1, a + 4 * j + 1 + 1, a + 4 * j + 1 + 1 + 1)
def nset1 (X : No) (b : Bool) : No := (b, X.2.1, X.2.2.1, X.2.2.2)
def nset2 (X : No) (b : Int) : No := (X.1, b, X.2.2.1, X.2.2.2)
def nset3 (X : No) (b : Int) : No := (X.1, X.2.1, b, X.2.2.2)
def nset4 (X : No) (b : Int) : No := (X.1, X.2.1, X.2.2.1, b)
theorem nce1 (X : No) (b : Bool) : nce (nset1 X b) = setCells (nce X) 0 [.v (.bool b)] := rfl
theorem nce2 (X : No) (b : Int) : nce (nset2 X b) = setCells (nce X) 1 [.v (.int .i64 b)] := rfl
theorem nce3 (X : No) (b : Int) : nce (nset3 X b) = setCells (nce X) 2 [.v (.int .i64 b)] := rfl
theorem nce4 (X : No) (b : Int) : nce (nset4 X b) = setCells (nce X) 3 [.v (.int .i64 b)] := rfl
theorem nmark_step {a : Int} {i : Nat} {xs : List No} (h : i < xs.length) {y1 y2 y3 y4 : No} (h3 : y4 = nmark a i) : ((((marks (nmark a) i xs).set i y1).set i y2).set i y3).set i y4 = marks (nmark a) (i + 1) xs := by
  rw [List.set_set, List.set_set, List.set_set, h3]
  exact marks_step h
theorem mk_at {α : Type} {f : Nat → α} {n i : Nat} (h : i < ((List.range n).map f).length) : ((List.range n).map f)[i] = f i := by
  rw [List.getElem_map, List.getElem_range]
theorem c71l (xs : List No) (hx : xs.length ≤ 2 ^ 40) : LiveC X 71 [.c (.sl false xs.length 4 (flat nce xs))] (.c (.mu 0 0 xs.length 4)) [⟨flat nce xs, 101, true⟩] := by
  refine LiveC.of_body (drawD_ok X) (fun _ _ => Go.Proofs.Try.call71 _ _) Go.Proofs.Try.func71 rfl (n := 8) rfl ?_
  refine w_seq ?_
  refine w_reg rfl ?_
  refine v_assign rfl ?_
  refine v_nil ?_
  refine q_n ?_
  refine w_seq ?_
  refine w_seq ?_
  refine w_reg rfl ?_
  refine v_move rfl ?_
  refine v_eqnil rfl lay62 rfl rfl (fun h1 => ?_) ?_
  · refine v_nil ?_
    refine q_n ?_
    refine w_t rfl ?_
    refine w_seq ?_
    refine w_reg rfl ?_
    refine v_assign rfl ?_
    refine v_nil ?_
    refine q_n ?_
    refine w_ret (q_r ?_)
    refine r_r rfl ?_
    have hxs : xs = [] := List.eq_nil_of_length_eq_zero h1.1
    subst hxs
    exact l_ans [none] rfl rfl ⟨rfl, trivial⟩ (tr_nil rfl)
  refine v_nil ?_
  refine q_n ?_
  refine w_f rfl ?_
  refine w_skip ?_
  refine q_n ?_
  refine w_seq ?_
  refine w_reg rfl ?_
  refine v_lit (flat nce []) (H' := [_]) lay62 lay101 rfl rfl ⟨by decide, by decide⟩ rfl rfl ?_
  refine v_move rfl ?_
  refine v_app_flat_sl (H' := [_, _]) nce_sc nce_len lay62 lay101 rfl rfl (by simp) rfl rfl rfl (by unfold maxLen; simp only []; omega) rfl rfl ?_
  refine v_assign rfl ?_
  refine v_nil ?_
  refine q_n ?_
  refine w_ret ?_
  refine r_r rfl ?_
  exact l_ans [some 1] rfl rfl ⟨⟨_, rfl, trc_flat nce_sc (by simp)⟩, trivial⟩ (tr_mun rfl (by simp))

theorem c40a (p : Int) (fs : List Int) (ds : List De) (hx : fs.length ≤ 2 ^ 40) (hd : ds.length ≤ 2 ^ 40) (hgv : gvR p fs ds = 0) : PureC X 40 [.agg (cen false p fs), .c (dcs false ds)] (boV (boR p fs ds)) := by
  refine PureC.of_body (drawD_ok X) (fun _ _ => Go.Proofs.Try.call40 _ _) Go.Proofs.Try.func40 rfl (n := 41) rfl ?_
  refine w_seq ?_
  refine w_reg rfl ?_
  refine v_box (m := 0) (H' := [_]) lay33 rfl rfl rfl ?_
  refine v_alloc (m := 1) (H' := [_, ⟨[.v _, .v _, .v _, .v _, .v _], 64, true⟩]) lay64 rfl rfl ?_
  refine v_assign (c := .v (.int .i64 0)) rfl ?_
  refine v_assign (c := .v (.int .i64 0)) rfl ?_
  refine v_nil ?_
  refine q_n ?_
  refine w_seq ?_
  refine w_seq ?_
  refine w_reg rfl ?_
  refine v_move rfl ?_
  refine v_call (c58 _ _ _ (by omega) (by omega)) rfl rfl rfl (.cons (vw_pt rfl (.cons .v (.cons (.sl (fun h => by cases h)) .nil))) (.cons vw_sl .nil)) ?_
  refine v_assign rfl ?_
  refine v_nil ?_
  refine q_n ?_
  refine w_seq ?_
  refine w_reg rfl ?_
  refine v_move rfl ?_
  refine v_neq lay2 rfl rfl (fun h1 => ?_) (fun h1 => ?_)
  · exact absurd hgv h1
  have hg : gvR p fs ds = 0 := by omega
  obtain ⟨hoc, hds, hdl⟩ := gv_ok hg
  have hf : fs.length ≤ 6 := hoc.2.2.2.1
  refine v_nil ?_
  refine q_n ?_
  refine w_f rfl ?_
  refine w_skip ?_
  refine q_n ?_
  refine w_seq ?_
  refine w_reg rfl ?_
  refine v_move rfl ?_
  refine v_inl (n := 29) (drawD_ok X) (fun _ _ => Go.Proofs.Try.call59 _ _) Go.Proofs.Try.func59 rfl rfl rfl rfl ?_
  refine w_seq ?_
  refine w_reg rfl ?_
  refine v_assign (c := .v _) rfl ?_
  refine v_assign rfl ?_
  refine v_nil ?_
  refine q_n ?_
  refine w_seq ?_
  refine w_reg rfl ?_
  refine v_move rfl ?_
  refine v_inl (n := 74) (drawD_ok X) (fun _ _ => Go.Proofs.Try.call83 _ _) Go.Proofs.Try.func83 rfl rfl rfl rfl ?_
  refine w_seq ?_
  refine w_reg rfl ?_
  refine v_assign (c := .v _) rfl ?_
  refine v_nil ?_
  refine q_n ?_
  refine w_seq ?_
  refine w_reg rfl ?_
  refine v_move rfl ?_
  refine v_build [(0, 1), (1, 5)] [_, .v _, .v _, .v _, .v _, .v _] lay90 rfl rfl ?_
  refine v_box (m := 2) (H' := [_, _, _]) lay90 rfl rfl rfl ?_
  refine v_assign rfl ?_
  refine v_nil ?_
  refine q_n ?_
  refine w_seq ?_
  refine w_seq ?_
  refine w_reg rfl ?_
  refine v_assign (c := .v (.int .i64 0)) rfl ?_
  refine v_nil ?_
  refine q_n ?_
  refine w_block ?_
  refine w_loop (fun k sl H => ∃ i : Nat, k = fs.length - i ∧ i ≤ fs.length ∧ sl = sls [(0, .c (.pt 0 0)), (3, .c (.pt 2 0)), (4, cI i)] ∧ H = [⟨cen false p fs, 33, true⟩, ⟨[.v (.slice none 0 0), .v (.slice none 0 0), .v (.slice none 0 0), .v (.slice none 0 0), .v (.slice none 0 0)], 64, true⟩, ⟨[.pt 0 0, .mu 3 0 i 2, .mu 4 0 i 2, .mu 5 0 i 2, .mu 6 0 i 1, .mu 7 0 0 4], 90, true⟩, ⟨flat pe (bg fs i), 46, true⟩, ⟨flat pe (bg fs i), 46, true⟩, ⟨flat pe (bg fs i), 46, true⟩, ⟨flat int (List.replicate i 0), 2, true⟩, ⟨[], 101, true⟩]) ?_ ?_
  · refine ⟨_, _, _, ?_, 0, rfl, Nat.zero_le _, rfl, rfl⟩
    exact turn [some 0, some 1, some 2, none, none, none, none, none] rfl rfl rfl ⟨⟨_, rfl, .cons tr_v (.cons tr_sl .nil)⟩, ⟨_, rfl, .cons tr_v (.cons tr_v (.cons tr_v (.cons tr_v (.cons tr_v .nil))))⟩, ⟨_, rfl, .cons (tr_pt rfl) (.cons (tr_nil rfl) (.cons (tr_nil rfl) (.cons (tr_nil rfl) (.cons (tr_nil rfl) (.cons (tr_nil rfl) .nil)))))⟩, rfl, rfl, rfl, rfl, rfl, trivial⟩ ⟨tr_pt rfl, tr_pt rfl, tr_v, trivial⟩
  rintro k sl H ⟨i, rfl, hi, rfl, rfl⟩
  refine w_seq ?_
  refine w_seq ?_
  refine w_reg rfl ?_
  refine v_move rfl ?_
  refine v_move rfl ?_
  refine v_nil_pt rfl ?_
  refine v_fa_pt (off' := 1) lay33 rfl rfl rfl ?_
  refine v_load_pt (.c _) lay28 rfl rfl rfl rfl ?_
  refine v_len_sl lay28 rfl ?_
  refine v_lss lay3 rfl rfl (fun h2 => ?_) (fun h2 => ?_)
  · refine v_nil ?_
    refine q_n ?_
    refine w_t rfl ?_
    refine w_skip ?_
    refine q_n ?_
    refine w_seq ?_
    refine w_block ?_
    refine w_seq ?_
    refine w_reg rfl ?_
    refine v_move rfl ?_
    refine v_nil_pt rfl ?_
    refine v_fa_pt (off' := 1) lay33 rfl rfl rfl ?_
    refine v_load_pt (.c _) lay28 rfl rfl rfl rfl ?_
    refine v_move rfl ?_
    refine v_idx_e (k := 1) (i) int_len lay28 lay2 rfl rfl rfl (rfl) rfl (rfl) (by omega) ?_
    refine v_load_vw (.c (.v _)) lay2 rfl rfl rfl ?_
    refine v_build [(0, 1), (1, 1)] [.v _, .v _] lay46 rfl rfl ?_
    refine v_alloc (m := 8) (H' := [_, _, _, _, _, _, _, _, ⟨[.v _, .v _], 46, true⟩]) lay46 rfl rfl ?_
    refine v_store (H' := [_, _, _, _, _, _, _, _, ⟨[_, _], 46, true⟩]) lay46 rfl rfl rfl rfl rfl rfl ?_
    refine v_nil ?_
    refine q_n ?_
    refine w_seq ?_
    refine w_draw [0, 0, 2, 6, 14, 30, 0, 64, 254, 511, 1023, 2047, 4095] [⟨0, 0, []⟩, ⟨1, 0, []⟩, ⟨2, 0, []⟩, ⟨3, 0, []⟩, ⟨4, 0, []⟩, ⟨5, 0, []⟩, ⟨6, 0, []⟩, ⟨7, 2, []⟩, ⟨8, 1, []⟩, ⟨9, 0, []⟩, ⟨10, 0, []⟩, ⟨11, 0, []⟩, ⟨12, 1, []⟩] rfl rfl ?_
    refine d_q rfl rfl rfl rfl rfl ?_
    refine v_move rfl ?_
    refine v_nil ?_
    refine d_q rfl rfl rfl rfl rfl ?_
    refine v_move rfl ?_
    refine v_nil ?_
    refine d_q rfl rfl rfl rfl rfl ?_
    refine v_nil_pt rfl ?_
    refine v_nil ?_
    refine d_q rfl rfl rfl rfl rfl ?_
    refine v_fa_pt (off' := 1) lay90 rfl rfl rfl ?_
    refine v_nil ?_
    refine d_q rfl rfl rfl rfl rfl ?_
    refine v_fa_pt (off' := 1) lay64 rfl rfl rfl ?_
    refine v_nil ?_
    refine d_q rfl rfl rfl rfl rfl ?_
    refine v_load_pt (.c _) lay61 rfl rfl rfl rfl ?_
    refine v_nil ?_
    refine d_q rfl rfl rfl rfl rfl ?_
    refine v_load_pt (.agg [_, _]) lay46 rfl rfl rfl rfl ?_
    refine v_nil ?_
    refine d_z (.c (.sl true 1 2 (flat pe [(fs[i], 0)]))) rfl rfl rfl ?_
    refine d_e rfl rfl rfl ?_
    refine v_app_flat_sl (H' := [_, _, _, _, _, _, _, _, _, _]) pe_sc pe_len lay61 lay46 rfl rfl (by first | rfl | (simp; done) | (simp; omega) | omega | (rw [bg_l (by omega)])) rfl rfl rfl (by unfold maxLen; simp only []; omega) rfl rfl ?_
    refine v_nil ⟨again_nil, ?_⟩
    refine d_q rfl rfl rfl rfl rfl ?_
    refine v_nil_pt rfl ?_
    refine v_nil ?_
    refine d_q rfl rfl rfl rfl rfl ?_
    refine v_fa_pt (off' := 1) lay90 rfl rfl rfl ?_
    refine v_nil ?_
    refine d_q rfl rfl rfl rfl rfl ?_
    refine v_fa_pt (off' := 1) lay64 rfl rfl rfl ?_
    refine v_nil ?_
    refine d_e rfl rfl rfl ?_
    refine v_store (H' := [_, _, ⟨[_, _, _, _, _, _], 90, true⟩, _, _, _, _, _, _, _]) lay61 rfl rfl rfl rfl rfl rfl ?_
    refine v_nil ⟨again_nil, ?_⟩
    refine d_nil ?_
    refine q_n ?_
    refine w_seq ?_
    refine w_draw [0, 0, 2, 6, 14, 30, 0, 64, 254, 511, 1023, 2047, 4095] [⟨0, 0, []⟩, ⟨1, 0, []⟩, ⟨2, 0, []⟩, ⟨3, 0, []⟩, ⟨4, 0, []⟩, ⟨5, 0, []⟩, ⟨6, 0, []⟩, ⟨7, 2, []⟩, ⟨8, 1, []⟩, ⟨9, 0, []⟩, ⟨10, 0, []⟩, ⟨11, 0, []⟩, ⟨12, 1, []⟩] rfl rfl ?_
    refine d_q rfl rfl rfl rfl rfl ?_
    refine v_move rfl ?_
    refine v_nil ?_
    refine d_q rfl rfl rfl rfl rfl ?_
    refine v_move rfl ?_
    refine v_nil ?_
    refine d_q rfl rfl rfl rfl rfl ?_
    refine v_nil_pt rfl ?_
    refine v_nil ?_
    refine d_q rfl rfl rfl rfl rfl ?_
    refine v_fa_pt (off' := 1) lay90 rfl rfl rfl ?_
    refine v_nil ?_
    refine d_q rfl rfl rfl rfl rfl ?_
    refine v_fa_pt (off' := 2) lay64 rfl rfl rfl ?_
    refine v_nil ?_
    refine d_q rfl rfl rfl rfl rfl ?_
    refine v_load_pt (.c _) lay61 rfl rfl rfl rfl ?_
    refine v_nil ?_
    refine d_q rfl rfl rfl rfl rfl ?_
    refine v_load_pt (.agg [_, _]) lay46 rfl rfl rfl rfl ?_
    refine v_nil ?_
    refine d_z (.c (.sl true 1 2 (flat pe [(fs[i], 0)]))) rfl rfl rfl ?_
    refine d_e rfl rfl rfl ?_
    refine v_app_flat_sl (H' := [_, _, _, _, _, _, _, _, _, _, _]) pe_sc pe_len lay61 lay46 rfl rfl (by first | rfl | (simp; done) | (simp; omega) | omega | (rw [bg_l (by omega)])) rfl rfl rfl (by unfold maxLen; simp only []; omega) rfl rfl ?_
    refine v_nil ⟨again_nil, ?_⟩
    refine d_q rfl rfl rfl rfl rfl ?_
    refine v_nil_pt rfl ?_
    refine v_nil ?_
    refine d_q rfl rfl rfl rfl rfl ?_
    refine v_fa_pt (off' := 1) lay90 rfl rfl rfl ?_
    refine v_nil ?_
    refine d_q rfl rfl rfl rfl rfl ?_
    refine v_fa_pt (off' := 2) lay64 rfl rfl rfl ?_
    refine v_nil ?_
    refine d_e rfl rfl rfl ?_
    refine v_store (H' := [_, _, ⟨[_, _, _, _, _, _], 90, true⟩, _, _, _, _, _, _, _, _]) lay61 rfl rfl rfl rfl rfl rfl ?_
    refine v_nil ⟨again_nil, ?_⟩
    refine d_nil ?_
    refine q_n ?_
    refine w_seq ?_
    refine w_draw [0, 0, 2, 6, 14, 30, 0, 64, 254, 511, 1023, 2047, 4095] [⟨0, 0, []⟩, ⟨1, 0, []⟩, ⟨2, 0, []⟩, ⟨3, 0, []⟩, ⟨4, 0, []⟩, ⟨5, 0, []⟩, ⟨6, 0, []⟩, ⟨7, 2, []⟩, ⟨8, 1, []⟩, ⟨9, 0, []⟩, ⟨10, 0, []⟩, ⟨11, 0, []⟩, ⟨12, 1, []⟩] rfl rfl ?_
    refine d_q rfl rfl rfl rfl rfl ?_
    refine v_move rfl ?_
    refine v_nil ?_
    refine d_q rfl rfl rfl rfl rfl ?_
    refine v_move rfl ?_
    refine v_nil ?_
    refine d_q rfl rfl rfl rfl rfl ?_
    refine v_nil_pt rfl ?_
    refine v_nil ?_
    refine d_q rfl rfl rfl rfl rfl ?_
    refine v_fa_pt (off' := 1) lay90 rfl rfl rfl ?_
    refine v_nil ?_
    refine d_q rfl rfl rfl rfl rfl ?_
    refine v_fa_pt (off' := 3) lay64 rfl rfl rfl ?_
    refine v_nil ?_
    refine d_q rfl rfl rfl rfl rfl ?_
    refine v_load_pt (.c _) lay61 rfl rfl rfl rfl ?_
    refine v_nil ?_
    refine d_q rfl rfl rfl rfl rfl ?_
    refine v_load_pt (.agg [_, _]) lay46 rfl rfl rfl rfl ?_
    refine v_nil ?_
    refine d_z (.c (.sl true 1 2 (flat pe [(fs[i], 0)]))) rfl rfl rfl ?_
    refine d_e rfl rfl rfl ?_
    refine v_app_flat_sl (H' := [_, _, _, _, _, _, _, _, _, _, _, _]) pe_sc pe_len lay61 lay46 rfl rfl (by first | rfl | (simp; done) | (simp; omega) | omega | (rw [bg_l (by omega)])) rfl rfl rfl (by unfold maxLen; simp only []; omega) rfl rfl ?_
    refine v_nil ⟨again_nil, ?_⟩
    refine d_q rfl rfl rfl rfl rfl ?_
    refine v_nil_pt rfl ?_
    refine v_nil ?_
    refine d_q rfl rfl rfl rfl rfl ?_
    refine v_fa_pt (off' := 1) lay90 rfl rfl rfl ?_
    refine v_nil ?_
    refine d_q rfl rfl rfl rfl rfl ?_
    refine v_fa_pt (off' := 3) lay64 rfl rfl rfl ?_
    refine v_nil ?_
    refine d_e rfl rfl rfl ?_
    refine v_store (H' := [_, _, ⟨[_, _, _, _, _, _], 90, true⟩, _, _, _, _, _, _, _, _, _]) lay61 rfl rfl rfl rfl rfl rfl ?_
    refine v_nil ⟨again_nil, ?_⟩
    refine d_nil ?_
    refine q_n ?_
    refine w_reg rfl ?_
    refine v_move rfl ?_
    refine v_move rfl ?_
    refine v_nil_pt rfl ?_
    refine v_fa_pt (off' := 1) lay90 rfl rfl rfl ?_
    refine v_fa_pt (off' := 4) lay64 rfl rfl rfl ?_
    refine v_load_pt (.c _) lay28 rfl rfl rfl rfl ?_
    refine v_lit (flat int [0]) (H' := [_, _, _, _, _, _, _, _, _, _, _, _, _]) lay28 lay2 rfl rfl ⟨by decide, by decide⟩ rfl rfl ?_
    refine v_app_flat (H' := [_, _, _, _, _, _, _, _, _, _, _, _, _, _]) int_sc int_len lay28 lay2 rfl rfl (by first | rfl | (simp; done) | (simp; omega) | omega | (rw [bg_l (by omega)])) rfl rfl (by first | rfl | (simp; done)) rfl rfl (by unfold maxLen; simp only []; omega) rfl rfl ?_
    refine v_nil_pt rfl ?_
    refine v_fa_pt (off' := 1) lay90 rfl rfl rfl ?_
    refine v_fa_pt (off' := 4) lay64 rfl rfl rfl ?_
    refine v_store (H' := [_, _, ⟨[_, _, _, _, _, _], 90, true⟩, _, _, _, _, _, _, _, _, _, _, _]) lay28 rfl rfl rfl rfl rfl rfl ?_
    refine v_nil ?_
    refine q_bn ?_
    refine q_n ?_
    refine w_reg rfl ?_
    refine v_move rfl ?_
    refine v_add lay3 rfl rfl (i64r (by omega)) ?_
    refine v_assign rfl ?_
    refine v_nil ?_
    refine q_n ?_
    refine ⟨_, _, _, ?_, ⟨i + 1, rfl, by omega, rfl, rfl⟩, by omega⟩
    exact turn [some 0, some 1, some 2, some 9, some 10, some 11, some 13, some 7] rfl rfl rfl ⟨⟨_, rfl, .cons tr_v (.cons tr_sl .nil)⟩, ⟨_, rfl, .cons tr_v (.cons tr_v (.cons tr_v (.cons tr_v (.cons tr_v .nil))))⟩, ⟨_, rfl, .cons (tr_pt rfl) (.cons (tr_mun rfl (by first | rfl | (simp; done) | (simp; omega) | (rw [bg_l (by omega)]))) (.cons (tr_mun rfl (by first | rfl | (simp; done) | (simp; omega) | (rw [bg_l (by omega)]))) (.cons (tr_mun rfl (by first | rfl | (simp; done) | (simp; omega) | (rw [bg_l (by omega)]))) (.cons (tr_mun rfl (by first | rfl | (simp; done) | (simp; omega) | (rw [bg_l (by omega)]))) (.cons (tr_mun rfl (by first | rfl | (simp; done) | (simp; omega) | (rw [bg_l (by omega)]))) .nil)))))⟩, ⟨_, rfl, trc_flat pe_sc (congrArg (flat pe) (bg_step (by omega)))⟩, ⟨_, rfl, trc_flat pe_sc (congrArg (flat pe) (bg_step (by omega)))⟩, ⟨_, rfl, trc_flat pe_sc (congrArg (flat pe) (bg_step (by omega)))⟩, ⟨_, rfl, trc_flat int_sc (congrArg (flat int) (List.replicate_succ').symm)⟩, ⟨_, rfl, .nil⟩, trivial⟩ ⟨tr_pt rfl, tr_pt rfl, tr_v, trivial⟩
  refine v_nil ?_
  refine q_n ?_
  refine w_f rfl ?_
  refine w_exit ?_
  refine q_e ?_
  refine q_e ?_
  refine q_hit ?_
  refine q_n ?_
  refine w_seq ?_
  refine w_reg rfl ?_
  refine v_move rfl ?_
  refine v_assign rfl ?_
  refine v_nil ?_
  refine q_n ?_
  refine w_ret ?_
  refine r_r rfl ?_
  refine v_assign rfl ?_
  refine v_nil ?_
  refine q_n ?_
  refine w_seq ?_
  refine w_reg rfl ?_
  refine v_lit (flat int []) (H' := [_, _, _, _, _, _, _, _, _]) lay28 lay2 rfl rfl ⟨by decide, by decide⟩ rfl rfl ?_
  refine v_assign rfl ?_
  refine v_nil ?_
  refine q_n ?_
  refine w_seq ?_
  refine w_seq ?_
  refine w_reg rfl ?_
  refine v_assign (c := .v (.int .i64 0)) rfl ?_
  refine v_nil ?_
  refine q_n ?_
  refine w_block ?_
  refine w_loop (fun k sl H => ∃ (i : Nat) (b : Bd) (cs : List Int), k = ds.length - i ∧ i ≤ ds.length ∧ stB p fs ds i = (b, cs) ∧ okB fs.length i b ∧ cs.length = i ∧ sl = sls [(1, .c (dcs false ds)), (6, .c (.pt 2 0)), (7, .c (.mu 8 0 i 1)), (8, cI i)] ∧ H = [⟨[.v (.int .i64 p), .any], 33, true⟩, ⟨[.v (.slice none 0 0), .v (.slice none 0 0), .v (.slice none 0 0), .v (.slice none 0 0), .v (.slice none 0 0)], 64, true⟩, ⟨[.pt 0 0, .mu 3 0 b.nw.length 2, .mu 4 0 b.ps.length 2, .mu 5 0 b.sv.length 2, .mu 6 0 b.kn.length 1, .mu 7 0 b.wr.length 4], 90, true⟩, ⟨flat pe b.nw, 46, true⟩, ⟨flat pe b.ps, 46, true⟩, ⟨flat pe b.sv, 46, true⟩, ⟨flat int b.kn, 2, true⟩, ⟨flat nce b.wr, 101, true⟩, ⟨flat int cs, 2, true⟩]) ?_ ?_
  · obtain rfl : i = fs.length := by omega
    refine ⟨_, _, _, ?_, 0, b0 fs, [], rfl, Nat.zero_le _, rfl, ok_0 fs, rfl, rfl, rfl⟩
    exact turn [some 0, some 1, some 2, some 3, some 4, some 5, some 6, some 7, some 8] rfl rfl rfl ⟨⟨_, rfl, .cons tr_v (.cons (.c (.dn .any)) .nil)⟩, ⟨_, rfl, .cons tr_v (.cons tr_v (.cons tr_v (.cons tr_v (.cons tr_v .nil))))⟩, ⟨_, rfl, .cons (tr_pt rfl) (.cons (tr_mun rfl (by simp [b0, bg])) (.cons (tr_mun rfl (by simp [b0, bg])) (.cons (tr_mun rfl (by simp [b0, bg])) (.cons (tr_mun rfl (by simp [b0, bg])) (.cons (tr_mun rfl (by simp [b0, bg])) .nil)))))⟩, ⟨_, rfl, trc_flat pe_sc rfl⟩, ⟨_, rfl, trc_flat pe_sc rfl⟩, ⟨_, rfl, trc_flat pe_sc rfl⟩, ⟨_, rfl, trc_flat int_sc rfl⟩, ⟨_, rfl, .nil⟩, ⟨_, rfl, trc_flat int_sc (xs := []) rfl⟩, trivial⟩ ⟨tr_sl, tr_pt rfl, tr_mun rfl rfl, tr_v, trivial⟩
  rintro k sl H ⟨i, b, cs, rfl, hi, hst, hok, hcl, rfl, rfl⟩
  refine w_seq ?_
  refine w_seq ?_
  refine w_reg rfl ?_
  refine v_move rfl ?_
  refine v_move rfl ?_
  refine v_len_sl lay41 rfl ?_
  refine v_lss lay3 rfl rfl (fun h4 => ?_) (fun h4 => ?_)
  · have hi1 : i < ds.length := by omega
    have hd : dOk ds[i] := hds _ (List.getElem_mem hi1)
    refine v_nil ?_
    refine q_n ?_
    refine w_t rfl ?_
    refine w_skip ?_
    refine q_n ?_
    refine w_seq ?_
    refine w_block ?_
    refine w_reg rfl ?_
    refine v_move rfl ?_
    refine v_move rfl ?_
    refine v_move rfl ?_
    refine v_move rfl ?_
    refine v_idx_e (k := 3) (i) dce_len lay41 lay25 rfl rfl rfl (rfl) rfl (rfl) (by omega) ?_
    refine v_load_vw (.agg [.v _, .v _, .v _]) lay25 rfl rfl rfl ?_
    refine v_graph2 (ι := Bd × Int) (q1 := fun x => doB p b ds[i] = x) (q2 := fun x => doB p b ds[i] = x) (R1 := fun x => cI x.2) (R2 := fun x => cI x.2) (L1 := fun x => doH p x.1) (L2 := fun x => doH2 p x.1) [0, 2, 3, 4, 5, 6, 7] (fun x => cI x.2) (fun x => cI x.2) (fun x => [⟨[.v (.int .i64 p), .any], 33, true⟩, ⟨[.pt 0 0, .mu 3 0 x.1.nw.length 2, .mu 4 0 x.1.ps.length 2, .mu 5 0 x.1.sv.length 2, .mu 6 0 x.1.kn.length 1, .mu 7 0 x.1.wr.length 4], 90, true⟩, ⟨flat pe x.1.nw, 46, true⟩, ⟨flat pe x.1.ps, 46, true⟩, ⟨flat pe x.1.sv, 46, true⟩, ⟨flat int x.1.kn, 2, true⟩, ⟨flat nce x.1.wr, 101, true⟩]) (fun x => [⟨[.v (.int .i64 p), .any], 33, true⟩, ⟨[.pt 0 0, .mu 3 0 x.1.nw.length 2, .mu 4 0 x.1.ps.length 2, .mu 5 0 x.1.sv.length 2, .mu 6 0 x.1.kn.length 1, .mu 9 0 x.1.wr.length 4], 90, true⟩, ⟨flat pe x.1.nw, 46, true⟩, ⟨flat pe x.1.ps, 46, true⟩, ⟨flat pe x.1.sv, 46, true⟩, ⟨flat int x.1.kn, 2, true⟩, ⟨[], 101, false⟩, ⟨flat nce x.1.wr, 101, true⟩]) (fun x => [⟨[.v (.int .i64 p), .any], 33, true⟩, _, ⟨[.pt 0 0, .mu 3 0 x.1.nw.length 2, .mu 4 0 x.1.ps.length 2, .mu 5 0 x.1.sv.length 2, .mu 6 0 x.1.kn.length 1, .mu 7 0 x.1.wr.length 4], 90, true⟩, ⟨flat pe x.1.nw, 46, true⟩, ⟨flat pe x.1.ps, 46, true⟩, ⟨flat pe x.1.sv, 46, true⟩, ⟨flat int x.1.kn, 2, true⟩, ⟨flat nce x.1.wr, 101, true⟩, _]) (fun x => [⟨[.v (.int .i64 p), .any], 33, true⟩, _, ⟨[.pt 0 0, .mu 3 0 x.1.nw.length 2, .mu 4 0 x.1.ps.length 2, .mu 5 0 x.1.sv.length 2, .mu 6 0 x.1.kn.length 1, .mu 9 0 x.1.wr.length 4], 90, true⟩, ⟨flat pe x.1.nw, 46, true⟩, ⟨flat pe x.1.ps, 46, true⟩, ⟨flat pe x.1.sv, 46, true⟩, ⟨flat int x.1.kn, 2, true⟩, ⟨[], 101, false⟩, _, ⟨flat nce x.1.wr, 101, true⟩]) (c84g p fs.length i b ds[i] hok hd (by omega) (by omega)) (by decide) ⟨⟨_, rfl, rfl, .cons (.dn .v rfl) (.cons (.dn .any rfl) .nil)⟩, ⟨_, rfl, rfl, .cons (.pt rfl) (.cons (.mu rfl) (.cons (.mu rfl) (.cons (.mu rfl) (.cons (.mu rfl) (.cons (.mu rfl) .nil)))))⟩, ⟨_, rfl, rfl, .sc (sc_flat pe_sc _)⟩, ⟨_, rfl, rfl, .sc (sc_flat pe_sc _)⟩, ⟨_, rfl, rfl, .sc (sc_flat pe_sc _)⟩, ⟨_, rfl, rfl, .sc (sc_flat int_sc _)⟩, ⟨_, rfl, rfl, .sc (sc_flat nce_sc _)⟩, trivial⟩ rfl rfl (.cons (.c (.pt rfl)) (.cons (.agg (.cons (.dn .v rfl) (.cons (.dn .v rfl) (.cons (.dn .v rfl) .nil)))) .nil)) (fun x => rfl) (fun x => rfl) (fun x => ⟨rfl, rfl, rn_flat pe_sc, rn_flat pe_sc, rn_flat pe_sc, rn_flat int_sc, rn_flat nce_sc, trivial⟩) (fun x => ⟨rfl, rfl, rn_flat pe_sc, rn_flat pe_sc, rn_flat pe_sc, rn_flat int_sc, rfl, rn_flat nce_sc, trivial⟩) (fun x => rfl) (fun x => rfl) (fun x => gdo1 p x) (fun x => gdo2 p x) ?_ ?_
    · rintro ⟨b1, c1⟩ hdo
      refine v_lit (flat int [_]) (H' := [_, _, _, _, _, _, _, _, _, _]) lay28 lay2 rfl rfl ⟨by decide, by decide⟩ rfl rfl ?_
      refine v_app_flat (H' := [_, _, _, _, _, _, _, _, _, _, _]) int_sc int_len lay28 lay2 rfl rfl (by first | rfl | (simp; done) | (simp; omega) | omega | (rw [bg_l (by omega)])) rfl rfl (by first | rfl | (simp; done)) rfl rfl (by unfold maxLen; simp only []; omega) rfl rfl ?_
      refine v_assign rfl ?_
      refine v_nil ?_
      refine q_bn ?_
      refine q_n ?_
      refine w_reg rfl ?_
      refine v_move rfl ?_
      refine v_add lay3 rfl rfl (i64r (by omega)) ?_
      refine v_assign rfl ?_
      refine v_nil ?_
      refine q_n ?_
      refine ⟨_, _, _, ?_, ⟨i + 1, b1, cs ++ [c1], rfl, by omega, st_step hst hi1 hdo, ok_do hok hd hdo, by simp; omega, rfl, rfl⟩, by omega⟩
      exact turn [some 0, some 1, some 2, some 3, some 4, some 5, some 6, some 7, some 10] rfl rfl rfl ⟨⟨_, rfl, .cons tr_v (.cons (.c (.dn .any)) .nil)⟩, ⟨_, rfl, .cons tr_v (.cons tr_v (.cons tr_v (.cons tr_v (.cons tr_v .nil))))⟩, ⟨_, rfl, .cons (tr_pt rfl) (.cons (tr_mun rfl rfl) (.cons (tr_mun rfl rfl) (.cons (tr_mun rfl rfl) (.cons (tr_mun rfl rfl) (.cons (tr_mun rfl rfl) .nil)))))⟩, ⟨_, rfl, trc_flat pe_sc rfl⟩, ⟨_, rfl, trc_flat pe_sc rfl⟩, ⟨_, rfl, trc_flat pe_sc rfl⟩, ⟨_, rfl, trc_flat int_sc rfl⟩, ⟨_, rfl, trc_flat nce_sc rfl⟩, ⟨_, rfl, trc_flat int_sc rfl⟩, trivial⟩ ⟨tr_sl, tr_pt rfl, tr_mun rfl (by simp), tr_v, trivial⟩
    rintro ⟨b1, c1⟩ hdo
    refine v_lit (flat int [_]) (H' := [_, _, _, _, _, _, _, _, _, _, _]) lay28 lay2 rfl rfl ⟨by decide, by decide⟩ rfl rfl ?_
    refine v_app_flat (H' := [_, _, _, _, _, _, _, _, _, _, _, _]) int_sc int_len lay28 lay2 rfl rfl (by first | rfl | (simp; done) | (simp; omega) | omega | (rw [bg_l (by omega)])) rfl rfl (by first | rfl | (simp; done)) rfl rfl (by unfold maxLen; simp only []; omega) rfl rfl ?_
    refine v_assign rfl ?_
    refine v_nil ?_
    refine q_bn ?_
    refine q_n ?_
    refine w_reg rfl ?_
    refine v_move rfl ?_
    refine v_add lay3 rfl rfl (i64r (by omega)) ?_
    refine v_assign rfl ?_
    refine v_nil ?_
    refine q_n ?_
    refine ⟨_, _, _, ?_, ⟨i + 1, b1, cs ++ [c1], rfl, by omega, st_step hst hi1 hdo, ok_do hok hd hdo, by simp; omega, rfl, rfl⟩, by omega⟩
    exact turn [some 0, some 1, some 2, some 3, some 4, some 5, some 6, some 9, some 11] rfl rfl rfl ⟨⟨_, rfl, .cons tr_v (.cons (.c (.dn .any)) .nil)⟩, ⟨_, rfl, .cons tr_v (.cons tr_v (.cons tr_v (.cons tr_v (.cons tr_v .nil))))⟩, ⟨_, rfl, .cons (tr_pt rfl) (.cons (tr_mun rfl rfl) (.cons (tr_mun rfl rfl) (.cons (tr_mun rfl rfl) (.cons (tr_mun rfl rfl) (.cons (tr_mun rfl rfl) .nil)))))⟩, ⟨_, rfl, trc_flat pe_sc rfl⟩, ⟨_, rfl, trc_flat pe_sc rfl⟩, ⟨_, rfl, trc_flat pe_sc rfl⟩, ⟨_, rfl, trc_flat int_sc rfl⟩, ⟨_, rfl, trc_flat nce_sc rfl⟩, ⟨_, rfl, trc_flat int_sc rfl⟩, trivial⟩ ⟨tr_sl, tr_pt rfl, tr_mun rfl (by simp), tr_v, trivial⟩
  obtain rfl : i = ds.length := by omega
  have hb : (stB p fs ds ds.length).1 = b := by rw [hst]
  have hcs : (stB p fs ds ds.length).2 = cs := by rw [hst]
  have n1 := hok.nw
  have n2 := hok.ps
  have n4 := hok.kn
  have n5 := hok.wr
  refine v_nil ?_
  refine q_n ?_
  refine w_f rfl ?_
  refine w_exit ?_
  refine q_e ?_
  refine q_e ?_
  refine q_hit ?_
  refine q_n ?_
  refine w_seq ?_
  refine w_reg rfl ?_
  refine v_move rfl ?_
  refine v_move rfl ?_
  refine v_assign rfl ?_
  refine v_assign rfl ?_
  refine v_nil ?_
  refine q_n ?_
  refine w_ret ?_
  refine r_r rfl ?_
  refine v_move_t rfl ?_
  refine v_extract_c rfl rfl ?_
  refine v_extract_c rfl rfl ?_
  refine v_assign rfl ?_
  refine v_assign rfl ?_
  refine v_nil ?_
  refine q_n ?_
  refine w_seq ?_
  refine w_reg rfl ?_
  refine v_assign (c := .v (.int .i64 0)) rfl ?_
  refine v_nil ?_
  refine q_n ?_
  refine w_seq ?_
  refine w_seq ?_
  refine w_reg rfl ?_
  refine v_assign (c := .v (.int .i64 0)) rfl ?_
  refine v_nil ?_
  refine q_n ?_
  refine w_block ?_
  refine w_loop (fun k sl H => ∃ i : Nat, k = ds.length - i ∧ i ≤ ds.length ∧ sl = sls [(4, .c (.pt 1 0)), (8, .c (.pt 2 0)), (9, .c (.mu 8 0 cs.length 1)), (10, cI (cz (cs.take i))), (11, cI i)] ∧ H = [⟨[.v (.int .i64 p), .any], 33, true⟩, ⟨[.v (.slice none 0 0), .v (.slice none 0 0), .v (.slice none 0 0), .v (.slice none 0 0), .v (.slice none 0 0)], 64, true⟩, ⟨[.pt 0 0, .mu 3 0 b.nw.length 2, .mu 4 0 b.ps.length 2, .mu 5 0 b.sv.length 2, .mu 6 0 b.kn.length 1, .mu 7 0 b.wr.length 4], 90, true⟩, ⟨flat pe b.nw, 46, true⟩, ⟨flat pe b.ps, 46, true⟩, ⟨flat pe b.sv, 46, true⟩, ⟨flat int b.kn, 2, true⟩, ⟨flat nce b.wr, 101, true⟩, ⟨flat int cs, 2, true⟩]) ?_ ?_
  · refine ⟨_, _, _, ?_, 0, rfl, Nat.zero_le _, rfl, rfl⟩
    exact turn [some 0, some 1, some 2, some 3, some 4, some 5, some 6, some 7, some 8] rfl rfl rfl ⟨⟨_, rfl, .cons tr_v (.cons (.c (.dn .any)) .nil)⟩, ⟨_, rfl, .cons tr_v (.cons tr_v (.cons tr_v (.cons tr_v (.cons tr_v .nil))))⟩, ⟨_, rfl, .cons (tr_pt rfl) (.cons (tr_mun rfl rfl) (.cons (tr_mun rfl rfl) (.cons (tr_mun rfl rfl) (.cons (tr_mun rfl rfl) (.cons (tr_mun rfl rfl) .nil)))))⟩, ⟨_, rfl, trc_flat pe_sc rfl⟩, ⟨_, rfl, trc_flat pe_sc rfl⟩, ⟨_, rfl, trc_flat pe_sc rfl⟩, ⟨_, rfl, trc_flat int_sc rfl⟩, ⟨_, rfl, trc_flat nce_sc rfl⟩, ⟨_, rfl, trc_flat int_sc rfl⟩, trivial⟩ ⟨tr_pt rfl, tr_pt rfl, tr_mun rfl (by omega), tr_v, tr_v, trivial⟩
  rintro k sl H ⟨i, rfl, hi, rfl, rfl⟩
  have hczt := cz_len (cs.take i)
  rw [List.length_take] at hczt
  refine w_seq ?_
  refine w_seq ?_
  refine w_reg rfl ?_
  refine v_move rfl ?_
  refine v_move rfl ?_
  refine v_len_mu lay28 rfl ?_
  refine v_lss lay3 rfl rfl (fun h6 => ?_) (fun h6 => ?_)
  rotate_left
  · refine v_nil ?_
    refine q_n ?_
    refine w_f rfl ?_
    refine w_exit ?_
    refine q_e ?_
    refine q_e ?_
    refine q_hit ?_
    refine q_n ?_
    refine w_seq ?_
    refine w_reg rfl ?_
    refine v_move rfl ?_
    refine v_nil_pt rfl ?_
    refine v_fa_pt (off' := 1) lay90 rfl rfl rfl ?_
    refine v_load_pt (.agg [_, _, _, _, _]) lay64 rfl rfl rfl rfl ?_
    refine v_move rfl ?_
    refine v_store (H' := [_, ⟨[_, _, _, _, _], 64, true⟩, _, _, _, _, _, _, _]) lay64 rfl rfl rfl rfl rfl rfl ?_
    refine v_assign rfl ?_
    refine v_assign (c := .v (.int .i64 0)) rfl ?_
    refine v_nil ?_
    refine q_n ?_
    refine w_ret ?_
    refine r_r rfl ?_
    have hie : i = cs.length := by omega
    rw [bo_of hg, hb, hcs, ← cz_all hie]
    exact a_tup (.cons (a_agg (.cons (a_flat pe_sc pe_len rfl rfl) (.cons (a_flat pe_sc pe_len rfl rfl) (.cons (a_flat pe_sc pe_len rfl rfl) (.cons (a_flat int_sc int_len rfl rfl) (.cons (a_flat nce_sc nce_len rfl rfl) .nil)))))) (.cons tr_v (.cons tr_v .nil)))
  refine v_nil ?_
  refine q_n ?_
  refine w_t rfl ?_
  refine w_skip ?_
  refine q_n ?_
  refine w_seq ?_
  refine w_block ?_
  refine w_seq ?_
  refine w_reg rfl ?_
  refine v_move rfl ?_
  refine v_move rfl ?_
  refine v_idx_mu_e (k := 1) (off := 0) (i) lay28 lay2 rfl rfl rfl (rfl) (by omega) ?_
  refine v_load_flat i 0 (.c (.v _)) int_len lay2 rfl rfl (by omega) (by first | omega | (simp; done) | (simp; omega)) rfl rfl ?_
  refine v_eql lay2 rfl rfl (fun h8 => ?_) (fun h8 => ?_)
  rotate_left
  · have hno := h8
    refine v_nil ?_
    refine q_n ?_
    refine w_f rfl ?_
    refine w_skip ?_
    refine q_bn ?_
    refine q_n ?_
    refine w_reg rfl ?_
    refine v_move rfl ?_
    refine v_add lay3 rfl rfl (i64r (by omega)) ?_
    refine v_assign rfl ?_
    refine v_nil ?_
    refine q_n ?_
    refine ⟨_, _, _, ?_, ⟨i + 1, rfl, by omega, rfl, rfl⟩, by omega⟩
    exact turn [some 0, some 1, some 2, some 3, some 4, some 5, some 6, some 7, some 8] rfl rfl rfl ⟨⟨_, rfl, .cons tr_v (.cons (.c (.dn .any)) .nil)⟩, ⟨_, rfl, .cons tr_v (.cons tr_v (.cons tr_v (.cons tr_v (.cons tr_v .nil))))⟩, ⟨_, rfl, .cons (tr_pt rfl) (.cons (tr_mun rfl rfl) (.cons (tr_mun rfl rfl) (.cons (tr_mun rfl rfl) (.cons (tr_mun rfl rfl) (.cons (tr_mun rfl rfl) .nil)))))⟩, ⟨_, rfl, trc_flat pe_sc rfl⟩, ⟨_, rfl, trc_flat pe_sc rfl⟩, ⟨_, rfl, trc_flat pe_sc rfl⟩, ⟨_, rfl, trc_flat int_sc rfl⟩, ⟨_, rfl, trc_flat nce_sc rfl⟩, ⟨_, rfl, trc_flat int_sc rfl⟩, trivial⟩ ⟨tr_pt rfl, tr_pt rfl, tr_mun rfl rfl, (tr_i (cz_no (by omega) hno)), tr_v, trivial⟩
  have hyes := h8
  refine v_nil ?_
  refine q_n ?_
  refine w_t rfl ?_
  refine w_reg rfl ?_
  refine v_move rfl ?_
  refine v_add lay2 rfl rfl (i64r (by omega)) ?_
  refine v_assign rfl ?_
  refine v_nil ?_
  refine q_bn ?_
  refine q_n ?_
  refine w_reg rfl ?_
  refine v_move rfl ?_
  refine v_add lay3 rfl rfl (i64r (by omega)) ?_
  refine v_assign rfl ?_
  refine v_nil ?_
  refine q_n ?_
  refine ⟨_, _, _, ?_, ⟨i + 1, rfl, by omega, rfl, rfl⟩, by omega⟩
  exact turn [some 0, some 1, some 2, some 3, some 4, some 5, some 6, some 7, some 8] rfl rfl rfl ⟨⟨_, rfl, .cons tr_v (.cons (.c (.dn .any)) .nil)⟩, ⟨_, rfl, .cons tr_v (.cons tr_v (.cons tr_v (.cons tr_v (.cons tr_v .nil))))⟩, ⟨_, rfl, .cons (tr_pt rfl) (.cons (tr_mun rfl rfl) (.cons (tr_mun rfl rfl) (.cons (tr_mun rfl rfl) (.cons (tr_mun rfl rfl) (.cons (tr_mun rfl rfl) .nil)))))⟩, ⟨_, rfl, trc_flat pe_sc rfl⟩, ⟨_, rfl, trc_flat pe_sc rfl⟩, ⟨_, rfl, trc_flat pe_sc rfl⟩, ⟨_, rfl, trc_flat int_sc rfl⟩, ⟨_, rfl, trc_flat nce_sc rfl⟩, ⟨_, rfl, trc_flat int_sc rfl⟩, trivial⟩ ⟨tr_pt rfl, tr_pt rfl, tr_mun rfl rfl, (tr_i (cz_yes (by omega) hyes)), tr_v, trivial⟩

theorem c40b (p : Int) (fs : List Int) (ds : List De) (hx : fs.length ≤ 2 ^ 40) (hd : ds.length ≤ 2 ^ 40) (hgv : gvR p fs ds ≠ 0) : LiveC X 40 [.agg (cen false p fs), .c (dcs false ds)] (boL (boR p fs ds)) (boO (boR p fs ds).1) := by
  refine LiveC.of_body (drawD_ok X) (fun _ _ => Go.Proofs.Try.call40 _ _) Go.Proofs.Try.func40 rfl (n := 41) rfl ?_
  refine w_seq ?_
  refine w_reg rfl ?_
  refine v_box (m := 0) (H' := [_]) lay33 rfl rfl rfl ?_
  refine v_alloc (m := 1) (H' := [_, ⟨[.v _, .v _, .v _, .v _, .v _], 64, true⟩]) lay64 rfl rfl ?_
  refine v_assign (c := .v (.int .i64 0)) rfl ?_
  refine v_assign (c := .v (.int .i64 0)) rfl ?_
  refine v_nil ?_
  refine q_n ?_
  refine w_seq ?_
  refine w_seq ?_
  refine w_reg rfl ?_
  refine v_move rfl ?_
  refine v_call (c58 _ _ _ (by omega) (by omega)) rfl rfl rfl (.cons (vw_pt rfl (.cons .v (.cons (.sl (fun h => by cases h)) .nil))) (.cons vw_sl .nil)) ?_
  refine v_assign rfl ?_
  refine v_nil ?_
  refine q_n ?_
  refine w_seq ?_
  refine w_reg rfl ?_
  refine v_move rfl ?_
  refine v_neq lay2 rfl rfl (fun h1 => ?_) (fun h1 => ?_)
  rotate_left
  · exact absurd h1 hgv
  refine v_nil ?_
  refine q_n ?_
  refine w_t rfl ?_
  refine w_seq ?_
  refine w_reg rfl ?_
  refine v_build [(0, 1), (1, 1), (2, 1), (3, 1), (4, 1)] [.v _, .v _, .v _, .v _, .v _] lay64 rfl rfl ?_
  refine v_move rfl ?_
  refine v_store (H' := [_, ⟨[_, _, _, _, _], 64, true⟩]) lay64 rfl rfl rfl rfl rfl rfl ?_
  refine v_assign (c := .v (.int .i64 0)) rfl ?_
  refine v_assign rfl ?_
  refine v_nil ?_
  refine q_n ?_
  refine w_ret (q_r ?_)
  refine r_r rfl ?_
  rw [bo_bad h1]
  exact l_ans [none, none, none, none, none] rfl rfl ⟨rfl, rfl, rfl, rfl, rfl, trivial⟩ (a_tup (.cons (tr_agg (.cons (tr_nil rfl) (.cons (tr_nil rfl) (.cons (tr_nil rfl) (.cons (tr_nil rfl) (.cons (tr_nil rfl) .nil)))))) (.cons tr_v (.cons tr_v .nil))))

theorem bo_frz (b : Bd) (x y : Int) : TrV (boO b) [] (boL (b, x, y)) (boV (b, x, y)) := a_tup (.cons (a_agg (.cons (a_flat pe_sc pe_len rfl rfl) (.cons (a_flat pe_sc pe_len rfl rfl) (.cons (a_flat pe_sc pe_len rfl rfl) (.cons (a_flat int_sc int_len rfl rfl) (.cons (a_flat nce_sc nce_len rfl rfl) .nil)))))) (.cons tr_v (.cons tr_v .nil)))
theorem c40 (p : Int) (fs : List Int) (ds : List De) (hx : fs.length ≤ 2 ^ 40) (hd : ds.length ≤ 2 ^ 40) : PureC X 40 [.agg (cen false p fs), .c (dcs false ds)] (boV (boR p fs ds)) := by
  by_cases h : gvR p fs ds = 0
  · exact c40a p fs ds hx hd h
  · exact (c40b p fs ds hx hd h).pure (bo_frz _ _ _)

theorem c41l (p : Int) (fs : List Int) (ds : List De) (hx : fs.length ≤ 2 ^ 40) (hd : ds.length ≤ 2 ^ 40) : LiveC X 41 [.agg (cen false p fs), .c (dcs false ds)] (boL (boR p fs ds)) (boO (boR p fs ds).1) := by
  refine LiveC.of_body (drawD_ok X) (fun _ _ => Go.Proofs.Try.call41 _ _) Go.Proofs.Try.func41 rfl (n := 38) rfl ?_
  refine w_seq ?_
  refine w_reg rfl ?_
  refine v_box (m := 0) (H' := [_]) lay33 rfl rfl rfl ?_
  refine v_alloc (m := 1) (H' := [_, ⟨[.v _, .v _, .v _, .v _, .v _], 64, true⟩]) lay64 rfl rfl ?_
  refine v_assign (c := .v (.int .i64 0)) rfl ?_
  refine v_assign (c := .v (.int .i64 0)) rfl ?_
  refine v_nil ?_
  refine q_n ?_
  refine w_seq ?_
  refine w_seq ?_
  refine w_reg rfl ?_
  refine v_load_pt (.agg [_, _]) lay33 rfl rfl rfl rfl ?_
  refine v_move rfl ?_
  refine v_call (c60 _ _ _ _ (by omega) (by omega)) rfl rfl rfl (.cons (vw_agg (.cons vw_v (.cons vw_sl .nil))) (.cons vw_sl (.cons vw_v .nil))) ?_
  refine v_assign rfl ?_
  refine v_nil ?_
  refine q_n ?_
  refine w_seq ?_
  refine w_reg rfl ?_
  refine v_move rfl ?_
  refine v_neq lay2 rfl rfl (fun h1 => ?_) (fun h1 => ?_)
  · refine v_nil ?_
    refine q_n ?_
    refine w_t rfl ?_
    refine w_seq ?_
    refine w_reg rfl ?_
    refine v_build [(0, 1), (1, 1), (2, 1), (3, 1), (4, 1)] [.v _, .v _, .v _, .v _, .v _] lay64 rfl rfl ?_
    refine v_move rfl ?_
    refine v_store (H' := [_, ⟨[_, _, _, _, _], 64, true⟩]) lay64 rfl rfl rfl rfl rfl rfl ?_
    refine v_assign (c := .v (.int .i64 0)) rfl ?_
    refine v_assign rfl ?_
    refine v_nil ?_
    refine q_n ?_
    refine w_ret (q_r ?_)
    refine r_r rfl ?_
    rw [bo_bad2 h1]
    exact l_ans [none, none, none, none, none] rfl rfl ⟨rfl, rfl, rfl, rfl, rfl, trivial⟩ (a_tup (.cons (tr_agg (.cons (tr_nil rfl) (.cons (tr_nil rfl) (.cons (tr_nil rfl) (.cons (tr_nil rfl) (.cons (tr_nil rfl) .nil)))))) (.cons tr_v (.cons tr_v .nil))))
  have hg : gvR p fs ds = 0 := by rw [← dc_gv]; omega
  obtain ⟨hoc, hds, hdl⟩ := gv_ok hg
  have hf : fs.length ≤ 6 := hoc.2.2.2.1
  refine v_nil ?_
  refine q_n ?_
  refine w_f rfl ?_
  refine w_skip ?_
  refine q_n ?_
  refine w_seq ?_
  refine w_reg rfl ?_
  refine v_load_pt (.agg [_, _]) lay33 rfl rfl rfl rfl ?_
  refine v_move rfl ?_
  refine v_inl (n := 27) (drawD_ok X) (fun _ _ => Go.Proofs.Try.call65 _ _) Go.Proofs.Try.func65 rfl rfl rfl rfl ?_
  refine w_seq ?_
  refine w_reg rfl ?_
  refine v_box (m := 2) (H' := [_, _, _]) lay33 rfl rfl rfl ?_
  refine v_assign (c := .v _) rfl ?_
  refine v_assign (c := .v (.int .i64 0)) rfl ?_
  refine v_nil ?_
  refine q_n ?_
  refine w_seq ?_
  refine w_reg rfl ?_
  refine v_load_pt (.agg [_, _]) lay33 rfl rfl rfl rfl ?_
  refine v_inl (n := 68) (drawD_ok X) (fun _ _ => Go.Proofs.Try.call61 _ _) Go.Proofs.Try.func61 rfl rfl rfl rfl ?_
  refine w_seq ?_
  refine w_reg rfl ?_
  refine v_box (m := 3) (H' := [_, _, _, _]) lay33 rfl rfl rfl ?_
  refine v_assign (c := .v _) rfl ?_
  refine v_nil ?_
  refine q_n ?_
  refine w_seq ?_
  refine w_reg rfl ?_
  refine v_load_pt (.agg [_, _]) lay33 rfl rfl rfl rfl ?_
  refine v_build [(0, 5), (5, 2)] [.v _, .v _, .v _, .v _, .v _, .v _, _] lay94 rfl rfl ?_
  refine v_box (m := 4) (H' := [_, _, _, _, _]) lay94 rfl rfl rfl ?_
  refine v_assign rfl ?_
  refine v_nil ?_
  refine q_n ?_
  refine w_seq ?_
  refine w_seq ?_
  refine w_reg rfl ?_
  refine v_fa_pt (off' := 1) lay33 rfl rfl rfl ?_
  refine v_load_pt (.c _) lay28 rfl rfl rfl rfl ?_
  refine v_len_sl lay28 rfl ?_
  refine v_move (c := .v (.int .i64 0)) rfl ?_
  refine v_nil ?_
  refine q_n ?_
  refine w_block ?_
  refine w_loop (fun k sl H => ∃ i : Nat, k = fs.length - i ∧ i ≤ fs.length ∧ sl = sls [(3, .c (.pt 3 0)), (11, .c (ints false fs)), (12, cI fs.length), (13, cI i)] ∧ H = [⟨cen false p fs, 33, true⟩, ⟨[.v (.slice none 0 0), .v (.slice none 0 0), .v (.slice none 0 0), .v (.slice none 0 0), .v (.slice none 0 0)], 64, true⟩, ⟨cen false p fs, 33, true⟩, ⟨[.mu 4 0 i 2, .mu 5 0 i 2, .mu 6 0 i 2, .mu 7 0 i 1, .mu 8 0 0 4, .v (.int .i64 p), ints false fs], 94, true⟩, ⟨flat pe (bg fs i), 46, true⟩, ⟨flat pe (bg fs i), 46, true⟩, ⟨flat pe (bg fs i), 46, true⟩, ⟨flat int (List.replicate i 0), 2, true⟩, ⟨[], 101, true⟩]) ?_ ?_
  · refine ⟨_, _, _, ?_, 0, rfl, Nat.zero_le _, rfl, rfl⟩
    exact turn [some 0, some 1, some 2, some 4, none, none, none, none, none] rfl rfl rfl ⟨⟨_, rfl, .cons tr_v (.cons tr_sl .nil)⟩, ⟨_, rfl, .cons tr_v (.cons tr_v (.cons tr_v (.cons tr_v (.cons tr_v .nil))))⟩, ⟨_, rfl, .cons tr_v (.cons tr_sl .nil)⟩, ⟨_, rfl, .cons (tr_nil rfl) (.cons (tr_nil rfl) (.cons (tr_nil rfl) (.cons (tr_nil rfl) (.cons (tr_nil rfl) (.cons tr_v (.cons tr_sl .nil))))))⟩, rfl, rfl, rfl, rfl, rfl, trivial⟩ ⟨tr_pt rfl, tr_sl, tr_v, tr_v, trivial⟩
  rintro k sl H ⟨i, rfl, hi, rfl, rfl⟩
  refine w_seq ?_
  refine w_reg rfl ?_
  refine v_lss lay3 rfl rfl (fun h2 => ?_) (fun h2 => ?_)
  · refine v_nil ?_
    refine q_n ?_
    refine w_seq ?_
    refine w_t rfl ?_
    refine w_skip ?_
    refine q_n ?_
    refine w_seq ?_
    refine w_block ?_
    refine w_seq ?_
    refine w_reg rfl ?_
    refine v_idx_e (k := 1) (i) int_len lay28 lay2 rfl rfl rfl (rfl) rfl (rfl) (by omega) ?_
    refine v_load_vw (.c (.v _)) lay2 rfl rfl rfl ?_
    refine v_assign rfl ?_
    refine v_nil ?_
    refine q_n ?_
    refine w_seq ?_
    refine w_reg rfl ?_
    refine v_move rfl ?_
    refine v_build [(0, 1), (1, 1)] [.v _, .v _] lay46 rfl rfl ?_
    refine v_alloc (m := 9) (H' := [_, _, _, _, _, _, _, _, _, ⟨[.v _, .v _], 46, true⟩]) lay46 rfl rfl ?_
    refine v_store (H' := [_, _, _, _, _, _, _, _, _, ⟨[_, _], 46, true⟩]) lay46 rfl rfl rfl rfl rfl rfl ?_
    refine v_nil ?_
    refine q_n ?_
    refine w_draw [0, 0, 0, 0, 0, 16, 48, 112, 240, 0, 512, 2032, 0, 4096, 12288, 28672, 61440, 0, 131072, 524272, 0, 1048576, 3145728, 7340032, 15728640, 0, 33554432, 134217712, 0, 268435456, 805306368, 1879048192, 4026531840, 0, 17179869168, 34359738353, 68719476721, 137438953457, 274877906929, 549755813875, 1099511627763, 2199023255539, 4398046511091, 8796093022199, 17592186044407, 35184372088823, 70368744177655, 140737488355327, 281474976710655, 562949953421311, 1125899906842623] [⟨0, 0, []⟩, ⟨1, 0, []⟩, ⟨2, 0, []⟩, ⟨3, 0, []⟩, ⟨4, 0, []⟩, ⟨5, 0, []⟩, ⟨6, 0, []⟩, ⟨7, 0, []⟩, ⟨8, 0, []⟩, ⟨9, 0, []⟩, ⟨10, 2, []⟩, ⟨12, 0, []⟩, ⟨13, 0, []⟩, ⟨14, 0, []⟩, ⟨15, 0, []⟩, ⟨16, 0, []⟩, ⟨17, 0, []⟩, ⟨18, 2, []⟩, ⟨20, 0, []⟩, ⟨21, 0, []⟩, ⟨22, 0, []⟩, ⟨23, 0, []⟩, ⟨24, 0, []⟩, ⟨25, 0, []⟩, ⟨26, 2, []⟩, ⟨28, 0, []⟩, ⟨29, 0, []⟩, ⟨30, 0, []⟩, ⟨31, 0, []⟩, ⟨32, 0, []⟩, ⟨33, 2, []⟩, ⟨11, 1, [16, 17, 24, 25, 32]⟩, ⟨19, 1, [24, 25, 32]⟩, ⟨27, 1, [32]⟩, ⟨34, 1, []⟩, ⟨35, 0, []⟩, ⟨36, 0, []⟩, ⟨37, 0, []⟩, ⟨38, 1, []⟩, ⟨39, 0, []⟩, ⟨40, 0, []⟩, ⟨41, 0, []⟩, ⟨42, 1, []⟩, ⟨43, 0, []⟩, ⟨44, 0, []⟩, ⟨45, 0, []⟩, ⟨46, 1, []⟩, ⟨47, 0, []⟩, ⟨48, 0, []⟩, ⟨49, 0, []⟩, ⟨50, 1, []⟩] rfl rfl ?_
    refine d_q rfl rfl rfl rfl rfl ?_
    refine v_move rfl ?_
    refine v_nil ?_
    refine d_q rfl rfl rfl rfl rfl ?_
    refine v_move rfl ?_
    refine v_nil ?_
    refine d_q rfl rfl rfl rfl rfl ?_
    refine v_move rfl ?_
    refine v_nil ?_
    refine d_q rfl rfl rfl rfl rfl ?_
    refine v_move rfl ?_
    refine v_nil ?_
    refine d_q rfl rfl rfl rfl rfl ?_
    refine v_move rfl ?_
    refine v_nil ?_
    refine d_q rfl rfl rfl rfl rfl ?_
    refine v_nil_pt rfl ?_
    refine v_nil ?_
    refine d_q rfl rfl rfl rfl rfl ?_
    refine v_fa_pt (off' := 0) lay94 rfl rfl rfl ?_
    refine v_nil ?_
    refine d_q rfl rfl rfl rfl rfl ?_
    refine v_fa_pt (off' := 0) lay64 rfl rfl rfl ?_
    refine v_nil ?_
    refine d_q rfl rfl rfl rfl rfl ?_
    refine v_load_pt (.c _) lay61 rfl rfl rfl rfl ?_
    refine v_nil ?_
    refine d_q rfl rfl rfl rfl rfl ?_
    refine v_load_pt (.agg [_, _]) lay46 rfl rfl rfl rfl ?_
    refine v_nil ?_
    refine d_z (.c (.sl true 1 2 (flat pe [(fs[i], 0)]))) rfl rfl rfl ?_
    refine d_q rfl rfl rfl rfl rfl ?_
    refine v_move rfl ?_
    refine v_nil ?_
    refine d_q rfl rfl rfl rfl rfl ?_
    refine v_nil_pt rfl ?_
    refine v_nil ?_
    refine d_q rfl rfl rfl rfl rfl ?_
    refine v_fa_pt (off' := 0) lay94 rfl rfl rfl ?_
    refine v_nil ?_
    refine d_q rfl rfl rfl rfl rfl ?_
    refine v_fa_pt (off' := 1) lay64 rfl rfl rfl ?_
    refine v_nil ?_
    refine d_q rfl rfl rfl rfl rfl ?_
    refine v_load_pt (.c _) lay61 rfl rfl rfl rfl ?_
    refine v_nil ?_
    refine d_q rfl rfl rfl rfl rfl ?_
    refine v_load_pt (.agg [_, _]) lay46 rfl rfl rfl rfl ?_
    refine v_nil ?_
    refine d_z (.c (.sl true 1 2 (flat pe [(fs[i], 0)]))) rfl rfl rfl ?_
    refine d_q rfl rfl rfl rfl rfl ?_
    refine v_move rfl ?_
    refine v_nil ?_
    refine d_q rfl rfl rfl rfl rfl ?_
    refine v_nil_pt rfl ?_
    refine v_nil ?_
    refine d_q rfl rfl rfl rfl rfl ?_
    refine v_fa_pt (off' := 0) lay94 rfl rfl rfl ?_
    refine v_nil ?_
    refine d_q rfl rfl rfl rfl rfl ?_
    refine v_fa_pt (off' := 2) lay64 rfl rfl rfl ?_
    refine v_nil ?_
    refine d_q rfl rfl rfl rfl rfl ?_
    refine v_load_pt (.c _) lay61 rfl rfl rfl rfl ?_
    refine v_nil ?_
    refine d_q rfl rfl rfl rfl rfl ?_
    refine v_load_pt (.agg [_, _]) lay46 rfl rfl rfl rfl ?_
    refine v_nil ?_
    refine d_z (.c (.sl true 1 2 (flat pe [(fs[i], 0)]))) rfl rfl rfl ?_
    refine d_q rfl rfl rfl rfl rfl ?_
    refine v_move rfl ?_
    refine v_nil ?_
    refine d_q rfl rfl rfl rfl rfl ?_
    refine v_nil_pt rfl ?_
    refine v_nil ?_
    refine d_q rfl rfl rfl rfl rfl ?_
    refine v_fa_pt (off' := 0) lay94 rfl rfl rfl ?_
    refine v_nil ?_
    refine d_q rfl rfl rfl rfl rfl ?_
    refine v_fa_pt (off' := 3) lay64 rfl rfl rfl ?_
    refine v_nil ?_
    refine d_q rfl rfl rfl rfl rfl ?_
    refine v_load_pt (.c _) lay28 rfl rfl rfl rfl ?_
    refine v_nil ?_
    refine d_z (.c (.sl true 1 1 (flat int [0]))) rfl rfl rfl ?_
    refine d_e rfl rfl rfl ?_
    refine v_app_flat_sl (H' := [_, _, _, _, _, _, _, _, _, _, _]) pe_sc pe_len lay61 lay46 rfl rfl (by first | rfl | (simp; done) | (simp; omega) | omega | (rw [bg_l (by omega)])) rfl rfl rfl (by unfold maxLen; simp only []; omega) rfl rfl ?_
    refine v_nil ⟨⟨ag_load_pt (.c _) lay28 rfl rfl rfl rfl, ⟨ag_load_pt (.agg [_, _]) lay46 rfl rfl rfl rfl, ⟨ag_load_pt (.c _) lay61 rfl rfl rfl rfl, ⟨ag_load_pt (.agg [_, _]) lay46 rfl rfl rfl rfl, ⟨ag_load_pt (.c _) lay61 rfl rfl rfl rfl, ⟨trivial, ⟨trivial, trivial⟩⟩⟩⟩⟩⟩⟩, ?_⟩
    refine d_e rfl rfl rfl ?_
    refine v_app_flat_sl (H' := [_, _, _, _, _, _, _, _, _, _, _, _]) pe_sc pe_len lay61 lay46 rfl rfl (by first | rfl | (simp; done) | (simp; omega) | omega | (rw [bg_l (by omega)])) rfl rfl rfl (by unfold maxLen; simp only []; omega) rfl rfl ?_
    refine v_nil ⟨⟨ag_load_pt (.c _) lay28 rfl rfl rfl rfl, ⟨ag_load_pt (.agg [_, _]) lay46 rfl rfl rfl rfl, ⟨ag_load_pt (.c _) lay61 rfl rfl rfl rfl, ⟨trivial, ⟨trivial, ⟨trivial, ⟨trivial, trivial⟩⟩⟩⟩⟩⟩⟩, ?_⟩
    refine d_e rfl rfl rfl ?_
    refine v_app_flat_sl (H' := [_, _, _, _, _, _, _, _, _, _, _, _, _]) pe_sc pe_len lay61 lay46 rfl rfl (by first | rfl | (simp; done) | (simp; omega) | omega | (rw [bg_l (by omega)])) rfl rfl rfl (by unfold maxLen; simp only []; omega) rfl rfl ?_
    refine v_nil ⟨⟨ag_load_pt (.c _) lay28 rfl rfl rfl rfl, ⟨trivial, ⟨trivial, ⟨trivial, ⟨trivial, ⟨trivial, ⟨trivial, trivial⟩⟩⟩⟩⟩⟩⟩, ?_⟩
    refine d_e rfl rfl rfl ?_
    refine v_app_flat_sl (H' := [_, _, _, _, _, _, _, _, _, _, _, _, _, _]) int_sc int_len lay28 lay2 rfl rfl (by first | rfl | (simp; done) | (simp; omega) | omega | (rw [bg_l (by omega)])) rfl rfl rfl (by unfold maxLen; simp only []; omega) rfl rfl ?_
    refine v_nil ⟨again_nil, ?_⟩
    refine d_q rfl rfl rfl rfl rfl ?_
    refine v_nil_pt rfl ?_
    refine v_nil ?_
    refine d_q rfl rfl rfl rfl rfl ?_
    refine v_fa_pt (off' := 0) lay94 rfl rfl rfl ?_
    refine v_nil ?_
    refine d_q rfl rfl rfl rfl rfl ?_
    refine v_fa_pt (off' := 0) lay64 rfl rfl rfl ?_
    refine v_nil ?_
    refine d_e rfl rfl rfl ?_
    refine v_store (H' := [_, _, _, ⟨[_, _, _, _, _, _, _], 94, true⟩, _, _, _, _, _, _, _, _, _, _]) lay61 rfl rfl rfl rfl rfl rfl ?_
    refine v_nil ⟨again_nil, ?_⟩
    refine d_q rfl rfl rfl rfl rfl ?_
    refine v_nil_pt rfl ?_
    refine v_nil ?_
    refine d_q rfl rfl rfl rfl rfl ?_
    refine v_fa_pt (off' := 0) lay94 rfl rfl rfl ?_
    refine v_nil ?_
    refine d_q rfl rfl rfl rfl rfl ?_
    refine v_fa_pt (off' := 1) lay64 rfl rfl rfl ?_
    refine v_nil ?_
    refine d_e rfl rfl rfl ?_
    refine v_store (H' := [_, _, _, ⟨[_, _, _, _, _, _, _], 94, true⟩, _, _, _, _, _, _, _, _, _, _]) lay61 rfl rfl rfl rfl rfl rfl ?_
    refine v_nil ⟨again_nil, ?_⟩
    refine d_q rfl rfl rfl rfl rfl ?_
    refine v_nil_pt rfl ?_
    refine v_nil ?_
    refine d_q rfl rfl rfl rfl rfl ?_
    refine v_fa_pt (off' := 0) lay94 rfl rfl rfl ?_
    refine v_nil ?_
    refine d_q rfl rfl rfl rfl rfl ?_
    refine v_fa_pt (off' := 2) lay64 rfl rfl rfl ?_
    refine v_nil ?_
    refine d_e rfl rfl rfl ?_
    refine v_store (H' := [_, _, _, ⟨[_, _, _, _, _, _, _], 94, true⟩, _, _, _, _, _, _, _, _, _, _]) lay61 rfl rfl rfl rfl rfl rfl ?_
    refine v_nil ⟨again_nil, ?_⟩
    refine d_q rfl rfl rfl rfl rfl ?_
    refine v_nil_pt rfl ?_
    refine v_nil ?_
    refine d_q rfl rfl rfl rfl rfl ?_
    refine v_fa_pt (off' := 0) lay94 rfl rfl rfl ?_
    refine v_nil ?_
    refine d_q rfl rfl rfl rfl rfl ?_
    refine v_fa_pt (off' := 3) lay64 rfl rfl rfl ?_
    refine v_nil ?_
    refine d_e rfl rfl rfl ?_
    refine v_store (H' := [_, _, _, ⟨[_, _, _, _, _, _, _], 94, true⟩, _, _, _, _, _, _, _, _, _, _]) lay28 rfl rfl rfl rfl rfl rfl ?_
    refine v_nil ⟨again_nil, ?_⟩
    refine d_nil ?_
    refine q_bn ?_
    refine q_n ?_
    refine w_reg rfl ?_
    refine v_add lay3 rfl rfl (i64r (by omega)) ?_
    refine v_move rfl ?_
    refine v_nil ?_
    refine q_n ?_
    refine ⟨_, _, _, ?_, ⟨i + 1, rfl, by omega, rfl, rfl⟩, by omega⟩
    exact turn [some 0, some 1, some 2, some 3, some 10, some 11, some 12, some 13, some 8] rfl rfl rfl ⟨⟨_, rfl, .cons tr_v (.cons tr_sl .nil)⟩, ⟨_, rfl, .cons tr_v (.cons tr_v (.cons tr_v (.cons tr_v (.cons tr_v .nil))))⟩, ⟨_, rfl, .cons tr_v (.cons tr_sl .nil)⟩, ⟨_, rfl, .cons (tr_mun rfl (by first | rfl | (simp; done) | (simp; omega) | (rw [bg_l (by omega)]))) (.cons (tr_mun rfl (by first | rfl | (simp; done) | (simp; omega) | (rw [bg_l (by omega)]))) (.cons (tr_mun rfl (by first | rfl | (simp; done) | (simp; omega) | (rw [bg_l (by omega)]))) (.cons (tr_mun rfl (by first | rfl | (simp; done) | (simp; omega) | (rw [bg_l (by omega)]))) (.cons (tr_mun rfl (by first | rfl | (simp; done) | (simp; omega) | (rw [bg_l (by omega)]))) (.cons tr_v (.cons tr_sl .nil))))))⟩, ⟨_, rfl, trc_flat pe_sc (congrArg (flat pe) (bg_step (by omega)))⟩, ⟨_, rfl, trc_flat pe_sc (congrArg (flat pe) (bg_step (by omega)))⟩, ⟨_, rfl, trc_flat pe_sc (congrArg (flat pe) (bg_step (by omega)))⟩, ⟨_, rfl, trc_flat int_sc (congrArg (flat int) (List.replicate_succ').symm)⟩, ⟨_, rfl, .nil⟩, trivial⟩ ⟨tr_pt rfl, tr_sl, tr_v, tr_v, trivial⟩
  refine v_nil ?_
  refine q_n ?_
  refine w_seq ?_
  refine w_f rfl ?_
  refine w_exit ?_
  refine q_e ?_
  refine q_e ?_
  refine q_hit ?_
  refine q_n ?_
  refine w_seq ?_
  refine w_reg rfl ?_
  refine v_move rfl ?_
  refine v_assign rfl ?_
  refine v_nil ?_
  refine q_n ?_
  refine w_ret ?_
  refine r_r rfl ?_
  refine v_assign rfl ?_
  refine v_assign (c := .v (.int .i64 0)) rfl ?_
  refine v_nil ?_
  refine q_n ?_
  refine w_seq ?_
  refine w_seq ?_
  refine w_reg rfl ?_
  refine v_move rfl ?_
  refine v_len_sl lay41 rfl ?_
  refine v_move (c := .v (.int .i64 0)) rfl ?_
  refine v_nil ?_
  refine q_n ?_
  refine w_block ?_
  refine w_loop (fun k sl H => ∃ (i : Nat) (b : Bd) (cs : List Int), k = ds.length - i ∧ i ≤ ds.length ∧ stB p fs ds i = (b, cs) ∧ okB fs.length i b ∧ cs.length = i ∧ sl = sls [(6, .c (.pt 2 0)), (7, cI (cz cs)), (12, .c (dcs false ds)), (13, cI ds.length), (14, cI i)] ∧ H = [⟨cen false p fs, 33, true⟩, ⟨[.v (.slice none 0 0), .v (.slice none 0 0), .v (.slice none 0 0), .v (.slice none 0 0), .v (.slice none 0 0)], 64, true⟩, ⟨[.mu 3 0 b.nw.length 2, .mu 4 0 b.ps.length 2, .mu 5 0 b.sv.length 2, .mu 6 0 b.kn.length 1, .mu 7 0 b.wr.length 4, .v (.int .i64 p), ints false fs], 94, true⟩, ⟨flat pe b.nw, 46, true⟩, ⟨flat pe b.ps, 46, true⟩, ⟨flat pe b.sv, 46, true⟩, ⟨flat int b.kn, 2, true⟩, ⟨flat nce b.wr, 101, true⟩]) ?_ ?_
  · have hok5 := (ok_0 fs).wr
    obtain rfl : i = fs.length := by omega
    refine ⟨_, _, _, ?_, 0, ⟨bg fs fs.length, bg fs fs.length, bg fs fs.length, List.replicate fs.length 0, []⟩, [], rfl, Nat.zero_le _, rfl, ok_0 fs, rfl, rfl, rfl⟩
    exact turn [some 0, some 1, some 3, some 4, some 5, some 6, some 7, some 8] rfl rfl rfl ⟨⟨_, rfl, .cons tr_v (.cons tr_sl .nil)⟩, ⟨_, rfl, .cons tr_v (.cons tr_v (.cons tr_v (.cons tr_v (.cons tr_v .nil))))⟩, ⟨_, rfl, .cons (tr_mun rfl (by first | rfl | (simp; done) | (simp; omega) | (rw [bg_l (by omega)]))) (.cons (tr_mun rfl (by first | rfl | (simp; done) | (simp; omega) | (rw [bg_l (by omega)]))) (.cons (tr_mun rfl (by first | rfl | (simp; done) | (simp; omega) | (rw [bg_l (by omega)]))) (.cons (tr_mun rfl (by first | rfl | (simp; done) | (simp; omega) | (rw [bg_l (by omega)]))) (.cons (tr_mun rfl (by first | rfl | (simp; done) | (simp; omega) | (rw [bg_l (by omega)]))) (.cons tr_v (.cons tr_sl .nil))))))⟩, ⟨_, rfl, trc_flat pe_sc rfl⟩, ⟨_, rfl, trc_flat pe_sc rfl⟩, ⟨_, rfl, trc_flat pe_sc rfl⟩, ⟨_, rfl, trc_flat int_sc rfl⟩, ⟨_, rfl, .nil⟩, trivial⟩ ⟨tr_pt rfl, (tr_i rfl), tr_sl, tr_v, tr_v, trivial⟩
  rintro k sl H ⟨i, b, cs, rfl, hi, hst, hok, hcl, rfl, rfl⟩
  have hcz := cz_len cs
  refine w_seq ?_
  refine w_reg rfl ?_
  refine v_lss lay3 rfl rfl (fun h4 => ?_) (fun h4 => ?_)
  rotate_left
  · refine v_nil ?_
    refine q_n ?_
    refine w_seq ?_
    refine w_f rfl ?_
    refine w_exit ?_
    refine q_e ?_
    refine q_e ?_
    refine q_hit ?_
    refine q_n ?_
    refine w_seq ?_
    refine w_reg rfl ?_
    refine v_move rfl ?_
    refine v_move rfl ?_
    refine v_assign rfl ?_
    refine v_assign rfl ?_
    refine v_nil ?_
    refine q_n ?_
    refine w_ret ?_
    refine r_r rfl ?_
    refine v_move_t rfl ?_
    refine v_extract_c rfl rfl ?_
    refine v_extract_c rfl rfl ?_
    refine v_assign rfl ?_
    refine v_assign rfl ?_
    refine v_nil ?_
    refine q_n ?_
    refine w_seq ?_
    refine w_reg rfl ?_
    refine v_move rfl ?_
    refine v_move rfl ?_
    refine v_nil_pt rfl ?_
    refine v_fa_pt (off' := 0) lay94 rfl rfl rfl ?_
    refine v_fa_pt (off' := 4) lay64 rfl rfl rfl ?_
    refine v_load_pt (.c _) lay62 rfl rfl rfl rfl ?_
    refine v_live1 (N := 8) (H' := [_, _, _, _, _, _, _, _, _]) (c71l b.wr (by have := hok.wr; omega)) (sc_flat nce_sc _) rfl rfl rfl rfl rfl rfl (.cons (vw_mu2 nce_sc nce_len rfl (by first | rfl | (simp; done) | (simp; omega))) .nil) ?_
    refine v_nil_pt rfl ?_
    refine v_fa_pt (off' := 0) lay94 rfl rfl rfl ?_
    refine v_fa_pt (off' := 4) lay64 rfl rfl rfl ?_
    refine v_store (H' := [_, _, ⟨[_, _, _, _, _, _, _], 94, true⟩, _, _, _, _, _, _]) lay62 rfl rfl rfl rfl rfl rfl ?_
    refine v_nil ?_
    refine q_n ?_
    refine w_seq ?_
    refine w_reg rfl ?_
    refine v_move rfl ?_
    refine v_nil_pt rfl ?_
    refine v_fa_pt (off' := 0) lay94 rfl rfl rfl ?_
    refine v_load_pt (.agg [_, _, _, _, _]) lay64 rfl rfl rfl rfl ?_
    refine v_move rfl ?_
    refine v_store (H' := [_, ⟨[_, _, _, _, _], 64, true⟩, _, _, _, _, _, _, _]) lay64 rfl rfl rfl rfl rfl rfl ?_
    refine v_assign rfl ?_
    refine v_assign (c := .v (.int .i64 0)) rfl ?_
    refine v_nil ?_
    refine q_n ?_
    refine w_ret ?_
    refine r_r rfl ?_
    obtain rfl : i = ds.length := by omega
    rw [bo_of hg, hst]
    exact l_ans [some 3, some 4, some 5, some 6, some 8] rfl rfl ⟨⟨_, rfl, trc_flat pe_sc rfl⟩, ⟨_, rfl, trc_flat pe_sc rfl⟩, ⟨_, rfl, trc_flat pe_sc rfl⟩, ⟨_, rfl, trc_flat int_sc rfl⟩, ⟨_, rfl, trc_flat nce_sc rfl⟩, trivial⟩ (a_tup (.cons (tr_agg (.cons (tr_mu rfl) (.cons (tr_mu rfl) (.cons (tr_mu rfl) (.cons (tr_mu rfl) (.cons (tr_mu rfl) .nil)))))) (.cons tr_v (.cons tr_v .nil))))
  have hi1 : i < ds.length := by omega
  have hd : dOk ds[i] := hds _ (List.getElem_mem hi1)
  have hd1 := hd.1
  obtain ⟨a, ha⟩ : ∃ a : Nat, ds[i].2.1 = a := Int.eq_ofNat_of_zero_le hd.2.1.1
  have ha9 : a ≤ 999 := by have hd2 := hd.2.1.2; omega
  have n1 := hok.nw
  have n2 := hok.ps
  have n3 := hok.sv
  have n4 := hok.kn
  have n5 := hok.wr
  refine v_nil ?_
  refine q_n ?_
  refine w_seq ?_
  refine w_t rfl ?_
  refine w_skip ?_
  refine q_n ?_
  refine w_seq ?_
  refine w_block ?_
  refine w_seq ?_
  refine w_reg rfl ?_
  refine v_idx_e (k := 3) (i) dce_len lay41 lay25 rfl rfl rfl (rfl) rfl (rfl) (by omega) ?_
  refine v_load_vw (.agg [.v _, .v _, .v _]) lay25 rfl rfl rfl ?_
  refine v_alloc (m := 8) (H' := [_, _, _, _, _, _, _, _, ⟨[.v _, .v _, .v _], 25, true⟩]) lay25 rfl rfl ?_
  refine v_store (H' := [_, _, _, _, _, _, _, _, ⟨[_, _, _], 25, true⟩]) lay25 rfl rfl rfl rfl rfl rfl ?_
  refine v_nil ?_
  refine q_n ?_
  refine w_seq ?_
  refine w_reg rfl ?_
  refine v_move rfl ?_
  refine v_load_pt (.agg [_, _, _]) lay25 rfl rfl rfl rfl ?_
  refine v_inl (n := 133) (drawD_ok X) (fun _ _ => Go.Proofs.Try.call62 _ _) Go.Proofs.Try.func62 rfl rfl rfl rfl ?_
  refine w_seq ?_
  refine w_reg rfl ?_
  refine v_box (m := 9) (H' := [_, _, _, _, _, _, _, _, _, _]) lay25 rfl rfl rfl ?_
  refine v_assign (c := .v (.int .i64 0)) rfl ?_
  refine v_nil ?_
  refine q_n ?_
  refine w_seq ?_
  refine w_seq ?_
  refine w_reg rfl ?_
  refine v_move rfl ?_
  refine v_load_pt (.agg [_, _, _]) lay25 rfl rfl rfl rfl ?_
  refine v_call (c90 p fs b _ a ha (by assumption) (by omega) (by omega)) rfl rfl rfl (.cons (vw_pt rfl (.cons (dn_flat pe_sc pe_len rfl trivial rfl) (.cons (dn_flat pe_sc pe_len rfl trivial rfl) (.cons (dn_flat pe_sc pe_len rfl trivial rfl) (.cons (dn_flat int_sc int_len rfl trivial rfl) (.cons (dn_flat nce_sc nce_len rfl trivial rfl) (.cons .v (.cons (.sl (fun h => by cases h)) .nil)))))))) (.cons (vw_agg (.cons vw_v (.cons vw_v (.cons vw_v .nil)))) .nil)) ?_
  refine v_assign rfl ?_
  refine v_nil ?_
  refine q_n ?_
  refine w_seq ?_
  refine w_reg rfl ?_
  refine v_move rfl ?_
  refine v_neq lay2 rfl rfl (fun h6 => ?_) (fun h6 => ?_)
  · have hcne := h6
    refine v_nil ?_
    refine q_n ?_
    refine w_t rfl ?_
    refine w_seq ?_
    refine w_reg rfl ?_
    refine v_move rfl ?_
    refine v_assign rfl ?_
    refine v_nil ?_
    refine q_n ?_
    refine w_ret (q_r ?_)
    refine r_r rfl ?_
    refine v_eql lay2 rfl rfl (fun h7 => ?_) (fun h7 => ?_)
    · exact absurd h7 hcne
    refine v_nil ?_
    refine q_n ?_
    refine w_f rfl ?_
    refine w_skip ?_
    refine q_bn ?_
    refine q_n ?_
    refine w_reg rfl ?_
    refine v_add lay3 rfl rfl (i64r (by omega)) ?_
    refine v_move rfl ?_
    refine v_nil ?_
    refine q_n ?_
    have hdo : doB p b ds[i] = (b, (doB p b ds[i]).2) := (Prod.ext (do_bad hcne) rfl)
    refine ⟨_, _, _, ?_, ⟨i + 1, b, cs ++ [(doB p b ds[i]).2], rfl, by omega, st_step hst hi1 hdo, ok_do hok hd hdo, by simp; omega, rfl, rfl⟩, by omega⟩
    exact turn [some 0, some 1, some 2, some 3, some 4, some 5, some 6, some 7] rfl rfl rfl ⟨⟨_, rfl, .cons tr_v (.cons tr_sl .nil)⟩, ⟨_, rfl, .cons tr_v (.cons tr_v (.cons tr_v (.cons tr_v (.cons tr_v .nil))))⟩, ⟨_, rfl, .cons (tr_mun rfl (by first | rfl | (simp; done) | (simp; omega) | (rw [bg_l (by omega)]))) (.cons (tr_mun rfl (by first | rfl | (simp; done) | (simp; omega) | (rw [bg_l (by omega)]))) (.cons (tr_mun rfl (by first | rfl | (simp; done) | (simp; omega) | (rw [bg_l (by omega)]))) (.cons (tr_mun rfl (by first | rfl | (simp; done) | (simp; omega) | (rw [bg_l (by omega)]))) (.cons (tr_mun rfl (by first | rfl | (simp; done) | (simp; omega) | (rw [bg_l (by omega)]))) (.cons tr_v (.cons tr_sl .nil))))))⟩, ⟨_, rfl, trc_flat pe_sc rfl⟩, ⟨_, rfl, trc_flat pe_sc rfl⟩, ⟨_, rfl, trc_flat pe_sc rfl⟩, ⟨_, rfl, trc_flat int_sc rfl⟩, ⟨_, rfl, trc_flat nce_sc rfl⟩, trivial⟩ ⟨tr_pt rfl, (tr_i (cz_ne hcne)), tr_sl, tr_v, tr_v, trivial⟩
  obtain ⟨e1, e2, e3, e4, e5⟩ := cd0 ha h6
  refine v_nil ?_
  refine q_n ?_
  refine w_f rfl ?_
  refine w_skip ?_
  refine q_n ?_
  refine w_seq ?_
  refine w_seq ?_
  refine w_reg rfl ?_
  refine v_fa_pt (off' := 0) lay25 rfl rfl rfl ?_
  refine v_load_pt (.c _) lay2 rfl rfl rfl rfl ?_
  refine v_nil ?_
  refine q_n ?_
  refine w_block ?_
  refine w_seq ?_
  refine w_reg rfl ?_
  refine v_eql lay2 rfl rfl (fun h8 => ?_) (fun h8 => ?_)
  · have hk1 := h8
    have k2 : a < b.ps.length := e3 (by omega)
    have k1 : a < b.nw.length := by omega
    have k3 : a < b.sv.length := by omega
    have hve := hok.ve _ (List.getElem_mem k1)
    refine v_assign rfl ?_
    refine v_nil ?_
    refine q_n ?_
    refine w_t rfl ?_
    refine w_draw [0, 1, 3, 7, 15, 0, 32, 0, 128, 0, 512, 1536, 3584, 7680, 0, 16384, 65024, 130560, 261632, 523776, 1048448, 2097151, 4194303] [⟨0, 0, []⟩, ⟨1, 0, []⟩, ⟨2, 0, []⟩, ⟨3, 0, []⟩, ⟨4, 0, []⟩, ⟨5, 0, []⟩, ⟨6, 0, []⟩, ⟨7, 0, []⟩, ⟨8, 0, []⟩, ⟨9, 0, []⟩, ⟨10, 0, []⟩, ⟨11, 0, []⟩, ⟨12, 0, []⟩, ⟨13, 0, []⟩, ⟨14, 0, []⟩, ⟨15, 0, []⟩, ⟨16, 0, []⟩, ⟨17, 0, []⟩, ⟨18, 0, []⟩, ⟨19, 0, []⟩, ⟨20, 0, []⟩, ⟨21, 0, []⟩, ⟨22, 1, []⟩] rfl rfl ?_
    refine d_q rfl rfl rfl rfl rfl ?_
    refine v_move rfl ?_
    refine v_nil ?_
    refine d_q rfl rfl rfl rfl rfl ?_
    refine v_nil_pt rfl ?_
    refine v_nil ?_
    refine d_q rfl rfl rfl rfl rfl ?_
    refine v_fa_pt (off' := 0) lay94 rfl rfl rfl ?_
    refine v_nil ?_
    refine d_q rfl rfl rfl rfl rfl ?_
    refine v_fa_pt (off' := 0) lay64 rfl rfl rfl ?_
    refine v_nil ?_
    refine d_q rfl rfl rfl rfl rfl ?_
    refine v_load_pt (.c _) lay61 rfl rfl rfl rfl ?_
    refine v_nil ?_
    refine d_q rfl rfl rfl rfl rfl ?_
    refine v_fa_pt (off' := 1) lay25 rfl rfl rfl ?_
    refine v_nil ?_
    refine d_q rfl rfl rfl rfl rfl ?_
    refine v_load_pt (.c _) lay2 rfl rfl rfl rfl ?_
    refine v_nil ?_
    refine d_q rfl rfl rfl rfl rfl ?_
    refine v_fa_pt (off' := 2) lay25 rfl rfl rfl ?_
    refine v_nil ?_
    refine d_q rfl rfl rfl rfl rfl ?_
    refine v_load_pt (.c _) lay2 rfl rfl rfl rfl ?_
    refine v_nil ?_
    refine d_q rfl rfl rfl rfl rfl ?_
    refine v_move rfl ?_
    refine v_nil ?_
    refine d_q rfl rfl rfl rfl rfl ?_
    refine v_nil_pt rfl ?_
    refine v_nil ?_
    refine d_q rfl rfl rfl rfl rfl ?_
    refine v_fa_pt (off' := 0) lay94 rfl rfl rfl ?_
    refine v_nil ?_
    refine d_q rfl rfl rfl rfl rfl ?_
    refine v_fa_pt (off' := 0) lay64 rfl rfl rfl ?_
    refine v_nil ?_
    refine d_q rfl rfl rfl rfl rfl ?_
    refine v_load_pt (.c _) lay61 rfl rfl rfl rfl ?_
    refine v_nil ?_
    refine d_q rfl rfl rfl rfl rfl ?_
    refine v_fa_pt (off' := 1) lay25 rfl rfl rfl ?_
    refine v_nil ?_
    refine d_q rfl rfl rfl rfl rfl ?_
    refine v_load_pt (.c _) lay2 rfl rfl rfl rfl ?_
    refine v_nil ?_
    refine d_q rfl rfl rfl rfl rfl ?_
    refine v_idx_mu_e (k := 2) (off := 0) (a) lay61 lay46 rfl rfl rfl (ha) (by omega) ?_
    refine v_nil ?_
    refine d_q rfl rfl rfl rfl rfl ?_
    refine v_fa_pt (off' := _) lay46 rfl rfl rfl ?_
    refine v_nil ?_
    refine d_q rfl rfl rfl rfl rfl ?_
    refine v_load_flat a 1 (.c (.v _)) pe_len lay2 rfl rfl (by omega) (by first | omega | (simp; omega)) rfl rfl ?_
    refine v_nil ?_
    refine d_q rfl rfl rfl rfl rfl ?_
    refine v_add lay2 rfl rfl (i64r (by omega)) ?_
    refine v_nil ?_
    refine d_q rfl rfl rfl rfl rfl ?_
    refine v_build [(0, 1), (1, 1)] [.v _, .v _] lay46 rfl rfl ?_
    refine v_nil ?_
    refine d_q rfl rfl rfl rfl rfl ?_
    refine v_idx_mu_e (k := 2) (off := 0) (a) lay61 lay46 rfl rfl rfl (ha) (by omega) ?_
    refine v_nil ?_
    refine d_e rfl rfl rfl ?_
    refine v_store_flat (H' := [_, _, _, _, _, _, _, _, _, _]) a 0 ((ds[i].2.2, b.nw[a].2 + 1)) pe_len lay46 rfl rfl rfl (by omega) (by first | omega | (simp; omega)) rfl rfl (rfl) rfl ?_
    refine v_nil ⟨again_nil, ?_⟩
    refine d_nil ?_
    refine q_bn ?_
    refine q_n ?_
    refine w_seq ?_
    refine w_reg rfl ?_
    refine v_assign (c := .v (.int .i64 0)) rfl ?_
    refine v_nil ?_
    refine q_n ?_
    refine w_ret ?_
    refine r_r rfl ?_
    refine v_eql lay2 rfl rfl (fun h11 => ?_) (fun h11 => ?_)
    rotate_left
    · exact absurd (by decide) h11
    refine v_nil ?_
    refine q_n ?_
    refine w_t rfl ?_
    refine w_reg rfl ?_
    refine v_move rfl ?_
    refine v_add lay2 rfl rfl (i64r (by omega)) ?_
    refine v_assign rfl ?_
    refine v_nil ?_
    refine q_bn ?_
    refine q_n ?_
    refine w_reg rfl ?_
    refine v_add lay3 rfl rfl (i64r (by omega)) ?_
    refine v_move rfl ?_
    refine v_nil ?_
    refine q_n ?_
    have hdo : doB p b ds[i] = ({ b with nw := b.nw.set a (ds[i].2.2, b.nw[a].2 + 1) }, 0) := do_order hk1 ha k2 k1 (e4 hk1)
    refine ⟨_, _, _, ?_, ⟨i + 1, { b with nw := b.nw.set a (ds[i].2.2, b.nw[a].2 + 1) }, cs ++ [0], rfl, by omega, st_step hst hi1 hdo, ok_do hok hd hdo, by simp; omega, rfl, rfl⟩, by omega⟩
    exact turn [some 0, some 1, some 2, some 3, some 4, some 5, some 6, some 7] rfl rfl rfl ⟨⟨_, rfl, .cons tr_v (.cons tr_sl .nil)⟩, ⟨_, rfl, .cons tr_v (.cons tr_v (.cons tr_v (.cons tr_v (.cons tr_v .nil))))⟩, ⟨_, rfl, .cons (tr_mun rfl (by first | rfl | (simp; done) | (simp; omega) | (rw [bg_l (by omega)]))) (.cons (tr_mun rfl (by first | rfl | (simp; done) | (simp; omega) | (rw [bg_l (by omega)]))) (.cons (tr_mun rfl (by first | rfl | (simp; done) | (simp; omega) | (rw [bg_l (by omega)]))) (.cons (tr_mun rfl (by first | rfl | (simp; done) | (simp; omega) | (rw [bg_l (by omega)]))) (.cons (tr_mun rfl (by first | rfl | (simp; done) | (simp; omega) | (rw [bg_l (by omega)]))) (.cons tr_v (.cons tr_sl .nil))))))⟩, ⟨_, rfl, trc_flat pe_sc rfl⟩, ⟨_, rfl, trc_flat pe_sc rfl⟩, ⟨_, rfl, trc_flat pe_sc rfl⟩, ⟨_, rfl, trc_flat int_sc rfl⟩, ⟨_, rfl, trc_flat nce_sc rfl⟩, trivial⟩ ⟨tr_pt rfl, (tr_i (cz_eq rfl)), tr_sl, tr_v, tr_v, trivial⟩
  refine v_assign rfl ?_
  refine v_nil ?_
  refine q_n ?_
  refine w_f rfl ?_
  refine w_seq ?_
  refine w_reg rfl ?_
  refine v_eql lay2 rfl rfl (fun h12 => ?_) (fun h12 => ?_)
  · have hk2 := h12
    have k2 : a < b.ps.length := e3 (by omega)
    have k1 : a < b.nw.length := by omega
    have k3 : a < b.sv.length := by omega
    have hve := hok.ve _ (List.getElem_mem k1)
    refine v_assign rfl ?_
    refine v_nil ?_
    refine q_n ?_
    refine w_t rfl ?_
    refine w_seq ?_
    refine w_draw [0, 1, 3, 7, 15, 0, 32, 127, 255, 0, 1023] [⟨0, 0, []⟩, ⟨1, 0, []⟩, ⟨2, 0, []⟩, ⟨3, 0, []⟩, ⟨4, 0, []⟩, ⟨5, 0, []⟩, ⟨6, 0, []⟩, ⟨7, 0, []⟩, ⟨8, 0, []⟩, ⟨9, 1, [4, 6, 8]⟩, ⟨10, 1, []⟩] rfl rfl ?_
    refine d_q rfl rfl rfl rfl rfl ?_
    refine v_move rfl ?_
    refine v_nil ?_
    refine d_q rfl rfl rfl rfl rfl ?_
    refine v_nil_pt rfl ?_
    refine v_nil ?_
    refine d_q rfl rfl rfl rfl rfl ?_
    refine v_fa_pt (off' := 0) lay94 rfl rfl rfl ?_
    refine v_nil ?_
    refine d_q rfl rfl rfl rfl rfl ?_
    refine v_fa_pt (off' := 0) lay64 rfl rfl rfl ?_
    refine v_nil ?_
    refine d_q rfl rfl rfl rfl rfl ?_
    refine v_load_pt (.c _) lay61 rfl rfl rfl rfl ?_
    refine v_nil ?_
    refine d_q rfl rfl rfl rfl rfl ?_
    refine v_fa_pt (off' := 1) lay25 rfl rfl rfl ?_
    refine v_nil ?_
    refine d_q rfl rfl rfl rfl rfl ?_
    refine v_load_pt (.c _) lay2 rfl rfl rfl rfl ?_
    refine v_nil ?_
    refine d_q rfl rfl rfl rfl rfl ?_
    refine v_idx_mu_e (k := 2) (off := 0) (a) lay61 lay46 rfl rfl rfl (ha) (by omega) ?_
    refine v_nil ?_
    refine d_q rfl rfl rfl rfl rfl ?_
    refine v_load_flat a 0 (.agg [.v _, .v _]) pe_len lay46 rfl rfl (by omega) (by first | omega | (simp; omega)) rfl rfl ?_
    refine v_nil ?_
    refine d_e rfl rfl rfl ?_
    refine v_alloc (m := 10) (H' := [_, _, _, _, _, _, _, _, _, _, ⟨[.v _, .v _], 46, true⟩]) lay46 rfl rfl ?_
    refine v_nil ⟨⟨ag_load_flat a 0 (.agg [.v _, .v _]) pe_len lay46 rfl rfl (by omega) (by first | omega | (simp; omega)) rfl rfl, ⟨ag_load_pt (.c _) lay2 rfl rfl rfl rfl, ⟨ag_load_pt (.c _) lay61 rfl rfl rfl rfl, trivial⟩⟩⟩, ?_⟩
    refine d_e rfl rfl rfl ?_
    refine v_store (H' := [_, _, _, _, _, _, _, _, _, _, ⟨[_, _], 46, true⟩]) lay46 rfl rfl rfl rfl rfl rfl ?_
    refine v_nil ⟨again_nil, ?_⟩
    refine d_nil ?_
    refine q_n ?_
    refine w_draw [0, 0, 2, 6, 14, 30, 0, 64, 0, 256, 0, 1024, 4032, 8128, 16382, 32767, 65535, 131071, 262143] [⟨0, 0, []⟩, ⟨1, 0, []⟩, ⟨2, 0, []⟩, ⟨3, 0, []⟩, ⟨4, 0, []⟩, ⟨5, 0, []⟩, ⟨6, 0, []⟩, ⟨7, 0, []⟩, ⟨8, 0, []⟩, ⟨9, 0, []⟩, ⟨10, 0, []⟩, ⟨11, 0, []⟩, ⟨12, 0, []⟩, ⟨13, 2, []⟩, ⟨14, 1, []⟩, ⟨15, 0, []⟩, ⟨16, 0, []⟩, ⟨17, 0, []⟩, ⟨18, 1, []⟩] rfl rfl ?_
    refine d_q rfl rfl rfl rfl rfl ?_
    refine v_move rfl ?_
    refine v_nil ?_
    refine d_q rfl rfl rfl rfl rfl ?_
    refine v_move rfl ?_
    refine v_nil ?_
    refine d_q rfl rfl rfl rfl rfl ?_
    refine v_nil_pt rfl ?_
    refine v_nil ?_
    refine d_q rfl rfl rfl rfl rfl ?_
    refine v_fa_pt (off' := 0) lay94 rfl rfl rfl ?_
    refine v_nil ?_
    refine d_q rfl rfl rfl rfl rfl ?_
    refine v_fa_pt (off' := 4) lay64 rfl rfl rfl ?_
    refine v_nil ?_
    refine d_q rfl rfl rfl rfl rfl ?_
    refine v_load_pt (.c _) lay62 rfl rfl rfl rfl ?_
    refine v_nil ?_
    refine d_q rfl rfl rfl rfl rfl ?_
    refine v_fa_pt (off' := 1) lay25 rfl rfl rfl ?_
    refine v_nil ?_
    refine d_q rfl rfl rfl rfl rfl ?_
    refine v_load_pt (.c _) lay2 rfl rfl rfl rfl ?_
    refine v_nil ?_
    refine d_q rfl rfl rfl rfl rfl ?_
    refine v_fa_pt (off' := 0) lay46 rfl rfl rfl ?_
    refine v_nil ?_
    refine d_q rfl rfl rfl rfl rfl ?_
    refine v_load_pt (.c _) lay2 rfl rfl rfl rfl ?_
    refine v_nil ?_
    refine d_q rfl rfl rfl rfl rfl ?_
    refine v_fa_pt (off' := 1) lay46 rfl rfl rfl ?_
    refine v_nil ?_
    refine d_q rfl rfl rfl rfl rfl ?_
    refine v_load_pt (.c _) lay2 rfl rfl rfl rfl ?_
    refine v_nil ?_
    refine d_q rfl rfl rfl rfl rfl ?_
    refine v_build [(0, 1), (1, 1), (2, 1), (3, 1)] [.v _, .v _, .v _, .v _] lay101 rfl rfl ?_
    refine v_nil ?_
    refine d_z (.c (.sl true 1 4 (flat nce [(false, ds[i].2.1, b.nw[a].1, b.nw[a].2)]))) rfl rfl rfl ?_
    refine d_e rfl rfl rfl ?_
    refine v_app_flat_sl (H' := [_, _, _, _, _, _, _, _, _, _, _, _]) nce_sc nce_len lay62 lay101 rfl rfl (by first | rfl | (simp; done) | (simp; omega) | omega | (rw [bg_l (by omega)])) rfl rfl rfl (by unfold maxLen; simp only []; omega) rfl rfl ?_
    refine v_nil ⟨again_nil, ?_⟩
    refine d_q rfl rfl rfl rfl rfl ?_
    refine v_nil_pt rfl ?_
    refine v_nil ?_
    refine d_q rfl rfl rfl rfl rfl ?_
    refine v_fa_pt (off' := 0) lay94 rfl rfl rfl ?_
    refine v_nil ?_
    refine d_q rfl rfl rfl rfl rfl ?_
    refine v_fa_pt (off' := 4) lay64 rfl rfl rfl ?_
    refine v_nil ?_
    refine d_e rfl rfl rfl ?_
    refine v_store (H' := [_, _, ⟨[_, _, _, _, _, _, _], 94, true⟩, _, _, _, _, _, _, _, _, _]) lay62 rfl rfl rfl rfl rfl rfl ?_
    refine v_nil ⟨again_nil, ?_⟩
    refine d_nil ?_
    refine q_bn ?_
    refine q_n ?_
    refine w_seq ?_
    refine w_reg rfl ?_
    refine v_assign (c := .v (.int .i64 0)) rfl ?_
    refine v_nil ?_
    refine q_n ?_
    refine w_ret ?_
    refine r_r rfl ?_
    refine v_eql lay2 rfl rfl (fun h14 => ?_) (fun h14 => ?_)
    rotate_left
    · exact absurd (by decide) h14
    refine v_nil ?_
    refine q_n ?_
    refine w_t rfl ?_
    refine w_reg rfl ?_
    refine v_move rfl ?_
    refine v_add lay2 rfl rfl (i64r (by omega)) ?_
    refine v_assign rfl ?_
    refine v_nil ?_
    refine q_bn ?_
    refine q_n ?_
    refine w_reg rfl ?_
    refine v_add lay3 rfl rfl (i64r (by omega)) ?_
    refine v_move rfl ?_
    refine v_nil ?_
    refine q_n ?_
    have hdo : doB p b ds[i] = ({ b with wr := b.wr ++ [(false, ds[i].2.1, b.nw[a].1, b.nw[a].2)] }, 0) := do_send hk2 ha k2 k1 (e5 hk2)
    refine ⟨_, _, _, ?_, ⟨i + 1, { b with wr := b.wr ++ [(false, ds[i].2.1, b.nw[a].1, b.nw[a].2)] }, cs ++ [0], rfl, by omega, st_step hst hi1 hdo, ok_do hok hd hdo, by simp; omega, rfl, rfl⟩, by omega⟩
    exact turn [some 0, some 1, some 2, some 3, some 4, some 5, some 6, some 11] rfl rfl rfl ⟨⟨_, rfl, .cons tr_v (.cons tr_sl .nil)⟩, ⟨_, rfl, .cons tr_v (.cons tr_v (.cons tr_v (.cons tr_v (.cons tr_v .nil))))⟩, ⟨_, rfl, .cons (tr_mun rfl (by first | rfl | (simp; done) | (simp; omega) | (rw [bg_l (by omega)]))) (.cons (tr_mun rfl (by first | rfl | (simp; done) | (simp; omega) | (rw [bg_l (by omega)]))) (.cons (tr_mun rfl (by first | rfl | (simp; done) | (simp; omega) | (rw [bg_l (by omega)]))) (.cons (tr_mun rfl (by first | rfl | (simp; done) | (simp; omega) | (rw [bg_l (by omega)]))) (.cons (tr_mun rfl (by first | rfl | (simp; done) | (simp; omega) | (rw [bg_l (by omega)]))) (.cons tr_v (.cons tr_sl .nil))))))⟩, ⟨_, rfl, trc_flat pe_sc rfl⟩, ⟨_, rfl, trc_flat pe_sc rfl⟩, ⟨_, rfl, trc_flat pe_sc rfl⟩, ⟨_, rfl, trc_flat int_sc rfl⟩, ⟨_, rfl, trc_flat nce_sc rfl⟩, trivial⟩ ⟨tr_pt rfl, (tr_i (cz_eq rfl)), tr_sl, tr_v, tr_v, trivial⟩
  refine v_assign rfl ?_
  refine v_nil ?_
  refine q_n ?_
  refine w_f rfl ?_
  refine w_seq ?_
  refine w_reg rfl ?_
  refine v_eql lay2 rfl rfl (fun h15 => ?_) (fun h15 => ?_)
  · have hk3 := h15
    have k4 : a < b.wr.length := e1 (by omega)
    obtain ⟨pn, hpn⟩ : ∃ pn : Nat, b.wr[a].2.1 = pn := Int.eq_ofNat_of_zero_le (hok.po _ (List.getElem_mem k4)).1
    have hp2 := (hok.po _ (List.getElem_mem k4)).2
    have k5 : pn < b.kn.length := by omega
    have k6 : pn < b.ps.length := by omega
    refine v_assign rfl ?_
    refine v_nil ?_
    refine q_n ?_
    refine w_t rfl ?_
    refine w_reg rfl ?_
    refine v_move rfl ?_
    refine v_move rfl ?_
    refine v_fa_pt (off' := 1) lay25 rfl rfl rfl ?_
    refine v_load_pt (.c _) lay2 rfl rfl rfl rfl ?_
    refine v_inl (n := 28) (drawD_ok X) (fun _ _ => Go.Proofs.Try.call92 _ _) Go.Proofs.Try.func92 rfl rfl rfl rfl ?_
    refine w_seq ?_
    refine w_reg rfl ?_
    refine v_alloc (m := 10) (H' := [_, _, _, _, _, _, _, _, _, _, ⟨[.v _, .v _, .v _, .v _], 101, true⟩]) lay101 rfl rfl ?_
    refine v_nil ?_
    refine q_n ?_
    refine w_seq ?_
    refine w_reg rfl ?_
    refine v_move rfl ?_
    refine v_nil_pt rfl ?_
    refine v_fa_pt (off' := 0) lay94 rfl rfl rfl ?_
    refine v_fa_pt (off' := 4) lay64 rfl rfl rfl ?_
    refine v_load_pt (.c _) lay62 rfl rfl rfl rfl ?_
    refine v_move rfl ?_
    refine v_idx_mu_e (k := 4) (off := 0) (a) lay62 lay101 rfl rfl rfl (ha) (by omega) ?_
    refine v_load_flat a 0 (.agg [.v _, .v _, .v _, .v _]) nce_len lay101 rfl rfl (by omega) (by first | omega | (simp; omega)) rfl rfl ?_
    refine v_alloc (m := 11) (H' := [_, _, _, _, _, _, _, _, _, _, _, ⟨[.v _, .v _, .v _, .v _], 101, true⟩]) lay101 rfl rfl ?_
    refine v_store (H' := [_, _, _, _, _, _, _, _, _, _, _, ⟨[_, _, _, _], 101, true⟩]) lay101 rfl rfl rfl rfl rfl rfl ?_
    refine v_nil ?_
    refine q_n ?_
    refine w_seq ?_
    refine w_reg rfl ?_
    refine v_move rfl ?_
    refine v_move rfl ?_
    refine v_nil_pt rfl ?_
    refine v_fa_pt (off' := 0) lay94 rfl rfl rfl ?_
    refine v_fa_pt (off' := 4) lay64 rfl rfl rfl ?_
    refine v_load_pt (.c _) lay62 rfl rfl rfl rfl ?_
    refine v_move rfl ?_
    refine v_move rfl ?_
    refine v_add lay3 rfl rfl (i64r (by omega)) ?_
    refine v_del (ys := b.wr) (i := a) (H' := [_, _, _, _, _, _, _, _, _, _, _, _, _]) rfl rfl (by omega) ha rfl rfl rfl rfl ?_
    refine v_nil_pt rfl ?_
    refine v_fa_pt (off' := 0) lay94 rfl rfl rfl ?_
    refine v_fa_pt (off' := 4) lay64 rfl rfl rfl ?_
    refine v_store (H' := [_, _, ⟨[_, _, _, _, _, _, _], 94, true⟩, _, _, _, _, _, _, _, _, _, _]) lay62 rfl rfl rfl rfl rfl rfl ?_
    refine v_nil ?_
    refine q_n ?_
    refine w_seq ?_
    refine w_reg rfl ?_
    refine v_load_pt (.agg [_, _, _, _]) lay101 rfl rfl rfl rfl ?_
    refine v_store (H' := [_, _, _, _, _, _, _, _, _, _, ⟨[_, _, _, _], 101, true⟩, _, _]) lay101 rfl rfl rfl rfl rfl rfl ?_
    refine v_nil ?_
    refine q_n ?_
    refine w_ret ?_
    refine r_r rfl ?_
    refine v_inl (n := 71) (drawD_ok X) (fun _ _ => Go.Proofs.Try.call91 _ _) Go.Proofs.Try.func91 rfl rfl rfl rfl ?_
    refine w_seq ?_
    refine w_reg rfl ?_
    refine v_box (m := 13) (H' := [_, _, _, _, _, _, _, _, _, _, _, _, _, _]) lay101 rfl rfl rfl ?_
    refine v_nil ?_
    refine q_n ?_
    refine w_seq ?_
    refine w_seq ?_
    refine w_reg rfl ?_
    refine v_fa_pt (off' := 0) lay101 rfl rfl rfl ?_
    refine v_load_ptb lay4 rfl rfl rfl rfl (fun h17 => ?_) (fun h17 => ?_)
    · have hbk := h17
      refine v_nil ?_
      refine q_n ?_
      refine w_t rfl ?_
      refine w_seq ?_
      refine w_draw [0, 1, 3, 7, 15, 0, 32, 0, 128, 384, 896, 1920, 0, 4096, 16256, 32640, 0, 65536, 262016, 524287, 1048575] [⟨0, 0, []⟩, ⟨1, 0, []⟩, ⟨2, 0, []⟩, ⟨3, 0, []⟩, ⟨4, 0, []⟩, ⟨5, 0, []⟩, ⟨6, 0, []⟩, ⟨7, 0, []⟩, ⟨8, 0, []⟩, ⟨9, 0, []⟩, ⟨10, 0, []⟩, ⟨11, 0, []⟩, ⟨12, 0, []⟩, ⟨13, 0, []⟩, ⟨14, 0, []⟩, ⟨15, 0, []⟩, ⟨16, 0, []⟩, ⟨17, 0, []⟩, ⟨18, 0, []⟩, ⟨19, 0, []⟩, ⟨20, 1, []⟩] rfl rfl ?_
      refine d_q rfl rfl rfl rfl rfl ?_
      refine v_move rfl ?_
      refine v_nil ?_
      refine d_q rfl rfl rfl rfl rfl ?_
      refine v_nil_pt rfl ?_
      refine v_nil ?_
      refine d_q rfl rfl rfl rfl rfl ?_
      refine v_fa_pt (off' := 0) lay94 rfl rfl rfl ?_
      refine v_nil ?_
      refine d_q rfl rfl rfl rfl rfl ?_
      refine v_fa_pt (off' := 3) lay64 rfl rfl rfl ?_
      refine v_nil ?_
      refine d_q rfl rfl rfl rfl rfl ?_
      refine v_load_pt (.c _) lay28 rfl rfl rfl rfl ?_
      refine v_nil ?_
      refine d_q rfl rfl rfl rfl rfl ?_
      refine v_fa_pt (off' := 1) lay101 rfl rfl rfl ?_
      refine v_nil ?_
      refine d_q rfl rfl rfl rfl rfl ?_
      refine v_load_pt (.c _) lay2 rfl rfl rfl rfl ?_
      refine v_nil ?_
      refine d_q rfl rfl rfl rfl rfl ?_
      refine v_move rfl ?_
      refine v_nil ?_
      refine d_q rfl rfl rfl rfl rfl ?_
      refine v_nil_pt rfl ?_
      refine v_nil ?_
      refine d_q rfl rfl rfl rfl rfl ?_
      refine v_fa_pt (off' := 0) lay94 rfl rfl rfl ?_
      refine v_nil ?_
      refine d_q rfl rfl rfl rfl rfl ?_
      refine v_fa_pt (off' := 3) lay64 rfl rfl rfl ?_
      refine v_nil ?_
      refine d_q rfl rfl rfl rfl rfl ?_
      refine v_load_pt (.c _) lay28 rfl rfl rfl rfl ?_
      refine v_nil ?_
      refine d_q rfl rfl rfl rfl rfl ?_
      refine v_fa_pt (off' := 1) lay101 rfl rfl rfl ?_
      refine v_nil ?_
      refine d_q rfl rfl rfl rfl rfl ?_
      refine v_load_pt (.c _) lay2 rfl rfl rfl rfl ?_
      refine v_nil ?_
      refine d_q rfl rfl rfl rfl rfl ?_
      refine v_idx_mu_e (k := 1) (off := 0) (pn) lay28 lay2 rfl rfl rfl (hpn) (by omega) ?_
      refine v_nil ?_
      refine d_q rfl rfl rfl rfl rfl ?_
      refine v_load_flat pn 0 (.c (.v _)) int_len lay2 rfl rfl (by omega) (by first | omega | (simp; omega)) rfl rfl ?_
      refine v_nil ?_
      refine d_q rfl rfl rfl rfl rfl ?_
      refine v_fa_pt (off' := 3) lay101 rfl rfl rfl ?_
      refine v_nil ?_
      refine d_q rfl rfl rfl rfl rfl ?_
      refine v_load_pt (.c _) lay2 rfl rfl rfl rfl ?_
      refine v_nil ?_
      refine d_q rfl rfl rfl rfl rfl ?_
      refine v_max rfl rfl ?_
      refine v_nil ?_
      refine d_q rfl rfl rfl rfl rfl ?_
      refine v_idx_mu_e (k := 1) (off := 0) (pn) lay28 lay2 rfl rfl rfl (hpn) (by omega) ?_
      refine v_nil ?_
      refine d_e rfl rfl rfl ?_
      refine v_store_flat (H' := [_, _, _, _, _, _, _, _, _, _, _, _, _, _]) pn 0 (mx b.kn[pn] b.wr[a].2.2.2) int_len lay2 rfl rfl rfl (by omega) (by first | omega | (simp; omega)) rfl rfl (rfl) rfl ?_
      refine v_nil ⟨again_nil, ?_⟩
      refine d_nil ?_
      refine q_n ?_
      refine w_ret (q_r ?_)
      refine r_r rfl ?_
      refine v_nil ?_
      refine q_bn ?_
      refine q_n ?_
      refine w_seq ?_
      refine w_reg rfl ?_
      refine v_assign (c := .v (.int .i64 0)) rfl ?_
      refine v_nil ?_
      refine q_n ?_
      refine w_ret ?_
      refine r_r rfl ?_
      refine v_eql lay2 rfl rfl (fun h20 => ?_) (fun h20 => ?_)
      rotate_left
      · exact absurd (by decide) h20
      refine v_nil ?_
      refine q_n ?_
      refine w_t rfl ?_
      refine w_reg rfl ?_
      refine v_move rfl ?_
      refine v_add lay2 rfl rfl (i64r (by omega)) ?_
      refine v_assign rfl ?_
      refine v_nil ?_
      refine q_bn ?_
      refine q_n ?_
      refine w_reg rfl ?_
      refine v_add lay3 rfl rfl (i64r (by omega)) ?_
      refine v_move rfl ?_
      refine v_nil ?_
      refine q_n ?_
      have hdo : doB p b ds[i] = ({ b with kn := b.kn.set pn (mx b.kn[pn] b.wr[a].2.2.2), wr := b.wr.take a ++ b.wr.drop (a + 1) }, 0) := do_deliver hk3 ha k4 (come_back (b := cutW b a) hbk hpn k5)
      refine ⟨_, _, _, ?_, ⟨i + 1, { b with kn := b.kn.set pn (mx b.kn[pn] b.wr[a].2.2.2), wr := b.wr.take a ++ b.wr.drop (a + 1) }, cs ++ [0], rfl, by omega, st_step hst hi1 hdo, ok_do hok hd hdo, by simp; omega, rfl, rfl⟩, by omega⟩
      exact turn [some 0, some 1, some 2, some 3, some 4, some 5, some 6, some 12] rfl rfl rfl ⟨⟨_, rfl, .cons tr_v (.cons tr_sl .nil)⟩, ⟨_, rfl, .cons tr_v (.cons tr_v (.cons tr_v (.cons tr_v (.cons tr_v .nil))))⟩, ⟨_, rfl, .cons (tr_mun rfl (by first | rfl | (simp; done) | (simp; omega) | (rw [bg_l (by omega)]))) (.cons (tr_mun rfl (by first | rfl | (simp; done) | (simp; omega) | (rw [bg_l (by omega)]))) (.cons (tr_mun rfl (by first | rfl | (simp; done) | (simp; omega) | (rw [bg_l (by omega)]))) (.cons (tr_mun rfl (by first | rfl | (simp; done) | (simp; omega) | (rw [bg_l (by omega)]))) (.cons (tr_mun rfl (by first | rfl | (simp; done) | (simp; omega) | (rw [bg_l (by omega)]))) (.cons tr_v (.cons tr_sl .nil))))))⟩, ⟨_, rfl, trc_flat pe_sc rfl⟩, ⟨_, rfl, trc_flat pe_sc rfl⟩, ⟨_, rfl, trc_flat pe_sc rfl⟩, ⟨_, rfl, trc_flat int_sc rfl⟩, ⟨_, rfl, trc_flat nce_sc rfl⟩, trivial⟩ ⟨tr_pt rfl, (tr_i (cz_eq rfl)), tr_sl, tr_v, tr_v, trivial⟩
    have hbk := h17
    refine v_nil ?_
    refine q_n ?_
    refine w_f rfl ?_
    refine w_skip ?_
    refine q_n ?_
    refine w_seq ?_
    refine w_draw [0, 1, 3, 7, 15, 0, 32, 127, 255] [⟨0, 0, []⟩, ⟨1, 0, []⟩, ⟨2, 0, []⟩, ⟨3, 0, []⟩, ⟨4, 0, []⟩, ⟨5, 0, []⟩, ⟨6, 0, []⟩, ⟨7, 0, []⟩, ⟨8, 0, []⟩] rfl rfl ?_
    refine d_q rfl rfl rfl rfl rfl ?_
    refine v_move rfl ?_
    refine v_nil ?_
    refine d_q rfl rfl rfl rfl rfl ?_
    refine v_nil_pt rfl ?_
    refine v_nil ?_
    refine d_q rfl rfl rfl rfl rfl ?_
    refine v_fa_pt (off' := 0) lay94 rfl rfl rfl ?_
    refine v_nil ?_
    refine d_q rfl rfl rfl rfl rfl ?_
    refine v_fa_pt (off' := 1) lay64 rfl rfl rfl ?_
    refine v_nil ?_
    refine d_q rfl rfl rfl rfl rfl ?_
    refine v_load_pt (.c _) lay61 rfl rfl rfl rfl ?_
    refine v_nil ?_
    refine d_q rfl rfl rfl rfl rfl ?_
    refine v_fa_pt (off' := 1) lay101 rfl rfl rfl ?_
    refine v_nil ?_
    refine d_q rfl rfl rfl rfl rfl ?_
    refine v_load_pt (.c _) lay2 rfl rfl rfl rfl ?_
    refine v_nil ?_
    refine d_q rfl rfl rfl rfl rfl ?_
    refine v_idx_mu_e (k := 2) (off := 0) (pn) lay61 lay46 rfl rfl rfl (hpn) (by omega) ?_
    refine v_nil ?_
    refine d_q rfl rfl rfl rfl rfl ?_
    refine v_assign rfl ?_
    refine v_nil ?_
    refine d_nil ?_
    refine q_n ?_
    refine w_seq ?_
    refine w_seq ?_
    refine w_draw [0, 1, 0, 4, 12, 28, 63] [⟨0, 0, []⟩, ⟨1, 0, []⟩, ⟨2, 0, []⟩, ⟨3, 0, []⟩, ⟨4, 0, []⟩, ⟨5, 0, []⟩, ⟨6, 0, []⟩] rfl rfl ?_
    refine d_q rfl rfl rfl rfl rfl ?_
    refine v_fa_pt (off' := 3) lay101 rfl rfl rfl ?_
    refine v_nil ?_
    refine d_q rfl rfl rfl rfl rfl ?_
    refine v_load_pt (.c _) lay2 rfl rfl rfl rfl ?_
    refine v_nil ?_
    refine d_q rfl rfl rfl rfl rfl ?_
    refine v_move rfl ?_
    refine v_nil ?_
    refine d_q rfl rfl rfl rfl rfl ?_
    refine v_nil_pt rfl ?_
    refine v_nil ?_
    refine d_q rfl rfl rfl rfl rfl ?_
    refine v_fa_pt (off' := _) lay46 rfl rfl rfl ?_
    refine v_nil ?_
    refine d_q rfl rfl rfl rfl rfl ?_
    refine v_load_flat pn 1 (.c (.v _)) pe_len lay2 rfl rfl (by omega) (by first | omega | (simp; omega)) rfl rfl ?_
    refine v_nil ?_
    refine d_q rfl rfl rfl rfl rfl ?_
    refine v_gtr lay2 rfl rfl (fun h22 => ?_) (fun h22 => ?_)
    rotate_left
    · have hnv := h22
      refine v_nil ?_
      refine d_nil ?_
      refine q_n ?_
      refine w_f rfl ?_
      refine w_skip ?_
      refine q_n ?_
      refine w_draw [0, 0, 2, 6, 14, 30, 0, 64, 0, 256, 768, 1792, 0, 4096, 12288, 28672, 65472, 131008, 262142, 524287, 1048575, 2097151, 4194303] [⟨0, 0, []⟩, ⟨1, 0, []⟩, ⟨2, 0, []⟩, ⟨3, 0, []⟩, ⟨4, 0, []⟩, ⟨5, 0, []⟩, ⟨6, 0, []⟩, ⟨7, 0, []⟩, ⟨8, 0, []⟩, ⟨9, 0, []⟩, ⟨10, 0, []⟩, ⟨11, 0, []⟩, ⟨12, 0, []⟩, ⟨13, 0, []⟩, ⟨14, 0, []⟩, ⟨15, 0, []⟩, ⟨16, 0, []⟩, ⟨17, 2, []⟩, ⟨18, 1, []⟩, ⟨19, 0, []⟩, ⟨20, 0, []⟩, ⟨21, 0, []⟩, ⟨22, 1, []⟩] rfl rfl ?_
      refine d_q rfl rfl rfl rfl rfl ?_
      refine v_move rfl ?_
      refine v_nil ?_
      refine d_q rfl rfl rfl rfl rfl ?_
      refine v_move rfl ?_
      refine v_nil ?_
      refine d_q rfl rfl rfl rfl rfl ?_
      refine v_nil_pt rfl ?_
      refine v_nil ?_
      refine d_q rfl rfl rfl rfl rfl ?_
      refine v_fa_pt (off' := 0) lay94 rfl rfl rfl ?_
      refine v_nil ?_
      refine d_q rfl rfl rfl rfl rfl ?_
      refine v_fa_pt (off' := 4) lay64 rfl rfl rfl ?_
      refine v_nil ?_
      refine d_q rfl rfl rfl rfl rfl ?_
      refine v_load_pt (.c _) lay62 rfl rfl rfl rfl ?_
      refine v_nil ?_
      refine d_q rfl rfl rfl rfl rfl ?_
      refine v_fa_pt (off' := 1) lay101 rfl rfl rfl ?_
      refine v_nil ?_
      refine d_q rfl rfl rfl rfl rfl ?_
      refine v_load_pt (.c _) lay2 rfl rfl rfl rfl ?_
      refine v_nil ?_
      refine d_q rfl rfl rfl rfl rfl ?_
      refine v_move rfl ?_
      refine v_nil ?_
      refine d_q rfl rfl rfl rfl rfl ?_
      refine v_nil_pt rfl ?_
      refine v_nil ?_
      refine d_q rfl rfl rfl rfl rfl ?_
      refine v_fa_pt (off' := _) lay46 rfl rfl rfl ?_
      refine v_nil ?_
      refine d_q rfl rfl rfl rfl rfl ?_
      refine v_load_flat pn 0 (.c (.v _)) pe_len lay2 rfl rfl (by omega) (by first | omega | (simp; omega)) rfl rfl ?_
      refine v_nil ?_
      refine d_q rfl rfl rfl rfl rfl ?_
      refine v_move rfl ?_
      refine v_nil ?_
      refine d_q rfl rfl rfl rfl rfl ?_
      refine v_nil_pt rfl ?_
      refine v_nil ?_
      refine d_q rfl rfl rfl rfl rfl ?_
      refine v_fa_pt (off' := _) lay46 rfl rfl rfl ?_
      refine v_nil ?_
      refine d_q rfl rfl rfl rfl rfl ?_
      refine v_load_flat pn 1 (.c (.v _)) pe_len lay2 rfl rfl (by omega) (by first | omega | (simp; omega)) rfl rfl ?_
      refine v_nil ?_
      refine d_q rfl rfl rfl rfl rfl ?_
      refine v_build [(0, 1), (1, 1), (2, 1), (3, 1)] [.v _, .v _, .v _, .v _] lay101 rfl rfl ?_
      refine v_nil ?_
      refine d_z (.c (.sl true 1 4 (flat nce [(true, b.wr[a].2.1, b.ps[pn].1, b.ps[pn].2)]))) rfl rfl rfl ?_
      refine d_e rfl rfl rfl ?_
      refine v_app_flat_sl (H' := [_, _, _, _, _, _, _, _, _, _, _, _, _, _, _]) nce_sc nce_len lay62 lay101 rfl rfl (by first | rfl | (simp; done) | (simp; omega) | omega | (rw [bg_l (by omega)])) rfl rfl rfl (by unfold maxLen; simp only []; omega) rfl rfl ?_
      refine v_nil ⟨again_nil, ?_⟩
      refine d_q rfl rfl rfl rfl rfl ?_
      refine v_nil_pt rfl ?_
      refine v_nil ?_
      refine d_q rfl rfl rfl rfl rfl ?_
      refine v_fa_pt (off' := 0) lay94 rfl rfl rfl ?_
      refine v_nil ?_
      refine d_q rfl rfl rfl rfl rfl ?_
      refine v_fa_pt (off' := 4) lay64 rfl rfl rfl ?_
      refine v_nil ?_
      refine d_e rfl rfl rfl ?_
      refine v_store (H' := [_, _, ⟨[_, _, _, _, _, _, _], 94, true⟩, _, _, _, _, _, _, _, _, _, _, _, _]) lay62 rfl rfl rfl rfl rfl rfl ?_
      refine v_nil ⟨again_nil, ?_⟩
      refine d_nil ?_
      refine r_n rfl ?_
      refine v_nil ?_
      refine q_bn ?_
      refine q_n ?_
      refine w_seq ?_
      refine w_reg rfl ?_
      refine v_assign (c := .v (.int .i64 0)) rfl ?_
      refine v_nil ?_
      refine q_n ?_
      refine w_ret ?_
      refine r_r rfl ?_
      refine v_eql lay2 rfl rfl (fun h24 => ?_) (fun h24 => ?_)
      rotate_left
      · exact absurd (by decide) h24
      refine v_nil ?_
      refine q_n ?_
      refine w_t rfl ?_
      refine w_reg rfl ?_
      refine v_move rfl ?_
      refine v_add lay2 rfl rfl (i64r (by omega)) ?_
      refine v_assign rfl ?_
      refine v_nil ?_
      refine q_bn ?_
      refine q_n ?_
      refine w_reg rfl ?_
      refine v_add lay3 rfl rfl (i64r (by omega)) ?_
      refine v_move rfl ?_
      refine v_nil ?_
      refine q_n ?_
      have hdo : doB p b ds[i] = ({ b with wr := (b.wr.take a ++ b.wr.drop (a + 1)) ++ [(true, b.wr[a].2.1, b.ps[pn].1, b.ps[pn].2)] }, 0) := do_deliver hk3 ha k4 (come_old (b := cutW b a) hbk hpn k6 hnv)
      refine ⟨_, _, _, ?_, ⟨i + 1, { b with wr := (b.wr.take a ++ b.wr.drop (a + 1)) ++ [(true, b.wr[a].2.1, b.ps[pn].1, b.ps[pn].2)] }, cs ++ [0], rfl, by omega, st_step hst hi1 hdo, ok_do hok hd hdo, by simp; omega, rfl, rfl⟩, by omega⟩
      exact turn [some 0, some 1, some 2, some 3, some 4, some 5, some 6, some 14] rfl rfl rfl ⟨⟨_, rfl, .cons tr_v (.cons tr_sl .nil)⟩, ⟨_, rfl, .cons tr_v (.cons tr_v (.cons tr_v (.cons tr_v (.cons tr_v .nil))))⟩, ⟨_, rfl, .cons (tr_mun rfl (by first | rfl | (simp; done) | (simp; omega) | (rw [bg_l (by omega)]))) (.cons (tr_mun rfl (by first | rfl | (simp; done) | (simp; omega) | (rw [bg_l (by omega)]))) (.cons (tr_mun rfl (by first | rfl | (simp; done) | (simp; omega) | (rw [bg_l (by omega)]))) (.cons (tr_mun rfl (by first | rfl | (simp; done) | (simp; omega) | (rw [bg_l (by omega)]))) (.cons (tr_mun rfl (by first | rfl | (simp; done) | (simp; omega) | (rw [bg_l (by omega)]))) (.cons tr_v (.cons tr_sl .nil))))))⟩, ⟨_, rfl, trc_flat pe_sc rfl⟩, ⟨_, rfl, trc_flat pe_sc rfl⟩, ⟨_, rfl, trc_flat pe_sc rfl⟩, ⟨_, rfl, trc_flat int_sc rfl⟩, ⟨_, rfl, trc_flat nce_sc rfl⟩, trivial⟩ ⟨tr_pt rfl, (tr_i (cz_eq rfl)), tr_sl, tr_v, tr_v, trivial⟩
    have hnv := h22
    refine v_nil ?_
    refine d_nil ?_
    refine q_n ?_
    refine w_t rfl ?_
    refine w_reg rfl ?_
    refine v_move rfl ?_
    refine v_fa_pt (off' := 2) lay101 rfl rfl rfl ?_
    refine v_load_pt (.c _) lay2 rfl rfl rfl rfl ?_
    refine v_fa_pt (off' := 3) lay101 rfl rfl rfl ?_
    refine v_load_pt (.c _) lay2 rfl rfl rfl rfl ?_
    refine v_build [(0, 1), (1, 1)] [.v _, .v _] lay46 rfl rfl ?_
    refine v_nil_pt rfl ?_
    refine v_store_flat (H' := [_, _, _, _, _, _, _, _, _, _, _, _, _, _]) pn 0 ((b.wr[a].2.2.1, b.wr[a].2.2.2)) pe_len lay46 rfl rfl rfl (by omega) (by first | omega | (simp; omega)) rfl rfl (rfl) rfl ?_
    refine v_nil ?_
    refine q_n ?_
    refine w_draw [0, 0, 2, 6, 14, 30, 0, 64, 0, 256, 768, 1792, 0, 4096, 12288, 28672, 65472, 131008, 262142, 524287, 1048575, 2097151, 4194303] [⟨0, 0, []⟩, ⟨1, 0, []⟩, ⟨2, 0, []⟩, ⟨3, 0, []⟩, ⟨4, 0, []⟩, ⟨5, 0, []⟩, ⟨6, 0, []⟩, ⟨7, 0, []⟩, ⟨8, 0, []⟩, ⟨9, 0, []⟩, ⟨10, 0, []⟩, ⟨11, 0, []⟩, ⟨12, 0, []⟩, ⟨13, 0, []⟩, ⟨14, 0, []⟩, ⟨15, 0, []⟩, ⟨16, 0, []⟩, ⟨17, 2, []⟩, ⟨18, 1, []⟩, ⟨19, 0, []⟩, ⟨20, 0, []⟩, ⟨21, 0, []⟩, ⟨22, 1, []⟩] rfl rfl ?_
    refine d_q rfl rfl rfl rfl rfl ?_
    refine v_move rfl ?_
    refine v_nil ?_
    refine d_q rfl rfl rfl rfl rfl ?_
    refine v_move rfl ?_
    refine v_nil ?_
    refine d_q rfl rfl rfl rfl rfl ?_
    refine v_nil_pt rfl ?_
    refine v_nil ?_
    refine d_q rfl rfl rfl rfl rfl ?_
    refine v_fa_pt (off' := 0) lay94 rfl rfl rfl ?_
    refine v_nil ?_
    refine d_q rfl rfl rfl rfl rfl ?_
    refine v_fa_pt (off' := 4) lay64 rfl rfl rfl ?_
    refine v_nil ?_
    refine d_q rfl rfl rfl rfl rfl ?_
    refine v_load_pt (.c _) lay62 rfl rfl rfl rfl ?_
    refine v_nil ?_
    refine d_q rfl rfl rfl rfl rfl ?_
    refine v_fa_pt (off' := 1) lay101 rfl rfl rfl ?_
    refine v_nil ?_
    refine d_q rfl rfl rfl rfl rfl ?_
    refine v_load_pt (.c _) lay2 rfl rfl rfl rfl ?_
    refine v_nil ?_
    refine d_q rfl rfl rfl rfl rfl ?_
    refine v_move rfl ?_
    refine v_nil ?_
    refine d_q rfl rfl rfl rfl rfl ?_
    refine v_nil_pt rfl ?_
    refine v_nil ?_
    refine d_q rfl rfl rfl rfl rfl ?_
    refine v_fa_pt (off' := _) lay46 rfl rfl rfl ?_
    refine v_nil ?_
    refine d_q rfl rfl rfl rfl rfl ?_
    refine v_load_flat pn 0 (.c (.v _)) pe_len lay2 rfl rfl (by omega) (by first | omega | (simp; omega)) rfl rfl ?_
    refine v_nil ?_
    refine d_q rfl rfl rfl rfl rfl ?_
    refine v_move rfl ?_
    refine v_nil ?_
    refine d_q rfl rfl rfl rfl rfl ?_
    refine v_nil_pt rfl ?_
    refine v_nil ?_
    refine d_q rfl rfl rfl rfl rfl ?_
    refine v_fa_pt (off' := _) lay46 rfl rfl rfl ?_
    refine v_nil ?_
    refine d_q rfl rfl rfl rfl rfl ?_
    refine v_load_flat pn 1 (.c (.v _)) pe_len lay2 rfl rfl (by omega) (by first | omega | (simp; omega)) rfl rfl ?_
    refine v_nil ?_
    refine d_q rfl rfl rfl rfl rfl ?_
    refine v_build [(0, 1), (1, 1), (2, 1), (3, 1)] [.v _, .v _, .v _, .v _] lay101 rfl rfl ?_
    refine v_nil ?_
    refine d_z (.c (.sl true 1 4 (flat nce [(true, b.wr[a].2.1, ((b.ps.set pn (b.wr[a].2.2.1, b.wr[a].2.2.2))[pn]'(by simpa using k6)).1, ((b.ps.set pn (b.wr[a].2.2.1, b.wr[a].2.2.2))[pn]'(by simpa using k6)).2)]))) rfl rfl rfl ?_
    refine d_e rfl rfl rfl ?_
    refine v_app_flat_sl (H' := [_, _, _, _, _, _, _, _, _, _, _, _, _, _, _]) nce_sc nce_len lay62 lay101 rfl rfl (by first | rfl | (simp; done) | (simp; omega) | omega | (rw [bg_l (by omega)])) rfl rfl rfl (by unfold maxLen; simp only []; omega) rfl rfl ?_
    refine v_nil ⟨again_nil, ?_⟩
    refine d_q rfl rfl rfl rfl rfl ?_
    refine v_nil_pt rfl ?_
    refine v_nil ?_
    refine d_q rfl rfl rfl rfl rfl ?_
    refine v_fa_pt (off' := 0) lay94 rfl rfl rfl ?_
    refine v_nil ?_
    refine d_q rfl rfl rfl rfl rfl ?_
    refine v_fa_pt (off' := 4) lay64 rfl rfl rfl ?_
    refine v_nil ?_
    refine d_e rfl rfl rfl ?_
    refine v_store (H' := [_, _, ⟨[_, _, _, _, _, _, _], 94, true⟩, _, _, _, _, _, _, _, _, _, _, _, _]) lay62 rfl rfl rfl rfl rfl rfl ?_
    refine v_nil ⟨again_nil, ?_⟩
    refine d_nil ?_
    refine r_n rfl ?_
    refine v_nil ?_
    refine q_bn ?_
    refine q_n ?_
    refine w_seq ?_
    refine w_reg rfl ?_
    refine v_assign (c := .v (.int .i64 0)) rfl ?_
    refine v_nil ?_
    refine q_n ?_
    refine w_ret ?_
    refine r_r rfl ?_
    refine v_eql lay2 rfl rfl (fun h23 => ?_) (fun h23 => ?_)
    rotate_left
    · exact absurd (by decide) h23
    refine v_nil ?_
    refine q_n ?_
    refine w_t rfl ?_
    refine w_reg rfl ?_
    refine v_move rfl ?_
    refine v_add lay2 rfl rfl (i64r (by omega)) ?_
    refine v_assign rfl ?_
    refine v_nil ?_
    refine q_bn ?_
    refine q_n ?_
    refine w_reg rfl ?_
    refine v_add lay3 rfl rfl (i64r (by omega)) ?_
    refine v_move rfl ?_
    refine v_nil ?_
    refine q_n ?_
    have hdo : doB p b ds[i] = ({ b with ps := b.ps.set pn (b.wr[a].2.2.1, b.wr[a].2.2.2), wr := (b.wr.take a ++ b.wr.drop (a + 1)) ++ [(true, b.wr[a].2.1, b.wr[a].2.2.1, b.wr[a].2.2.2)] }, 0) := do_deliver hk3 ha k4 (come_new (b := cutW b a) hbk hpn k6 hnv)
    refine ⟨_, _, _, ?_, ⟨i + 1, { b with ps := b.ps.set pn (b.wr[a].2.2.1, b.wr[a].2.2.2), wr := (b.wr.take a ++ b.wr.drop (a + 1)) ++ [(true, b.wr[a].2.1, b.wr[a].2.2.1, b.wr[a].2.2.2)] }, cs ++ [0], rfl, by omega, st_step hst hi1 hdo, ok_do hok hd hdo, by simp; omega, rfl, rfl⟩, by omega⟩
    exact turn [some 0, some 1, some 2, some 3, some 4, some 5, some 6, some 14] rfl rfl rfl ⟨⟨_, rfl, .cons tr_v (.cons tr_sl .nil)⟩, ⟨_, rfl, .cons tr_v (.cons tr_v (.cons tr_v (.cons tr_v (.cons tr_v .nil))))⟩, ⟨_, rfl, .cons (tr_mun rfl (by first | rfl | (simp; done) | (simp; omega) | (rw [bg_l (by omega)]))) (.cons (tr_mun rfl (by first | rfl | (simp; done) | (simp; omega) | (rw [bg_l (by omega)]))) (.cons (tr_mun rfl (by first | rfl | (simp; done) | (simp; omega) | (rw [bg_l (by omega)]))) (.cons (tr_mun rfl (by first | rfl | (simp; done) | (simp; omega) | (rw [bg_l (by omega)]))) (.cons (tr_mun rfl (by first | rfl | (simp; done) | (simp; omega) | (rw [bg_l (by omega)]))) (.cons tr_v (.cons tr_sl .nil))))))⟩, ⟨_, rfl, trc_flat pe_sc rfl⟩, ⟨_, rfl, trc_flat pe_sc rfl⟩, ⟨_, rfl, trc_flat pe_sc rfl⟩, ⟨_, rfl, trc_flat int_sc rfl⟩, ⟨_, rfl, trc_flat nce_sc (congrArg (flat nce) (by simp only [List.getElem_set_self]))⟩, trivial⟩ ⟨tr_pt rfl, (tr_i (cz_eq rfl)), tr_sl, tr_v, tr_v, trivial⟩
  refine v_assign rfl ?_
  refine v_nil ?_
  refine q_n ?_
  refine w_f rfl ?_
  refine w_seq ?_
  refine w_reg rfl ?_
  refine v_eql lay2 rfl rfl (fun h25 => ?_) (fun h25 => ?_)
  rotate_left
  · refine v_assign rfl ?_
    refine v_nil ?_
    refine q_n ?_
    refine w_f rfl ?_
    refine w_seq ?_
    refine w_reg rfl ?_
    refine v_eql lay2 rfl rfl (fun h39 => ?_) (fun h39 => ?_)
    · have hk5 := h39
      have k4 : a < b.wr.length := e1 (by omega)
      refine v_assign rfl ?_
      refine v_nil ?_
      refine q_n ?_
      refine w_t rfl ?_
      refine w_reg rfl ?_
      refine v_move rfl ?_
      refine v_fa_pt (off' := 1) lay25 rfl rfl rfl ?_
      refine v_load_pt (.c _) lay2 rfl rfl rfl rfl ?_
      refine v_inl (n := 28) (drawD_ok X) (fun _ _ => Go.Proofs.Try.call92 _ _) Go.Proofs.Try.func92 rfl rfl rfl rfl ?_
      refine w_seq ?_
      refine w_reg rfl ?_
      refine v_alloc (m := 10) (H' := [_, _, _, _, _, _, _, _, _, _, ⟨[.v _, .v _, .v _, .v _], 101, true⟩]) lay101 rfl rfl ?_
      refine v_nil ?_
      refine q_n ?_
      refine w_seq ?_
      refine w_reg rfl ?_
      refine v_move rfl ?_
      refine v_nil_pt rfl ?_
      refine v_fa_pt (off' := 0) lay94 rfl rfl rfl ?_
      refine v_fa_pt (off' := 4) lay64 rfl rfl rfl ?_
      refine v_load_pt (.c _) lay62 rfl rfl rfl rfl ?_
      refine v_move rfl ?_
      refine v_idx_mu_e (k := 4) (off := 0) (a) lay62 lay101 rfl rfl rfl (ha) (by omega) ?_
      refine v_load_flat a 0 (.agg [.v _, .v _, .v _, .v _]) nce_len lay101 rfl rfl (by omega) (by first | omega | (simp; omega)) rfl rfl ?_
      refine v_alloc (m := 11) (H' := [_, _, _, _, _, _, _, _, _, _, _, ⟨[.v _, .v _, .v _, .v _], 101, true⟩]) lay101 rfl rfl ?_
      refine v_store (H' := [_, _, _, _, _, _, _, _, _, _, _, ⟨[_, _, _, _], 101, true⟩]) lay101 rfl rfl rfl rfl rfl rfl ?_
      refine v_nil ?_
      refine q_n ?_
      refine w_seq ?_
      refine w_reg rfl ?_
      refine v_move rfl ?_
      refine v_move rfl ?_
      refine v_nil_pt rfl ?_
      refine v_fa_pt (off' := 0) lay94 rfl rfl rfl ?_
      refine v_fa_pt (off' := 4) lay64 rfl rfl rfl ?_
      refine v_load_pt (.c _) lay62 rfl rfl rfl rfl ?_
      refine v_move rfl ?_
      refine v_move rfl ?_
      refine v_add lay3 rfl rfl (i64r (by omega)) ?_
      refine v_del (ys := b.wr) (i := a) (H' := [_, _, _, _, _, _, _, _, _, _, _, _, _]) rfl rfl (by omega) ha rfl rfl rfl rfl ?_
      refine v_nil_pt rfl ?_
      refine v_fa_pt (off' := 0) lay94 rfl rfl rfl ?_
      refine v_fa_pt (off' := 4) lay64 rfl rfl rfl ?_
      refine v_store (H' := [_, _, ⟨[_, _, _, _, _, _, _], 94, true⟩, _, _, _, _, _, _, _, _, _, _]) lay62 rfl rfl rfl rfl rfl rfl ?_
      refine v_nil ?_
      refine q_n ?_
      refine w_seq ?_
      refine w_reg rfl ?_
      refine v_load_pt (.agg [_, _, _, _]) lay101 rfl rfl rfl rfl ?_
      refine v_store (H' := [_, _, _, _, _, _, _, _, _, _, ⟨[_, _, _, _], 101, true⟩, _, _]) lay101 rfl rfl rfl rfl rfl rfl ?_
      refine v_nil ?_
      refine q_n ?_
      refine w_ret ?_
      refine r_r rfl ?_
      refine v_nil ?_
      refine q_bn ?_
      refine q_n ?_
      refine w_seq ?_
      refine w_reg rfl ?_
      refine v_assign (c := .v (.int .i64 0)) rfl ?_
      refine v_nil ?_
      refine q_n ?_
      refine w_ret ?_
      refine r_r rfl ?_
      refine v_eql lay2 rfl rfl (fun h41 => ?_) (fun h41 => ?_)
      rotate_left
      · exact absurd (by decide) h41
      refine v_nil ?_
      refine q_n ?_
      refine w_t rfl ?_
      refine w_reg rfl ?_
      refine v_move rfl ?_
      refine v_add lay2 rfl rfl (i64r (by omega)) ?_
      refine v_assign rfl ?_
      refine v_nil ?_
      refine q_bn ?_
      refine q_n ?_
      refine w_reg rfl ?_
      refine v_add lay3 rfl rfl (i64r (by omega)) ?_
      refine v_move rfl ?_
      refine v_nil ?_
      refine q_n ?_
      have hdo : doB p b ds[i] = ({ b with wr := b.wr.take a ++ b.wr.drop (a + 1) }, 0) := do_drop hk5 ha k4
      refine ⟨_, _, _, ?_, ⟨i + 1, { b with wr := b.wr.take a ++ b.wr.drop (a + 1) }, cs ++ [0], rfl, by omega, st_step hst hi1 hdo, ok_do hok hd hdo, by simp; omega, rfl, rfl⟩, by omega⟩
      exact turn [some 0, some 1, some 2, some 3, some 4, some 5, some 6, some 12] rfl rfl rfl ⟨⟨_, rfl, .cons tr_v (.cons tr_sl .nil)⟩, ⟨_, rfl, .cons tr_v (.cons tr_v (.cons tr_v (.cons tr_v (.cons tr_v .nil))))⟩, ⟨_, rfl, .cons (tr_mun rfl (by first | rfl | (simp; done) | (simp; omega) | (rw [bg_l (by omega)]))) (.cons (tr_mun rfl (by first | rfl | (simp; done) | (simp; omega) | (rw [bg_l (by omega)]))) (.cons (tr_mun rfl (by first | rfl | (simp; done) | (simp; omega) | (rw [bg_l (by omega)]))) (.cons (tr_mun rfl (by first | rfl | (simp; done) | (simp; omega) | (rw [bg_l (by omega)]))) (.cons (tr_mun rfl (by first | rfl | (simp; done) | (simp; omega) | (rw [bg_l (by omega)]))) (.cons tr_v (.cons tr_sl .nil))))))⟩, ⟨_, rfl, trc_flat pe_sc rfl⟩, ⟨_, rfl, trc_flat pe_sc rfl⟩, ⟨_, rfl, trc_flat pe_sc rfl⟩, ⟨_, rfl, trc_flat int_sc rfl⟩, ⟨_, rfl, trc_flat nce_sc rfl⟩, trivial⟩ ⟨tr_pt rfl, (tr_i (cz_eq rfl)), tr_sl, tr_v, tr_v, trivial⟩
    refine v_assign rfl ?_
    refine v_nil ?_
    refine q_n ?_
    refine w_f rfl ?_
    refine w_seq ?_
    refine w_reg rfl ?_
    refine v_eql lay2 rfl rfl (fun h42 => ?_) (fun h42 => ?_)
    · have hk6 := h42
      have k2 : a < b.ps.length := e3 (by omega)
      have k1 : a < b.nw.length := by omega
      have k3 : a < b.sv.length := by omega
      have hve := hok.ve _ (List.getElem_mem k1)
      refine v_assign rfl ?_
      refine v_nil ?_
      refine q_n ?_
      refine w_t rfl ?_
      refine w_draw [0, 1, 3, 7, 15, 0, 32, 0, 128, 384, 896, 1920, 0, 4096, 16256, 32640, 65535, 131071] [⟨0, 0, []⟩, ⟨1, 0, []⟩, ⟨2, 0, []⟩, ⟨3, 0, []⟩, ⟨4, 0, []⟩, ⟨5, 0, []⟩, ⟨6, 0, []⟩, ⟨7, 0, []⟩, ⟨8, 0, []⟩, ⟨9, 0, []⟩, ⟨10, 0, []⟩, ⟨11, 0, []⟩, ⟨12, 0, []⟩, ⟨13, 0, []⟩, ⟨14, 0, []⟩, ⟨15, 0, []⟩, ⟨16, 0, []⟩, ⟨17, 1, []⟩] rfl rfl ?_
      refine d_q rfl rfl rfl rfl rfl ?_
      refine v_move rfl ?_
      refine v_nil ?_
      refine d_q rfl rfl rfl rfl rfl ?_
      refine v_nil_pt rfl ?_
      refine v_nil ?_
      refine d_q rfl rfl rfl rfl rfl ?_
      refine v_fa_pt (off' := 0) lay94 rfl rfl rfl ?_
      refine v_nil ?_
      refine d_q rfl rfl rfl rfl rfl ?_
      refine v_fa_pt (off' := 2) lay64 rfl rfl rfl ?_
      refine v_nil ?_
      refine d_q rfl rfl rfl rfl rfl ?_
      refine v_load_pt (.c _) lay61 rfl rfl rfl rfl ?_
      refine v_nil ?_
      refine d_q rfl rfl rfl rfl rfl ?_
      refine v_fa_pt (off' := 1) lay25 rfl rfl rfl ?_
      refine v_nil ?_
      refine d_q rfl rfl rfl rfl rfl ?_
      refine v_load_pt (.c _) lay2 rfl rfl rfl rfl ?_
      refine v_nil ?_
      refine d_q rfl rfl rfl rfl rfl ?_
      refine v_move rfl ?_
      refine v_nil ?_
      refine d_q rfl rfl rfl rfl rfl ?_
      refine v_nil_pt rfl ?_
      refine v_nil ?_
      refine d_q rfl rfl rfl rfl rfl ?_
      refine v_fa_pt (off' := 0) lay94 rfl rfl rfl ?_
      refine v_nil ?_
      refine d_q rfl rfl rfl rfl rfl ?_
      refine v_fa_pt (off' := 1) lay64 rfl rfl rfl ?_
      refine v_nil ?_
      refine d_q rfl rfl rfl rfl rfl ?_
      refine v_load_pt (.c _) lay61 rfl rfl rfl rfl ?_
      refine v_nil ?_
      refine d_q rfl rfl rfl rfl rfl ?_
      refine v_fa_pt (off' := 1) lay25 rfl rfl rfl ?_
      refine v_nil ?_
      refine d_q rfl rfl rfl rfl rfl ?_
      refine v_load_pt (.c _) lay2 rfl rfl rfl rfl ?_
      refine v_nil ?_
      refine d_q rfl rfl rfl rfl rfl ?_
      refine v_idx_mu_e (k := 2) (off := 0) (a) lay61 lay46 rfl rfl rfl (ha) (by omega) ?_
      refine v_nil ?_
      refine d_q rfl rfl rfl rfl rfl ?_
      refine v_load_flat a 0 (.agg [.v _, .v _]) pe_len lay46 rfl rfl (by omega) (by first | omega | (simp; omega)) rfl rfl ?_
      refine v_nil ?_
      refine d_q rfl rfl rfl rfl rfl ?_
      refine v_idx_mu_e (k := 2) (off := 0) (a) lay61 lay46 rfl rfl rfl (ha) (by omega) ?_
      refine v_nil ?_
      refine d_e rfl rfl rfl ?_
      refine v_store_flat (H' := [_, _, _, _, _, _, _, _, _, _]) a 0 (b.ps[a]) pe_len lay46 rfl rfl rfl (by omega) (by first | omega | (simp; omega)) rfl rfl (rfl) rfl ?_
      refine v_nil ⟨again_nil, ?_⟩
      refine d_nil ?_
      refine q_bn ?_
      refine q_n ?_
      refine w_seq ?_
      refine w_reg rfl ?_
      refine v_assign (c := .v (.int .i64 0)) rfl ?_
      refine v_nil ?_
      refine q_n ?_
      refine w_ret ?_
      refine r_r rfl ?_
      refine v_eql lay2 rfl rfl (fun h45 => ?_) (fun h45 => ?_)
      rotate_left
      · exact absurd (by decide) h45
      refine v_nil ?_
      refine q_n ?_
      refine w_t rfl ?_
      refine w_reg rfl ?_
      refine v_move rfl ?_
      refine v_add lay2 rfl rfl (i64r (by omega)) ?_
      refine v_assign rfl ?_
      refine v_nil ?_
      refine q_bn ?_
      refine q_n ?_
      refine w_reg rfl ?_
      refine v_add lay3 rfl rfl (i64r (by omega)) ?_
      refine v_move rfl ?_
      refine v_nil ?_
      refine q_n ?_
      have hdo : doB p b ds[i] = ({ b with sv := b.sv.set a b.ps[a] }, 0) := do_save hk6 ha k2
      refine ⟨_, _, _, ?_, ⟨i + 1, { b with sv := b.sv.set a b.ps[a] }, cs ++ [0], rfl, by omega, st_step hst hi1 hdo, ok_do hok hd hdo, by simp; omega, rfl, rfl⟩, by omega⟩
      exact turn [some 0, some 1, some 2, some 3, some 4, some 5, some 6, some 7] rfl rfl rfl ⟨⟨_, rfl, .cons tr_v (.cons tr_sl .nil)⟩, ⟨_, rfl, .cons tr_v (.cons tr_v (.cons tr_v (.cons tr_v (.cons tr_v .nil))))⟩, ⟨_, rfl, .cons (tr_mun rfl (by first | rfl | (simp; done) | (simp; omega) | (rw [bg_l (by omega)]))) (.cons (tr_mun rfl (by first | rfl | (simp; done) | (simp; omega) | (rw [bg_l (by omega)]))) (.cons (tr_mun rfl (by first | rfl | (simp; done) | (simp; omega) | (rw [bg_l (by omega)]))) (.cons (tr_mun rfl (by first | rfl | (simp; done) | (simp; omega) | (rw [bg_l (by omega)]))) (.cons (tr_mun rfl (by first | rfl | (simp; done) | (simp; omega) | (rw [bg_l (by omega)]))) (.cons tr_v (.cons tr_sl .nil))))))⟩, ⟨_, rfl, trc_flat pe_sc rfl⟩, ⟨_, rfl, trc_flat pe_sc rfl⟩, ⟨_, rfl, trc_flat pe_sc rfl⟩, ⟨_, rfl, trc_flat int_sc rfl⟩, ⟨_, rfl, trc_flat nce_sc rfl⟩, trivial⟩ ⟨tr_pt rfl, (tr_i (cz_eq rfl)), tr_sl, tr_v, tr_v, trivial⟩
    refine v_assign rfl ?_
    refine v_nil ?_
    refine q_n ?_
    refine w_f rfl ?_
    refine w_seq ?_
    refine w_reg rfl ?_
    refine v_eql lay2 rfl rfl (fun h46 => ?_) (fun h46 => ?_)
    rotate_left
    · exfalso; omega
    have k2 : a < b.ps.length := e3 (by omega)
    have k1 : a < b.nw.length := by omega
    have k3 : a < b.sv.length := by omega
    have hve := hok.ve _ (List.getElem_mem k1)
    refine v_assign rfl ?_
    refine v_nil ?_
    refine q_n ?_
    refine w_t rfl ?_
    refine w_draw [0, 1, 3, 7, 15, 0, 32, 0, 128, 384, 896, 1920, 0, 4096, 16256, 32640, 65535, 131071] [⟨0, 0, []⟩, ⟨1, 0, []⟩, ⟨2, 0, []⟩, ⟨3, 0, []⟩, ⟨4, 0, []⟩, ⟨5, 0, []⟩, ⟨6, 0, []⟩, ⟨7, 0, []⟩, ⟨8, 0, []⟩, ⟨9, 0, []⟩, ⟨10, 0, []⟩, ⟨11, 0, []⟩, ⟨12, 0, []⟩, ⟨13, 0, []⟩, ⟨14, 0, []⟩, ⟨15, 0, []⟩, ⟨16, 0, []⟩, ⟨17, 1, []⟩] rfl rfl ?_
    refine d_q rfl rfl rfl rfl rfl ?_
    refine v_move rfl ?_
    refine v_nil ?_
    refine d_q rfl rfl rfl rfl rfl ?_
    refine v_nil_pt rfl ?_
    refine v_nil ?_
    refine d_q rfl rfl rfl rfl rfl ?_
    refine v_fa_pt (off' := 0) lay94 rfl rfl rfl ?_
    refine v_nil ?_
    refine d_q rfl rfl rfl rfl rfl ?_
    refine v_fa_pt (off' := 1) lay64 rfl rfl rfl ?_
    refine v_nil ?_
    refine d_q rfl rfl rfl rfl rfl ?_
    refine v_load_pt (.c _) lay61 rfl rfl rfl rfl ?_
    refine v_nil ?_
    refine d_q rfl rfl rfl rfl rfl ?_
    refine v_fa_pt (off' := 1) lay25 rfl rfl rfl ?_
    refine v_nil ?_
    refine d_q rfl rfl rfl rfl rfl ?_
    refine v_load_pt (.c _) lay2 rfl rfl rfl rfl ?_
    refine v_nil ?_
    refine d_q rfl rfl rfl rfl rfl ?_
    refine v_move rfl ?_
    refine v_nil ?_
    refine d_q rfl rfl rfl rfl rfl ?_
    refine v_nil_pt rfl ?_
    refine v_nil ?_
    refine d_q rfl rfl rfl rfl rfl ?_
    refine v_fa_pt (off' := 0) lay94 rfl rfl rfl ?_
    refine v_nil ?_
    refine d_q rfl rfl rfl rfl rfl ?_
    refine v_fa_pt (off' := 2) lay64 rfl rfl rfl ?_
    refine v_nil ?_
    refine d_q rfl rfl rfl rfl rfl ?_
    refine v_load_pt (.c _) lay61 rfl rfl rfl rfl ?_
    refine v_nil ?_
    refine d_q rfl rfl rfl rfl rfl ?_
    refine v_fa_pt (off' := 1) lay25 rfl rfl rfl ?_
    refine v_nil ?_
    refine d_q rfl rfl rfl rfl rfl ?_
    refine v_load_pt (.c _) lay2 rfl rfl rfl rfl ?_
    refine v_nil ?_
    refine d_q rfl rfl rfl rfl rfl ?_
    refine v_idx_mu_e (k := 2) (off := 0) (a) lay61 lay46 rfl rfl rfl (ha) (by omega) ?_
    refine v_nil ?_
    refine d_q rfl rfl rfl rfl rfl ?_
    refine v_load_flat a 0 (.agg [.v _, .v _]) pe_len lay46 rfl rfl (by omega) (by first | omega | (simp; omega)) rfl rfl ?_
    refine v_nil ?_
    refine d_q rfl rfl rfl rfl rfl ?_
    refine v_idx_mu_e (k := 2) (off := 0) (a) lay61 lay46 rfl rfl rfl (ha) (by omega) ?_
    refine v_nil ?_
    refine d_e rfl rfl rfl ?_
    refine v_store_flat (H' := [_, _, _, _, _, _, _, _, _, _]) a 0 (b.sv[a]) pe_len lay46 rfl rfl rfl (by omega) (by first | omega | (simp; omega)) rfl rfl (rfl) rfl ?_
    refine v_nil ⟨again_nil, ?_⟩
    refine d_nil ?_
    refine q_bn ?_
    refine q_n ?_
    refine w_seq ?_
    refine w_reg rfl ?_
    refine v_assign (c := .v (.int .i64 0)) rfl ?_
    refine v_nil ?_
    refine q_n ?_
    refine w_ret ?_
    refine r_r rfl ?_
    refine v_eql lay2 rfl rfl (fun h49 => ?_) (fun h49 => ?_)
    rotate_left
    · exact absurd (by decide) h49
    refine v_nil ?_
    refine q_n ?_
    refine w_t rfl ?_
    refine w_reg rfl ?_
    refine v_move rfl ?_
    refine v_add lay2 rfl rfl (i64r (by omega)) ?_
    refine v_assign rfl ?_
    refine v_nil ?_
    refine q_bn ?_
    refine q_n ?_
    refine w_reg rfl ?_
    refine v_add lay3 rfl rfl (i64r (by omega)) ?_
    refine v_move rfl ?_
    refine v_nil ?_
    refine q_n ?_
    have hdo : doB p b ds[i] = ({ b with ps := b.ps.set a b.sv[a] }, 0) := do_crash (by omega) ha k2 k3
    refine ⟨_, _, _, ?_, ⟨i + 1, { b with ps := b.ps.set a b.sv[a] }, cs ++ [0], rfl, by omega, st_step hst hi1 hdo, ok_do hok hd hdo, by simp; omega, rfl, rfl⟩, by omega⟩
    exact turn [some 0, some 1, some 2, some 3, some 4, some 5, some 6, some 7] rfl rfl rfl ⟨⟨_, rfl, .cons tr_v (.cons tr_sl .nil)⟩, ⟨_, rfl, .cons tr_v (.cons tr_v (.cons tr_v (.cons tr_v (.cons tr_v .nil))))⟩, ⟨_, rfl, .cons (tr_mun rfl (by first | rfl | (simp; done) | (simp; omega) | (rw [bg_l (by omega)]))) (.cons (tr_mun rfl (by first | rfl | (simp; done) | (simp; omega) | (rw [bg_l (by omega)]))) (.cons (tr_mun rfl (by first | rfl | (simp; done) | (simp; omega) | (rw [bg_l (by omega)]))) (.cons (tr_mun rfl (by first | rfl | (simp; done) | (simp; omega) | (rw [bg_l (by omega)]))) (.cons (tr_mun rfl (by first | rfl | (simp; done) | (simp; omega) | (rw [bg_l (by omega)]))) (.cons tr_v (.cons tr_sl .nil))))))⟩, ⟨_, rfl, trc_flat pe_sc rfl⟩, ⟨_, rfl, trc_flat pe_sc rfl⟩, ⟨_, rfl, trc_flat pe_sc rfl⟩, ⟨_, rfl, trc_flat int_sc rfl⟩, ⟨_, rfl, trc_flat nce_sc rfl⟩, trivial⟩ ⟨tr_pt rfl, (tr_i (cz_eq rfl)), tr_sl, tr_v, tr_v, trivial⟩
  have hk4 := h25
  have k4 : a < b.wr.length := e1 (by omega)
  obtain ⟨pn, hpn⟩ : ∃ pn : Nat, b.wr[a].2.1 = pn := Int.eq_ofNat_of_zero_le (hok.po _ (List.getElem_mem k4)).1
  have hp2 := (hok.po _ (List.getElem_mem k4)).2
  have k5 : pn < b.kn.length := by omega
  have k6 : pn < b.ps.length := by omega
  have e6 := e2 h25
  rw [gD k4] at e6
  refine v_assign rfl ?_
  refine v_nil ?_
  refine q_n ?_
  refine w_t rfl ?_
  refine w_draw [0, 0, 2, 6, 14, 30, 0, 64, 254, 510, 1023] [⟨0, 0, []⟩, ⟨1, 0, []⟩, ⟨2, 0, []⟩, ⟨3, 0, []⟩, ⟨4, 0, []⟩, ⟨5, 0, []⟩, ⟨6, 0, []⟩, ⟨7, 0, []⟩, ⟨8, 0, []⟩, ⟨9, 0, []⟩, ⟨10, 1, []⟩] rfl rfl ?_
  refine d_q rfl rfl rfl rfl rfl ?_
  refine v_move rfl ?_
  refine v_nil ?_
  refine d_q rfl rfl rfl rfl rfl ?_
  refine v_move rfl ?_
  refine v_nil ?_
  refine d_q rfl rfl rfl rfl rfl ?_
  refine v_nil_pt rfl ?_
  refine v_nil ?_
  refine d_q rfl rfl rfl rfl rfl ?_
  refine v_fa_pt (off' := 0) lay94 rfl rfl rfl ?_
  refine v_nil ?_
  refine d_q rfl rfl rfl rfl rfl ?_
  refine v_fa_pt (off' := 4) lay64 rfl rfl rfl ?_
  refine v_nil ?_
  refine d_q rfl rfl rfl rfl rfl ?_
  refine v_load_pt (.c _) lay62 rfl rfl rfl rfl ?_
  refine v_nil ?_
  refine d_q rfl rfl rfl rfl rfl ?_
  refine v_fa_pt (off' := 1) lay25 rfl rfl rfl ?_
  refine v_nil ?_
  refine d_q rfl rfl rfl rfl rfl ?_
  refine v_load_pt (.c _) lay2 rfl rfl rfl rfl ?_
  refine v_nil ?_
  refine d_q rfl rfl rfl rfl rfl ?_
  refine v_idx_mu_e (k := 4) (off := 0) (a) lay62 lay101 rfl rfl rfl (ha) (by omega) ?_
  refine v_nil ?_
  refine d_q rfl rfl rfl rfl rfl ?_
  refine v_load_flat a 0 (.agg [.v _, .v _, .v _, .v _]) nce_len lay101 rfl rfl (by omega) (by first | omega | (simp; omega)) rfl rfl ?_
  refine v_nil ?_
  refine dec_split (p := b.wr[a].1 = true) (fun hb1 => ?_) (fun hb1 => ?_)
  · refine d_id ?_
    refine d_inl (n := 71) (drawD_ok X) (fun _ _ => Go.Proofs.Try.call91 _ _) Go.Proofs.Try.func91 rfl rfl rfl rfl rfl rfl ?_
    apply Exists.intro
    apply Exists.intro
    refine ⟨?_, ?_, ?_⟩
    · skip
      refine w_seq ?_
      refine w_reg rfl ?_
      refine v_box (m := 10) (H' := [_, _, _, _, _, _, _, _, _, _, _]) lay101 rfl rfl rfl ?_
      refine v_nil ?_
      refine q_n ?_
      refine w_seq ?_
      refine w_seq ?_
      refine w_reg rfl ?_
      refine v_fa_pt (off' := 0) lay101 rfl rfl rfl ?_
      refine v_load_ptb lay4 rfl rfl rfl rfl (fun h27 => ?_) (fun h27 => ?_)
      rotate_left
      · have hbk := h27
        exact absurd (hb1.symm.trans h27) (by decide)
      have hbk := h27
      refine v_nil ?_
      refine q_n ?_
      refine w_t rfl ?_
      refine w_seq ?_
      refine w_draw [0, 1, 3, 7, 15, 0, 32, 0, 128, 384, 896, 1920, 0, 4096, 16256, 32640, 0, 65536, 262016, 524287, 1048575] [⟨0, 0, []⟩, ⟨1, 0, []⟩, ⟨2, 0, []⟩, ⟨3, 0, []⟩, ⟨4, 0, []⟩, ⟨5, 0, []⟩, ⟨6, 0, []⟩, ⟨7, 0, []⟩, ⟨8, 0, []⟩, ⟨9, 0, []⟩, ⟨10, 0, []⟩, ⟨11, 0, []⟩, ⟨12, 0, []⟩, ⟨13, 0, []⟩, ⟨14, 0, []⟩, ⟨15, 0, []⟩, ⟨16, 0, []⟩, ⟨17, 0, []⟩, ⟨18, 0, []⟩, ⟨19, 0, []⟩, ⟨20, 1, []⟩] rfl rfl ?_
      refine d_q rfl rfl rfl rfl rfl ?_
      refine v_move rfl ?_
      refine v_nil ?_
      refine d_q rfl rfl rfl rfl rfl ?_
      refine v_nil_pt rfl ?_
      refine v_nil ?_
      refine d_q rfl rfl rfl rfl rfl ?_
      refine v_fa_pt (off' := 0) lay94 rfl rfl rfl ?_
      refine v_nil ?_
      refine d_q rfl rfl rfl rfl rfl ?_
      refine v_fa_pt (off' := 3) lay64 rfl rfl rfl ?_
      refine v_nil ?_
      refine d_q rfl rfl rfl rfl rfl ?_
      refine v_load_pt (.c _) lay28 rfl rfl rfl rfl ?_
      refine v_nil ?_
      refine d_q rfl rfl rfl rfl rfl ?_
      refine v_fa_pt (off' := 1) lay101 rfl rfl rfl ?_
      refine v_nil ?_
      refine d_q rfl rfl rfl rfl rfl ?_
      refine v_load_pt (.c _) lay2 rfl rfl rfl rfl ?_
      refine v_nil ?_
      refine d_q rfl rfl rfl rfl rfl ?_
      refine v_move rfl ?_
      refine v_nil ?_
      refine d_q rfl rfl rfl rfl rfl ?_
      refine v_nil_pt rfl ?_
      refine v_nil ?_
      refine d_q rfl rfl rfl rfl rfl ?_
      refine v_fa_pt (off' := 0) lay94 rfl rfl rfl ?_
      refine v_nil ?_
      refine d_q rfl rfl rfl rfl rfl ?_
      refine v_fa_pt (off' := 3) lay64 rfl rfl rfl ?_
      refine v_nil ?_
      refine d_q rfl rfl rfl rfl rfl ?_
      refine v_load_pt (.c _) lay28 rfl rfl rfl rfl ?_
      refine v_nil ?_
      refine d_q rfl rfl rfl rfl rfl ?_
      refine v_fa_pt (off' := 1) lay101 rfl rfl rfl ?_
      refine v_nil ?_
      refine d_q rfl rfl rfl rfl rfl ?_
      refine v_load_pt (.c _) lay2 rfl rfl rfl rfl ?_
      refine v_nil ?_
      refine d_q rfl rfl rfl rfl rfl ?_
      refine v_idx_mu_e (k := 1) (off := 0) (pn) lay28 lay2 rfl rfl rfl (hpn) (by omega) ?_
      refine v_nil ?_
      refine d_q rfl rfl rfl rfl rfl ?_
      refine v_load_flat pn 0 (.c (.v _)) int_len lay2 rfl rfl (by omega) (by first | omega | (simp; omega)) rfl rfl ?_
      refine v_nil ?_
      refine d_q rfl rfl rfl rfl rfl ?_
      refine v_fa_pt (off' := 3) lay101 rfl rfl rfl ?_
      refine v_nil ?_
      refine d_q rfl rfl rfl rfl rfl ?_
      refine v_load_pt (.c _) lay2 rfl rfl rfl rfl ?_
      refine v_nil ?_
      refine d_q rfl rfl rfl rfl rfl ?_
      refine v_max rfl rfl ?_
      refine v_nil ?_
      refine d_q rfl rfl rfl rfl rfl ?_
      refine v_idx_mu_e (k := 1) (off := 0) (pn) lay28 lay2 rfl rfl rfl (hpn) (by omega) ?_
      refine v_nil ?_
      refine d_e rfl rfl rfl ?_
      refine v_store_flat (H' := [_, _, _, _, _, _, _, _, _, _, _]) pn 0 (mx b.kn[pn] b.wr[a].2.2.2) int_len lay2 rfl rfl rfl (by omega) (by first | omega | (simp; omega)) rfl rfl (rfl) rfl ?_
      refine v_nil ⟨again_nil, ?_⟩
      refine d_nil ?_
      refine q_n ?_
      refine w_ret (q_r ?_)
      refine r_r rfl ?_
      exact ⟨rfl, rfl⟩
    · exact again_nil
    refine d_nil ?_
    refine q_bn ?_
    refine q_n ?_
    refine w_seq ?_
    refine w_reg rfl ?_
    refine v_assign (c := .v (.int .i64 0)) rfl ?_
    refine v_nil ?_
    refine q_n ?_
    refine w_ret ?_
    refine r_r rfl ?_
    refine v_eql lay2 rfl rfl (fun h30 => ?_) (fun h30 => ?_)
    rotate_left
    · exact absurd (by decide) h30
    refine v_nil ?_
    refine q_n ?_
    refine w_t rfl ?_
    refine w_reg rfl ?_
    refine v_move rfl ?_
    refine v_add lay2 rfl rfl (i64r (by omega)) ?_
    refine v_assign rfl ?_
    refine v_nil ?_
    refine q_bn ?_
    refine q_n ?_
    refine w_reg rfl ?_
    refine v_add lay3 rfl rfl (i64r (by omega)) ?_
    refine v_move rfl ?_
    refine v_nil ?_
    refine q_n ?_
    have hdo : doB p b ds[i] = ({ b with kn := b.kn.set pn (mx b.kn[pn] b.wr[a].2.2.2) }, 0) := do_copy hk4 ha k4 e6 (come_back hb1 hpn k5)
    refine ⟨_, _, _, ?_, ⟨i + 1, { b with kn := b.kn.set pn (mx b.kn[pn] b.wr[a].2.2.2) }, cs ++ [0], rfl, by omega, st_step hst hi1 hdo, ok_do hok hd hdo, by simp; omega, rfl, rfl⟩, by omega⟩
    exact turn [some 0, some 1, some 2, some 3, some 4, some 5, some 6, some 7] rfl rfl rfl ⟨⟨_, rfl, .cons tr_v (.cons tr_sl .nil)⟩, ⟨_, rfl, .cons tr_v (.cons tr_v (.cons tr_v (.cons tr_v (.cons tr_v .nil))))⟩, ⟨_, rfl, .cons (tr_mun rfl (by first | rfl | (simp; done) | (simp; omega) | (rw [bg_l (by omega)]))) (.cons (tr_mun rfl (by first | rfl | (simp; done) | (simp; omega) | (rw [bg_l (by omega)]))) (.cons (tr_mun rfl (by first | rfl | (simp; done) | (simp; omega) | (rw [bg_l (by omega)]))) (.cons (tr_mun rfl (by first | rfl | (simp; done) | (simp; omega) | (rw [bg_l (by omega)]))) (.cons (tr_mun rfl (by first | rfl | (simp; done) | (simp; omega) | (rw [bg_l (by omega)]))) (.cons tr_v (.cons tr_sl .nil))))))⟩, ⟨_, rfl, trc_flat pe_sc rfl⟩, ⟨_, rfl, trc_flat pe_sc rfl⟩, ⟨_, rfl, trc_flat pe_sc rfl⟩, ⟨_, rfl, trc_flat int_sc rfl⟩, ⟨_, rfl, trc_flat nce_sc rfl⟩, trivial⟩ ⟨tr_pt rfl, (tr_i (cz_eq rfl)), tr_sl, tr_v, tr_v, trivial⟩
  refine dec_split (p := b.wr[a].2.2.2 > b.ps[pn].2) (fun hv1 => ?_) (fun hv1 => ?_)
  rotate_left
  · refine d_id ?_
    refine d_inl (n := 71) (drawD_ok X) (fun _ _ => Go.Proofs.Try.call91 _ _) Go.Proofs.Try.func91 rfl rfl rfl rfl rfl rfl ?_
    apply Exists.intro
    apply Exists.intro
    refine ⟨?_, ?_, ?_⟩
    · skip
      refine w_seq ?_
      refine w_reg rfl ?_
      refine v_box (m := 10) (H' := [_, _, _, _, _, _, _, _, _, _, _]) lay101 rfl rfl rfl ?_
      refine v_nil ?_
      refine q_n ?_
      refine w_seq ?_
      refine w_seq ?_
      refine w_reg rfl ?_
      refine v_fa_pt (off' := 0) lay101 rfl rfl rfl ?_
      refine v_load_ptb lay4 rfl rfl rfl rfl (fun h35 => ?_) (fun h35 => ?_)
      · have hbk := h35
        exact absurd ((Bool.eq_false_iff.2 hb1).symm.trans h35) (by decide)
      have hbk := h35
      refine v_nil ?_
      refine q_n ?_
      refine w_f rfl ?_
      refine w_skip ?_
      refine q_n ?_
      refine w_seq ?_
      refine w_draw [0, 1, 3, 7, 15, 0, 32, 127, 255] [⟨0, 0, []⟩, ⟨1, 0, []⟩, ⟨2, 0, []⟩, ⟨3, 0, []⟩, ⟨4, 0, []⟩, ⟨5, 0, []⟩, ⟨6, 0, []⟩, ⟨7, 0, []⟩, ⟨8, 0, []⟩] rfl rfl ?_
      refine d_q rfl rfl rfl rfl rfl ?_
      refine v_move rfl ?_
      refine v_nil ?_
      refine d_q rfl rfl rfl rfl rfl ?_
      refine v_nil_pt rfl ?_
      refine v_nil ?_
      refine d_q rfl rfl rfl rfl rfl ?_
      refine v_fa_pt (off' := 0) lay94 rfl rfl rfl ?_
      refine v_nil ?_
      refine d_q rfl rfl rfl rfl rfl ?_
      refine v_fa_pt (off' := 1) lay64 rfl rfl rfl ?_
      refine v_nil ?_
      refine d_q rfl rfl rfl rfl rfl ?_
      refine v_load_pt (.c _) lay61 rfl rfl rfl rfl ?_
      refine v_nil ?_
      refine d_q rfl rfl rfl rfl rfl ?_
      refine v_fa_pt (off' := 1) lay101 rfl rfl rfl ?_
      refine v_nil ?_
      refine d_q rfl rfl rfl rfl rfl ?_
      refine v_load_pt (.c _) lay2 rfl rfl rfl rfl ?_
      refine v_nil ?_
      refine d_q rfl rfl rfl rfl rfl ?_
      refine v_idx_mu_e (k := 2) (off := 0) (pn) lay61 lay46 rfl rfl rfl (hpn) (by omega) ?_
      refine v_nil ?_
      refine d_q rfl rfl rfl rfl rfl ?_
      refine v_assign rfl ?_
      refine v_nil ?_
      refine d_nil ?_
      refine q_n ?_
      refine w_seq ?_
      refine w_seq ?_
      refine w_draw [0, 1, 0, 4, 12, 28, 63] [⟨0, 0, []⟩, ⟨1, 0, []⟩, ⟨2, 0, []⟩, ⟨3, 0, []⟩, ⟨4, 0, []⟩, ⟨5, 0, []⟩, ⟨6, 0, []⟩] rfl rfl ?_
      refine d_q rfl rfl rfl rfl rfl ?_
      refine v_fa_pt (off' := 3) lay101 rfl rfl rfl ?_
      refine v_nil ?_
      refine d_q rfl rfl rfl rfl rfl ?_
      refine v_load_pt (.c _) lay2 rfl rfl rfl rfl ?_
      refine v_nil ?_
      refine d_q rfl rfl rfl rfl rfl ?_
      refine v_move rfl ?_
      refine v_nil ?_
      refine d_q rfl rfl rfl rfl rfl ?_
      refine v_nil_pt rfl ?_
      refine v_nil ?_
      refine d_q rfl rfl rfl rfl rfl ?_
      refine v_fa_pt (off' := _) lay46 rfl rfl rfl ?_
      refine v_nil ?_
      refine d_q rfl rfl rfl rfl rfl ?_
      refine v_load_flat pn 1 (.c (.v _)) pe_len lay2 rfl rfl (by omega) (by first | omega | (simp; omega)) rfl rfl ?_
      refine v_nil ?_
      refine d_q rfl rfl rfl rfl rfl ?_
      refine v_gtr lay2 rfl rfl (fun h37 => ?_) (fun h37 => ?_)
      · have hnv := h37
        exact absurd h37 hv1
      have hnv := h37
      refine v_nil ?_
      refine d_nil ?_
      refine q_n ?_
      refine w_f rfl ?_
      refine w_skip ?_
      refine q_n ?_
      refine w_draw [0, 0, 2, 6, 14, 30, 0, 64, 0, 256, 768, 1792, 0, 4096, 12288, 28672, 65472, 131008, 262142, 524287, 1048575, 2097151, 4194303] [⟨0, 0, []⟩, ⟨1, 0, []⟩, ⟨2, 0, []⟩, ⟨3, 0, []⟩, ⟨4, 0, []⟩, ⟨5, 0, []⟩, ⟨6, 0, []⟩, ⟨7, 0, []⟩, ⟨8, 0, []⟩, ⟨9, 0, []⟩, ⟨10, 0, []⟩, ⟨11, 0, []⟩, ⟨12, 0, []⟩, ⟨13, 0, []⟩, ⟨14, 0, []⟩, ⟨15, 0, []⟩, ⟨16, 0, []⟩, ⟨17, 2, []⟩, ⟨18, 1, []⟩, ⟨19, 0, []⟩, ⟨20, 0, []⟩, ⟨21, 0, []⟩, ⟨22, 1, []⟩] rfl rfl ?_
      refine d_q rfl rfl rfl rfl rfl ?_
      refine v_move rfl ?_
      refine v_nil ?_
      refine d_q rfl rfl rfl rfl rfl ?_
      refine v_move rfl ?_
      refine v_nil ?_
      refine d_q rfl rfl rfl rfl rfl ?_
      refine v_nil_pt rfl ?_
      refine v_nil ?_
      refine d_q rfl rfl rfl rfl rfl ?_
      refine v_fa_pt (off' := 0) lay94 rfl rfl rfl ?_
      refine v_nil ?_
      refine d_q rfl rfl rfl rfl rfl ?_
      refine v_fa_pt (off' := 4) lay64 rfl rfl rfl ?_
      refine v_nil ?_
      refine d_q rfl rfl rfl rfl rfl ?_
      refine v_load_pt (.c _) lay62 rfl rfl rfl rfl ?_
      refine v_nil ?_
      refine d_q rfl rfl rfl rfl rfl ?_
      refine v_fa_pt (off' := 1) lay101 rfl rfl rfl ?_
      refine v_nil ?_
      refine d_q rfl rfl rfl rfl rfl ?_
      refine v_load_pt (.c _) lay2 rfl rfl rfl rfl ?_
      refine v_nil ?_
      refine d_q rfl rfl rfl rfl rfl ?_
      refine v_move rfl ?_
      refine v_nil ?_
      refine d_q rfl rfl rfl rfl rfl ?_
      refine v_nil_pt rfl ?_
      refine v_nil ?_
      refine d_q rfl rfl rfl rfl rfl ?_
      refine v_fa_pt (off' := _) lay46 rfl rfl rfl ?_
      refine v_nil ?_
      refine d_q rfl rfl rfl rfl rfl ?_
      refine v_load_flat pn 0 (.c (.v _)) pe_len lay2 rfl rfl (by omega) (by first | omega | (simp; omega)) rfl rfl ?_
      refine v_nil ?_
      refine d_q rfl rfl rfl rfl rfl ?_
      refine v_move rfl ?_
      refine v_nil ?_
      refine d_q rfl rfl rfl rfl rfl ?_
      refine v_nil_pt rfl ?_
      refine v_nil ?_
      refine d_q rfl rfl rfl rfl rfl ?_
      refine v_fa_pt (off' := _) lay46 rfl rfl rfl ?_
      refine v_nil ?_
      refine d_q rfl rfl rfl rfl rfl ?_
      refine v_load_flat pn 1 (.c (.v _)) pe_len lay2 rfl rfl (by omega) (by first | omega | (simp; omega)) rfl rfl ?_
      refine v_nil ?_
      refine d_q rfl rfl rfl rfl rfl ?_
      refine v_build [(0, 1), (1, 1), (2, 1), (3, 1)] [.v _, .v _, .v _, .v _] lay101 rfl rfl ?_
      refine v_nil ?_
      refine d_z (.c (.sl true 1 4 (flat nce [(true, b.wr[a].2.1, b.ps[pn].1, b.ps[pn].2)]))) rfl rfl rfl ?_
      refine d_e rfl rfl rfl ?_
      refine v_app_flat_sl (H' := [_, _, _, _, _, _, _, _, _, _, _, _]) nce_sc nce_len lay62 lay101 rfl rfl (by first | rfl | (simp; done) | (simp; omega) | omega | (rw [bg_l (by omega)])) rfl rfl rfl (by unfold maxLen; simp only []; omega) rfl rfl ?_
      refine v_nil ⟨again_nil, ?_⟩
      refine d_q rfl rfl rfl rfl rfl ?_
      refine v_nil_pt rfl ?_
      refine v_nil ?_
      refine d_q rfl rfl rfl rfl rfl ?_
      refine v_fa_pt (off' := 0) lay94 rfl rfl rfl ?_
      refine v_nil ?_
      refine d_q rfl rfl rfl rfl rfl ?_
      refine v_fa_pt (off' := 4) lay64 rfl rfl rfl ?_
      refine v_nil ?_
      refine d_e rfl rfl rfl ?_
      refine v_store (H' := [_, _, ⟨[_, _, _, _, _, _, _], 94, true⟩, _, _, _, _, _, _, _, _, _]) lay62 rfl rfl rfl rfl rfl rfl ?_
      refine v_nil ⟨again_nil, ?_⟩
      refine d_nil ?_
      refine r_n rfl ?_
      exact ⟨rfl, rfl⟩
    · exact again_nil
    refine d_nil ?_
    refine q_bn ?_
    refine q_n ?_
    refine w_seq ?_
    refine w_reg rfl ?_
    refine v_assign (c := .v (.int .i64 0)) rfl ?_
    refine v_nil ?_
    refine q_n ?_
    refine w_ret ?_
    refine r_r rfl ?_
    refine v_eql lay2 rfl rfl (fun h38 => ?_) (fun h38 => ?_)
    rotate_left
    · exact absurd (by decide) h38
    refine v_nil ?_
    refine q_n ?_
    refine w_t rfl ?_
    refine w_reg rfl ?_
    refine v_move rfl ?_
    refine v_add lay2 rfl rfl (i64r (by omega)) ?_
    refine v_assign rfl ?_
    refine v_nil ?_
    refine q_bn ?_
    refine q_n ?_
    refine w_reg rfl ?_
    refine v_add lay3 rfl rfl (i64r (by omega)) ?_
    refine v_move rfl ?_
    refine v_nil ?_
    refine q_n ?_
    have hdo : doB p b ds[i] = ({ b with wr := b.wr ++ [(true, b.wr[a].2.1, b.ps[pn].1, b.ps[pn].2)] }, 0) := do_copy hk4 ha k4 e6 (come_old (Bool.eq_false_iff.2 hb1) hpn k6 hv1)
    refine ⟨_, _, _, ?_, ⟨i + 1, { b with wr := b.wr ++ [(true, b.wr[a].2.1, b.ps[pn].1, b.ps[pn].2)] }, cs ++ [0], rfl, by omega, st_step hst hi1 hdo, ok_do hok hd hdo, by simp; omega, rfl, rfl⟩, by omega⟩
    exact turn [some 0, some 1, some 2, some 3, some 4, some 5, some 6, some 11] rfl rfl rfl ⟨⟨_, rfl, .cons tr_v (.cons tr_sl .nil)⟩, ⟨_, rfl, .cons tr_v (.cons tr_v (.cons tr_v (.cons tr_v (.cons tr_v .nil))))⟩, ⟨_, rfl, .cons (tr_mun rfl (by first | rfl | (simp; done) | (simp; omega) | (rw [bg_l (by omega)]))) (.cons (tr_mun rfl (by first | rfl | (simp; done) | (simp; omega) | (rw [bg_l (by omega)]))) (.cons (tr_mun rfl (by first | rfl | (simp; done) | (simp; omega) | (rw [bg_l (by omega)]))) (.cons (tr_mun rfl (by first | rfl | (simp; done) | (simp; omega) | (rw [bg_l (by omega)]))) (.cons (tr_mun rfl (by first | rfl | (simp; done) | (simp; omega) | (rw [bg_l (by omega)]))) (.cons tr_v (.cons tr_sl .nil))))))⟩, ⟨_, rfl, trc_flat pe_sc rfl⟩, ⟨_, rfl, trc_flat pe_sc rfl⟩, ⟨_, rfl, trc_flat pe_sc rfl⟩, ⟨_, rfl, trc_flat int_sc rfl⟩, ⟨_, rfl, trc_flat nce_sc rfl⟩, trivial⟩ ⟨tr_pt rfl, (tr_i (cz_eq rfl)), tr_sl, tr_v, tr_v, trivial⟩
  refine d_id ?_
  refine d_inl (n := 71) (drawD_ok X) (fun _ _ => Go.Proofs.Try.call91 _ _) Go.Proofs.Try.func91 rfl rfl rfl rfl rfl rfl ?_
  apply Exists.intro
  apply Exists.intro
  refine ⟨?_, ?_, ?_⟩
  · skip
    refine w_seq ?_
    refine w_reg rfl ?_
    refine v_box (m := 10) (H' := [_, _, _, _, _, _, _, _, _, _, _]) lay101 rfl rfl rfl ?_
    refine v_nil ?_
    refine q_n ?_
    refine w_seq ?_
    refine w_seq ?_
    refine w_reg rfl ?_
    refine v_fa_pt (off' := 0) lay101 rfl rfl rfl ?_
    refine v_load_ptb lay4 rfl rfl rfl rfl (fun h31 => ?_) (fun h31 => ?_)
    · have hbk := h31
      exact absurd ((Bool.eq_false_iff.2 hb1).symm.trans h31) (by decide)
    have hbk := h31
    refine v_nil ?_
    refine q_n ?_
    refine w_f rfl ?_
    refine w_skip ?_
    refine q_n ?_
    refine w_seq ?_
    refine w_draw [0, 1, 3, 7, 15, 0, 32, 127, 255] [⟨0, 0, []⟩, ⟨1, 0, []⟩, ⟨2, 0, []⟩, ⟨3, 0, []⟩, ⟨4, 0, []⟩, ⟨5, 0, []⟩, ⟨6, 0, []⟩, ⟨7, 0, []⟩, ⟨8, 0, []⟩] rfl rfl ?_
    refine d_q rfl rfl rfl rfl rfl ?_
    refine v_move rfl ?_
    refine v_nil ?_
    refine d_q rfl rfl rfl rfl rfl ?_
    refine v_nil_pt rfl ?_
    refine v_nil ?_
    refine d_q rfl rfl rfl rfl rfl ?_
    refine v_fa_pt (off' := 0) lay94 rfl rfl rfl ?_
    refine v_nil ?_
    refine d_q rfl rfl rfl rfl rfl ?_
    refine v_fa_pt (off' := 1) lay64 rfl rfl rfl ?_
    refine v_nil ?_
    refine d_q rfl rfl rfl rfl rfl ?_
    refine v_load_pt (.c _) lay61 rfl rfl rfl rfl ?_
    refine v_nil ?_
    refine d_q rfl rfl rfl rfl rfl ?_
    refine v_fa_pt (off' := 1) lay101 rfl rfl rfl ?_
    refine v_nil ?_
    refine d_q rfl rfl rfl rfl rfl ?_
    refine v_load_pt (.c _) lay2 rfl rfl rfl rfl ?_
    refine v_nil ?_
    refine d_q rfl rfl rfl rfl rfl ?_
    refine v_idx_mu_e (k := 2) (off := 0) (pn) lay61 lay46 rfl rfl rfl (hpn) (by omega) ?_
    refine v_nil ?_
    refine d_q rfl rfl rfl rfl rfl ?_
    refine v_assign rfl ?_
    refine v_nil ?_
    refine d_nil ?_
    refine q_n ?_
    refine w_seq ?_
    refine w_seq ?_
    refine w_draw [0, 1, 0, 4, 12, 28, 63] [⟨0, 0, []⟩, ⟨1, 0, []⟩, ⟨2, 0, []⟩, ⟨3, 0, []⟩, ⟨4, 0, []⟩, ⟨5, 0, []⟩, ⟨6, 0, []⟩] rfl rfl ?_
    refine d_q rfl rfl rfl rfl rfl ?_
    refine v_fa_pt (off' := 3) lay101 rfl rfl rfl ?_
    refine v_nil ?_
    refine d_q rfl rfl rfl rfl rfl ?_
    refine v_load_pt (.c _) lay2 rfl rfl rfl rfl ?_
    refine v_nil ?_
    refine d_q rfl rfl rfl rfl rfl ?_
    refine v_move rfl ?_
    refine v_nil ?_
    refine d_q rfl rfl rfl rfl rfl ?_
    refine v_nil_pt rfl ?_
    refine v_nil ?_
    refine d_q rfl rfl rfl rfl rfl ?_
    refine v_fa_pt (off' := _) lay46 rfl rfl rfl ?_
    refine v_nil ?_
    refine d_q rfl rfl rfl rfl rfl ?_
    refine v_load_flat pn 1 (.c (.v _)) pe_len lay2 rfl rfl (by omega) (by first | omega | (simp; omega)) rfl rfl ?_
    refine v_nil ?_
    refine d_q rfl rfl rfl rfl rfl ?_
    refine v_gtr lay2 rfl rfl (fun h33 => ?_) (fun h33 => ?_)
    rotate_left
    · have hnv := h33
      exact absurd hv1 h33
    have hnv := h33
    refine v_nil ?_
    refine d_nil ?_
    refine q_n ?_
    refine w_t rfl ?_
    refine w_reg rfl ?_
    refine v_move rfl ?_
    refine v_fa_pt (off' := 2) lay101 rfl rfl rfl ?_
    refine v_load_pt (.c _) lay2 rfl rfl rfl rfl ?_
    refine v_fa_pt (off' := 3) lay101 rfl rfl rfl ?_
    refine v_load_pt (.c _) lay2 rfl rfl rfl rfl ?_
    refine v_build [(0, 1), (1, 1)] [.v _, .v _] lay46 rfl rfl ?_
    refine v_nil_pt rfl ?_
    refine v_store_flat (H' := [_, _, _, _, _, _, _, _, _, _, _]) pn 0 ((b.wr[a].2.2.1, b.wr[a].2.2.2)) pe_len lay46 rfl rfl rfl (by omega) (by first | omega | (simp; omega)) rfl rfl (rfl) rfl ?_
    refine v_nil ?_
    refine q_n ?_
    refine w_draw [0, 0, 2, 6, 14, 30, 0, 64, 0, 256, 768, 1792, 0, 4096, 12288, 28672, 65472, 131008, 262142, 524287, 1048575, 2097151, 4194303] [⟨0, 0, []⟩, ⟨1, 0, []⟩, ⟨2, 0, []⟩, ⟨3, 0, []⟩, ⟨4, 0, []⟩, ⟨5, 0, []⟩, ⟨6, 0, []⟩, ⟨7, 0, []⟩, ⟨8, 0, []⟩, ⟨9, 0, []⟩, ⟨10, 0, []⟩, ⟨11, 0, []⟩, ⟨12, 0, []⟩, ⟨13, 0, []⟩, ⟨14, 0, []⟩, ⟨15, 0, []⟩, ⟨16, 0, []⟩, ⟨17, 2, []⟩, ⟨18, 1, []⟩, ⟨19, 0, []⟩, ⟨20, 0, []⟩, ⟨21, 0, []⟩, ⟨22, 1, []⟩] rfl rfl ?_
    refine d_q rfl rfl rfl rfl rfl ?_
    refine v_move rfl ?_
    refine v_nil ?_
    refine d_q rfl rfl rfl rfl rfl ?_
    refine v_move rfl ?_
    refine v_nil ?_
    refine d_q rfl rfl rfl rfl rfl ?_
    refine v_nil_pt rfl ?_
    refine v_nil ?_
    refine d_q rfl rfl rfl rfl rfl ?_
    refine v_fa_pt (off' := 0) lay94 rfl rfl rfl ?_
    refine v_nil ?_
    refine d_q rfl rfl rfl rfl rfl ?_
    refine v_fa_pt (off' := 4) lay64 rfl rfl rfl ?_
    refine v_nil ?_
    refine d_q rfl rfl rfl rfl rfl ?_
    refine v_load_pt (.c _) lay62 rfl rfl rfl rfl ?_
    refine v_nil ?_
    refine d_q rfl rfl rfl rfl rfl ?_
    refine v_fa_pt (off' := 1) lay101 rfl rfl rfl ?_
    refine v_nil ?_
    refine d_q rfl rfl rfl rfl rfl ?_
    refine v_load_pt (.c _) lay2 rfl rfl rfl rfl ?_
    refine v_nil ?_
    refine d_q rfl rfl rfl rfl rfl ?_
    refine v_move rfl ?_
    refine v_nil ?_
    refine d_q rfl rfl rfl rfl rfl ?_
    refine v_nil_pt rfl ?_
    refine v_nil ?_
    refine d_q rfl rfl rfl rfl rfl ?_
    refine v_fa_pt (off' := _) lay46 rfl rfl rfl ?_
    refine v_nil ?_
    refine d_q rfl rfl rfl rfl rfl ?_
    refine v_load_flat pn 0 (.c (.v _)) pe_len lay2 rfl rfl (by omega) (by first | omega | (simp; omega)) rfl rfl ?_
    refine v_nil ?_
    refine d_q rfl rfl rfl rfl rfl ?_
    refine v_move rfl ?_
    refine v_nil ?_
    refine d_q rfl rfl rfl rfl rfl ?_
    refine v_nil_pt rfl ?_
    refine v_nil ?_
    refine d_q rfl rfl rfl rfl rfl ?_
    refine v_fa_pt (off' := _) lay46 rfl rfl rfl ?_
    refine v_nil ?_
    refine d_q rfl rfl rfl rfl rfl ?_
    refine v_load_flat pn 1 (.c (.v _)) pe_len lay2 rfl rfl (by omega) (by first | omega | (simp; omega)) rfl rfl ?_
    refine v_nil ?_
    refine d_q rfl rfl rfl rfl rfl ?_
    refine v_build [(0, 1), (1, 1), (2, 1), (3, 1)] [.v _, .v _, .v _, .v _] lay101 rfl rfl ?_
    refine v_nil ?_
    refine d_z (.c (.sl true 1 4 (flat nce [(true, b.wr[a].2.1, ((b.ps.set pn (b.wr[a].2.2.1, b.wr[a].2.2.2))[pn]'(by simpa using k6)).1, ((b.ps.set pn (b.wr[a].2.2.1, b.wr[a].2.2.2))[pn]'(by simpa using k6)).2)]))) rfl rfl rfl ?_
    refine d_e rfl rfl rfl ?_
    refine v_app_flat_sl (H' := [_, _, _, _, _, _, _, _, _, _, _, _]) nce_sc nce_len lay62 lay101 rfl rfl (by first | rfl | (simp; done) | (simp; omega) | omega | (rw [bg_l (by omega)])) rfl rfl rfl (by unfold maxLen; simp only []; omega) rfl rfl ?_
    refine v_nil ⟨again_nil, ?_⟩
    refine d_q rfl rfl rfl rfl rfl ?_
    refine v_nil_pt rfl ?_
    refine v_nil ?_
    refine d_q rfl rfl rfl rfl rfl ?_
    refine v_fa_pt (off' := 0) lay94 rfl rfl rfl ?_
    refine v_nil ?_
    refine d_q rfl rfl rfl rfl rfl ?_
    refine v_fa_pt (off' := 4) lay64 rfl rfl rfl ?_
    refine v_nil ?_
    refine d_e rfl rfl rfl ?_
    refine v_store (H' := [_, _, ⟨[_, _, _, _, _, _, _], 94, true⟩, _, _, _, _, _, _, _, _, _]) lay62 rfl rfl rfl rfl rfl rfl ?_
    refine v_nil ⟨again_nil, ?_⟩
    refine d_nil ?_
    refine r_n rfl ?_
    exact ⟨rfl, rfl⟩
  · exact again_nil
  refine d_nil ?_
  refine q_bn ?_
  refine q_n ?_
  refine w_seq ?_
  refine w_reg rfl ?_
  refine v_assign (c := .v (.int .i64 0)) rfl ?_
  refine v_nil ?_
  refine q_n ?_
  refine w_ret ?_
  refine r_r rfl ?_
  refine v_eql lay2 rfl rfl (fun h34 => ?_) (fun h34 => ?_)
  rotate_left
  · exact absurd (by decide) h34
  refine v_nil ?_
  refine q_n ?_
  refine w_t rfl ?_
  refine w_reg rfl ?_
  refine v_move rfl ?_
  refine v_add lay2 rfl rfl (i64r (by omega)) ?_
  refine v_assign rfl ?_
  refine v_nil ?_
  refine q_bn ?_
  refine q_n ?_
  refine w_reg rfl ?_
  refine v_add lay3 rfl rfl (i64r (by omega)) ?_
  refine v_move rfl ?_
  refine v_nil ?_
  refine q_n ?_
  have hdo : doB p b ds[i] = ({ b with ps := b.ps.set pn (b.wr[a].2.2.1, b.wr[a].2.2.2), wr := b.wr ++ [(true, b.wr[a].2.1, b.wr[a].2.2.1, b.wr[a].2.2.2)] }, 0) := do_copy hk4 ha k4 e6 (come_new (Bool.eq_false_iff.2 hb1) hpn k6 hv1)
  refine ⟨_, _, _, ?_, ⟨i + 1, { b with ps := b.ps.set pn (b.wr[a].2.2.1, b.wr[a].2.2.2), wr := b.wr ++ [(true, b.wr[a].2.1, b.wr[a].2.2.1, b.wr[a].2.2.2)] }, cs ++ [0], rfl, by omega, st_step hst hi1 hdo, ok_do hok hd hdo, by simp; omega, rfl, rfl⟩, by omega⟩
  exact turn [some 0, some 1, some 2, some 3, some 4, some 5, some 6, some 11] rfl rfl rfl ⟨⟨_, rfl, .cons tr_v (.cons tr_sl .nil)⟩, ⟨_, rfl, .cons tr_v (.cons tr_v (.cons tr_v (.cons tr_v (.cons tr_v .nil))))⟩, ⟨_, rfl, .cons (tr_mun rfl (by first | rfl | (simp; done) | (simp; omega) | (rw [bg_l (by omega)]))) (.cons (tr_mun rfl (by first | rfl | (simp; done) | (simp; omega) | (rw [bg_l (by omega)]))) (.cons (tr_mun rfl (by first | rfl | (simp; done) | (simp; omega) | (rw [bg_l (by omega)]))) (.cons (tr_mun rfl (by first | rfl | (simp; done) | (simp; omega) | (rw [bg_l (by omega)]))) (.cons (tr_mun rfl (by first | rfl | (simp; done) | (simp; omega) | (rw [bg_l (by omega)]))) (.cons tr_v (.cons tr_sl .nil))))))⟩, ⟨_, rfl, trc_flat pe_sc rfl⟩, ⟨_, rfl, trc_flat pe_sc rfl⟩, ⟨_, rfl, trc_flat pe_sc rfl⟩, ⟨_, rfl, trc_flat int_sc rfl⟩, ⟨_, rfl, trc_flat nce_sc (congrArg (flat nce) (by simp only [List.getElem_set_self]))⟩, trivial⟩ ⟨tr_pt rfl, (tr_i (cz_eq rfl)), tr_sl, tr_v, tr_v, trivial⟩

theorem c41 (p : Int) (fs : List Int) (ds : List De) (hx : fs.length ≤ 2 ^ 40) (hd : ds.length ≤ 2 ^ 40) : PureC X 41 [.agg (cen false p fs), .c (dcs false ds)] (boV (boR p fs ds)) :=
  (c41l p fs ds hx hd).pure (bo_frz (boR p fs ds).1 (boR p fs ds).2.1 (boR p fs ds).2.2)
end Go.VL
namespace Go.VL
open Go.RowKit
set_option maxRecDepth 20000
set_option maxHeartbeats 8000000
theorem c26 (p : Int) (fs : List Int) (ds : List De) (q : Int) (hx : fs.length ≤ 2 ^ 40) (hd : ds.length ≤ 2 ^ 40) : PureC X 26 [.agg (cen false p fs), .c (dcs false ds), cI q] (poV (postR p fs ds q)) := by
  refine PureC.of_body (drawD_ok X) (fun _ _ => Go.Proofs.Try.call26 _ _) Go.Proofs.Try.func26 rfl (n := 33) rfl ?_
  refine w_seq ?_
  refine w_reg rfl ?_
  refine v_box (m := 0) (H' := [_]) lay33 rfl rfl rfl ?_
  refine v_alloc (m := 1) (H' := [_, ⟨[.v _, .v _], 46, true⟩]) lay46 rfl rfl ?_
  refine v_assign (c := .v (.int .i64 0)) rfl ?_
  refine v_nil ?_
  refine q_n ?_
  refine w_seq ?_
  refine w_seq ?_
  refine w_reg rfl ?_
  refine v_load_pt (.agg [_, _]) lay33 rfl rfl rfl rfl ?_
  refine v_move rfl ?_
  refine v_move rfl ?_
  refine v_call (c60 _ _ _ _ (by omega) (by omega)) rfl rfl rfl (.cons (vw_agg (.cons vw_v (.cons vw_sl .nil))) (.cons vw_sl (.cons vw_v .nil))) ?_
  refine v_assign rfl ?_
  refine v_nil ?_
  refine q_n ?_
  refine w_seq ?_
  refine w_reg rfl ?_
  refine v_move rfl ?_
  refine v_neq lay2 rfl rfl (fun h1 => ?_) (fun h1 => ?_)
  · refine v_nil ?_
    refine q_n ?_
    refine w_t rfl ?_
    refine w_seq ?_
    refine w_reg rfl ?_
    refine v_build [(0, 1), (1, 1)] [.v _, .v _] lay46 rfl rfl ?_
    refine v_move rfl ?_
    refine v_store (H' := [_, ⟨[_, _], 46, true⟩]) lay46 rfl rfl rfl rfl rfl rfl ?_
    refine v_assign rfl ?_
    refine v_nil ?_
    refine q_n ?_
    refine w_ret (q_r ?_)
    refine r_r rfl ?_
    exact a_po (po_bad rfl h1)
  have hdc := h1
  obtain ⟨hg, hq0, hq1⟩ := dc_ok hdc
  obtain ⟨hoc, hds, hdl⟩ := gv_ok hg
  have hf : fs.length ≤ 6 := hoc.2.2.2.1
  obtain ⟨n, hn⟩ : ∃ n : Nat, q = n := Int.eq_ofNat_of_zero_le hq0
  have hpl := (st_ok (p := p) (fs := fs) hds ds.length (Nat.le_refl _)).ps
  have hnl : n < (stB p fs ds ds.length).1.ps.length := by omega
  refine v_nil ?_
  refine q_n ?_
  refine w_f rfl ?_
  refine w_skip ?_
  refine q_n ?_
  refine w_seq ?_
  refine w_reg rfl ?_
  refine v_load_pt (.agg [_, _]) lay33 rfl rfl rfl rfl ?_
  refine v_move rfl ?_
  refine v_call (c65 p fs ds (by omega) (by assumption) (by omega)) rfl rfl rfl (.cons (vw_agg (.cons vw_v (.cons vw_sl .nil))) (.cons vw_sl .nil)) ?_
  refine v_move_t rfl ?_
  refine v_extract_c rfl rfl ?_
  refine v_extract_c rfl rfl ?_
  refine v_assign rfl ?_
  refine v_assign rfl ?_
  refine v_nil ?_
  refine q_n ?_
  refine w_seq ?_
  refine w_reg rfl ?_
  refine v_move rfl ?_
  refine v_nil_vw rfl ?_
  refine v_fa_vw (off' := 0) lay94 rfl rfl rfl ?_
  refine v_fa_vw (off' := 1) lay64 rfl rfl rfl ?_
  refine v_load_vw (.c (_)) lay61 rfl rfl rfl ?_
  refine v_move rfl ?_
  refine v_idx_e (k := 2) (n) pe_len lay61 lay46 rfl rfl rfl (rfl) rfl (hn) (by omega) ?_
  refine v_load_vw (.agg [.v _, .v _]) lay46 rfl rfl rfl ?_
  refine v_store (H' := [_, ⟨[_, _], 46, true⟩]) lay46 rfl rfl rfl rfl rfl rfl ?_
  refine v_assign (c := .v (.int .i64 0)) rfl ?_
  refine v_nil ?_
  refine q_n ?_
  refine w_ret ?_
  refine r_r rfl ?_
  exact a_po (po_at hdc hn hnl)

theorem c93 (xs ys : List Po) (hx : xs.length ≤ 2 ^ 40) : PureC X 93 [.c (.sl false xs.length 2 (flat pe xs)), .c (.sl false ys.length 2 (flat pe ys))] (cB (decide (xs = ys))) := by
  refine PureC.of_body (drawD_ok X) (fun _ _ => Go.Proofs.Try.call93 _ _) Go.Proofs.Try.func93 rfl (n := 26) rfl ?_
  refine w_seq ?_
  refine w_reg rfl ?_
  refine v_assign (c := .v (.bool false)) rfl ?_
  refine v_nil ?_
  refine q_n ?_
  refine w_seq ?_
  refine w_seq ?_
  refine w_reg rfl ?_
  refine v_move rfl ?_
  refine v_len_sl lay61 rfl ?_
  refine v_move rfl ?_
  refine v_len_sl lay61 rfl ?_
  refine v_neq lay3 rfl rfl (fun h1 => ?_) (fun h1 => ?_)
  · refine v_nil ?_
    refine q_n ?_
    refine w_t rfl ?_
    refine w_seq ?_
    refine w_reg rfl ?_
    refine v_assign (c := .v (.bool false)) rfl ?_
    refine v_nil ?_
    refine q_n ?_
    refine w_ret (q_r ?_)
    refine r_r rfl ?_
    exact a_b (by simp only [Bool.false_eq_true, false_iff]; rintro rfl; exact h1 rfl)
  refine v_nil ?_
  refine q_n ?_
  refine w_f rfl ?_
  refine w_skip ?_
  refine q_n ?_
  refine w_seq ?_
  refine w_seq ?_
  refine w_reg rfl ?_
  refine v_move rfl ?_
  refine v_len_sl lay61 rfl ?_
  refine v_move (c := .v (.int .i64 0)) rfl ?_
  refine v_nil ?_
  refine q_n ?_
  refine w_block ?_
  refine w_loop (fun k sl H => ∃ i : Nat, k = xs.length - i ∧ i ≤ xs.length ∧ xs.take i = ys.take i ∧ sl = sls [(0, .c (.sl false xs.length 2 (flat pe xs))), (1, .c (.sl false ys.length 2 (flat pe ys))), (12, cI xs.length), (13, cI i)] ∧ H = []) ?_ ?_
  · refine ⟨_, _, _, ?_, 0, rfl, Nat.zero_le _, rfl, rfl, rfl⟩
    exact turn0 ⟨tr_sl, tr_sl, tr_v, tr_v, trivial⟩
  rintro k sl H ⟨i, rfl, hi, hp, rfl, rfl⟩
  refine w_seq ?_
  refine w_reg rfl ?_
  refine v_lss lay3 rfl rfl (fun h2 => ?_) (fun h2 => ?_)
  rotate_left
  · refine v_nil ?_
    refine q_n ?_
    refine w_seq ?_
    refine w_f rfl ?_
    refine w_exit ?_
    refine q_e ?_
    refine q_e ?_
    refine q_hit ?_
    refine q_n ?_
    refine w_seq ?_
    refine w_reg rfl ?_
    refine v_assign (c := .v (.bool true)) rfl ?_
    refine v_nil ?_
    refine q_n ?_
    refine w_ret ?_
    refine r_r rfl ?_
    exact a_b (by simp only [true_iff]; exact take_all_eq hp (by omega) (by omega))
  have i1 : i < xs.length := by omega
  have i2 : i < ys.length := by omega
  refine v_nil ?_
  refine q_n ?_
  refine w_seq ?_
  refine w_t rfl ?_
  refine w_skip ?_
  refine q_n ?_
  refine w_seq ?_
  refine w_block ?_
  refine w_seq ?_
  refine w_reg rfl ?_
  refine v_move rfl ?_
  refine v_assign rfl ?_
  refine v_nil ?_
  refine q_n ?_
  refine w_seq ?_
  refine w_draw [0, 0, 3, 7, 0, 0, 48, 112, 255] [⟨0, 0, []⟩, ⟨1, 0, []⟩, ⟨2, 0, []⟩, ⟨3, 0, []⟩, ⟨4, 0, []⟩, ⟨5, 0, []⟩, ⟨6, 0, []⟩, ⟨7, 0, []⟩, ⟨8, 0, []⟩] rfl rfl ?_
  refine d_q rfl rfl rfl rfl rfl ?_
  refine v_move rfl ?_
  refine v_nil ?_
  refine d_q rfl rfl rfl rfl rfl ?_
  refine v_move rfl ?_
  refine v_nil ?_
  refine d_q rfl rfl rfl rfl rfl ?_
  refine v_idx_e (k := 2) (i) pe_len lay61 lay46 rfl rfl rfl (rfl) rfl (rfl) (by omega) ?_
  refine v_nil ?_
  refine d_q rfl rfl rfl rfl rfl ?_
  refine v_load_vw (.agg [.v _, .v _]) lay46 rfl rfl rfl ?_
  refine v_nil ?_
  refine d_q rfl rfl rfl rfl rfl ?_
  refine v_move rfl ?_
  refine v_nil ?_
  refine d_q rfl rfl rfl rfl rfl ?_
  refine v_move rfl ?_
  refine v_nil ?_
  refine d_q rfl rfl rfl rfl rfl ?_
  refine v_idx_e (k := 2) (i) pe_len lay61 lay46 rfl rfl rfl (rfl) rfl (rfl) (by omega) ?_
  refine v_nil ?_
  refine d_q rfl rfl rfl rfl rfl ?_
  refine v_load_vw (.agg [.v _, .v _]) lay46 rfl rfl rfl ?_
  refine v_nil ?_
  refine d_rawb (rq46 (a := xs[i]) (b := ys[i]) rfl rfl) rfl rfl rfl rfl rfl (fun h5 => ?_) (fun h5 => ?_)
  · have hne := h5
    refine d_nil ?_
    refine q_n ?_
    refine w_t rfl ?_
    refine w_seq ?_
    refine w_reg rfl ?_
    refine v_assign (c := .v (.bool false)) rfl ?_
    refine v_nil ?_
    refine q_n ?_
    refine w_ret (q_br (q_r (q_r (q_br (q_r ?_)))))
    refine r_r rfl ?_
    exact a_b (by simp only [Bool.false_eq_true, false_iff]; exact ne_at i1 i2 hne)
  have hne := h5
  refine d_nil ?_
  refine q_n ?_
  refine w_f rfl ?_
  refine w_skip ?_
  refine q_bn ?_
  refine q_n ?_
  refine w_reg rfl ?_
  refine v_add lay3 rfl rfl (i64r (by omega)) ?_
  refine v_move rfl ?_
  refine v_nil ?_
  refine q_n ?_
  refine ⟨_, _, _, ?_, ⟨i + 1, rfl, by omega, take_step_eq hp (by omega) (by omega) (Decidable.of_not_not hne), rfl, rfl⟩, by omega⟩
  exact turn0 ⟨tr_sl, tr_sl, tr_v, tr_v, trivial⟩

theorem c67 (b : Bd) (hb : b.ps.length ≤ 2 ^ 40) : PureC X 67 [.c (.vw false (bdw b) 0)] (cB (decide (b.ps = b.nw))) := by
  refine PureC.of_body (drawD_ok X) (fun _ _ => Go.Proofs.Try.call67 _ _) Go.Proofs.Try.func67 rfl (n := 14) rfl ?_
  refine w_seq ?_
  refine w_reg rfl ?_
  refine v_assign (c := .v (.bool false)) rfl ?_
  refine v_nil ?_
  refine q_n ?_
  refine w_seq ?_
  refine w_draw [0, 1, 3, 7, 15, 0, 32, 96, 224, 480, 1023, 2047] [⟨0, 0, []⟩, ⟨1, 0, []⟩, ⟨2, 0, []⟩, ⟨3, 0, []⟩, ⟨4, 0, []⟩, ⟨5, 0, []⟩, ⟨6, 0, []⟩, ⟨7, 0, []⟩, ⟨8, 0, []⟩, ⟨9, 0, []⟩, ⟨10, 0, []⟩, ⟨11, 0, []⟩] rfl rfl ?_
  refine d_q rfl rfl rfl rfl rfl ?_
  refine v_move rfl ?_
  refine v_nil ?_
  refine d_q rfl rfl rfl rfl rfl ?_
  refine v_nil_vw rfl ?_
  refine v_nil ?_
  refine d_q rfl rfl rfl rfl rfl ?_
  refine v_fa_vw (off' := 0) lay94 rfl rfl rfl ?_
  refine v_nil ?_
  refine d_q rfl rfl rfl rfl rfl ?_
  refine v_fa_vw (off' := 1) lay64 rfl rfl rfl ?_
  refine v_nil ?_
  refine d_q rfl rfl rfl rfl rfl ?_
  refine v_load_vw (.c (_)) lay61 rfl rfl rfl ?_
  refine v_nil ?_
  refine d_q rfl rfl rfl rfl rfl ?_
  refine v_move rfl ?_
  refine v_nil ?_
  refine d_q rfl rfl rfl rfl rfl ?_
  refine v_nil_vw rfl ?_
  refine v_nil ?_
  refine d_q rfl rfl rfl rfl rfl ?_
  refine v_fa_vw (off' := 0) lay94 rfl rfl rfl ?_
  refine v_nil ?_
  refine d_q rfl rfl rfl rfl rfl ?_
  refine v_fa_vw (off' := 0) lay64 rfl rfl rfl ?_
  refine v_nil ?_
  refine d_q rfl rfl rfl rfl rfl ?_
  refine v_load_vw (.c (_)) lay61 rfl rfl rfl ?_
  refine v_nil ?_
  refine d_callb (c93 b.ps b.nw (by omega)) rfl rfl rfl rfl (.cons vw_sl (.cons vw_sl .nil)) (fun h1 => ?_) (fun h1 => ?_)
  · refine d_q rfl rfl rfl rfl rfl ?_
    refine v_assign rfl ?_
    refine v_nil ?_
    refine d_nil ?_
    refine q_n ?_
    refine w_ret ?_
    refine r_r rfl ?_
    exact a_b (by simp only [true_iff]; exact h1)
  refine d_q rfl rfl rfl rfl rfl ?_
  refine v_assign rfl ?_
  refine v_nil ?_
  refine d_nil ?_
  refine q_n ?_
  refine w_ret ?_
  refine r_r rfl ?_
  exact a_b (by simp only [Bool.false_eq_true, false_iff]; exact h1)

theorem c29 (p : Int) (fs : List Int) (ds : List De) (hx : fs.length ≤ 2 ^ 40) (hd : ds.length ≤ 2 ^ 40) : PureC X 29 [.agg (cen false p fs), .c (dcs false ds)] (agV (agR p fs ds)) := by
  refine PureC.of_body (drawD_ok X) (fun _ _ => Go.Proofs.Try.call29 _ _) Go.Proofs.Try.func29 rfl (n := 23) rfl ?_
  refine w_seq ?_
  refine w_reg rfl ?_
  refine v_box (m := 0) (H' := [_]) lay33 rfl rfl rfl ?_
  refine v_assign (c := .v (.bool false)) rfl ?_
  refine v_assign (c := .v (.int .i64 0)) rfl ?_
  refine v_nil ?_
  refine q_n ?_
  refine w_seq ?_
  refine w_seq ?_
  refine w_reg rfl ?_
  refine v_load_pt (.agg [_, _]) lay33 rfl rfl rfl rfl ?_
  refine v_move rfl ?_
  refine v_call (c60 _ _ _ _ (by omega) (by omega)) rfl rfl rfl (.cons (vw_agg (.cons vw_v (.cons vw_sl .nil))) (.cons vw_sl (.cons vw_v .nil))) ?_
  refine v_assign rfl ?_
  refine v_nil ?_
  refine q_n ?_
  refine w_seq ?_
  refine w_reg rfl ?_
  refine v_move rfl ?_
  refine v_neq lay2 rfl rfl (fun h1 => ?_) (fun h1 => ?_)
  · refine v_nil ?_
    refine q_n ?_
    refine w_t rfl ?_
    refine w_seq ?_
    refine w_reg rfl ?_
    refine v_move rfl ?_
    refine v_assign (c := .v (.bool false)) rfl ?_
    refine v_assign rfl ?_
    refine v_nil ?_
    refine q_n ?_
    refine w_ret (q_r ?_)
    refine r_r rfl ?_
    exact a_ag (ag_bad2 h1)
  have hg : gvR p fs ds = 0 := by rw [← dc_gv]; omega
  obtain ⟨hoc, hds, hdl⟩ := gv_ok hg
  have hf : fs.length ≤ 6 := hoc.2.2.2.1
  have hok := st_ok (p := p) (fs := fs) hds ds.length (Nat.le_refl _)
  have n1 := hok.nw
  have n2 := hok.ps
  have n4 := hok.kn
  have n5 := hok.wr
  refine v_nil ?_
  refine q_n ?_
  refine w_f rfl ?_
  refine w_skip ?_
  refine q_n ?_
  refine w_seq ?_
  refine w_reg rfl ?_
  refine v_load_pt (.agg [_, _]) lay33 rfl rfl rfl rfl ?_
  refine v_move rfl ?_
  refine v_call (c65 p fs ds (by omega) (by assumption) (by omega)) rfl rfl rfl (.cons (vw_agg (.cons vw_v (.cons vw_sl .nil))) (.cons vw_sl .nil)) ?_
  refine v_move_t rfl ?_
  refine v_extract_c rfl rfl ?_
  refine v_extract_c rfl rfl ?_
  refine v_assign rfl ?_
  refine v_assign rfl ?_
  refine v_nil ?_
  refine q_n ?_
  refine w_seq ?_
  refine w_reg rfl ?_
  refine v_move rfl ?_
  refine v_call (c67 (stB p fs ds ds.length).1 (by omega)) rfl rfl rfl (.cons vw_vw .nil) ?_
  refine v_assign rfl ?_
  refine v_assign (c := .v (.int .i64 0)) rfl ?_
  refine v_nil ?_
  refine q_n ?_
  refine w_ret ?_
  refine r_r rfl ?_
  exact a_ag (ag_of hg rfl)

theorem c30 (p : Int) (fs : List Int) (ds : List De) (hx : fs.length ≤ 2 ^ 40) (hd : ds.length ≤ 2 ^ 40) : PureC X 30 [.agg (cen false p fs), .c (dcs false ds)] (.tup [.c (ints true (lateR p fs ds).1), cI (lateR p fs ds).2]) := by
  refine PureC.of_body (drawD_ok X) (fun _ _ => Go.Proofs.Try.call30 _ _) Go.Proofs.Try.func30 rfl (n := 56) rfl ?_
  refine w_seq ?_
  refine w_reg rfl ?_
  refine v_box (m := 0) (H' := [_]) lay33 rfl rfl rfl ?_
  refine v_assign rfl ?_
  refine v_assign (c := .v (.int .i64 0)) rfl ?_
  refine v_nil ?_
  refine q_n ?_
  refine w_seq ?_
  refine w_seq ?_
  refine w_reg rfl ?_
  refine v_move rfl ?_
  refine v_call (c58 _ _ _ (by omega) (by omega)) rfl rfl rfl (.cons (vw_pt rfl (.cons .v (.cons (.sl (fun h => by cases h)) .nil))) (.cons vw_sl .nil)) ?_
  refine v_assign rfl ?_
  refine v_nil ?_
  refine q_n ?_
  refine w_seq ?_
  refine w_reg rfl ?_
  refine v_move rfl ?_
  refine v_neq lay2 rfl rfl (fun h1 => ?_) (fun h1 => ?_)
  · refine v_nil ?_
    refine q_n ?_
    refine w_t rfl ?_
    refine w_seq ?_
    refine w_reg rfl ?_
    refine v_lit (flat int []) (H' := [_, _]) lay28 lay2 rfl rfl ⟨by decide, by decide⟩ rfl rfl ?_
    refine v_move rfl ?_
    refine v_assign rfl ?_
    refine v_assign rfl ?_
    refine v_nil ?_
    refine q_n ?_
    refine w_ret (q_r ?_)
    refine r_r rfl ?_
    rw [late_bad h1]
    exact a_tup (.cons (a_flat2 int_sc int_len rfl rfl rfl rfl) (.cons tr_v .nil))
  have hg : gvR p fs ds = 0 := by omega
  obtain ⟨hoc, hds, hdl⟩ := gv_ok hg
  have hf : fs.length ≤ 6 := hoc.2.2.2.1
  refine v_nil ?_
  refine q_n ?_
  refine w_f rfl ?_
  refine w_skip ?_
  refine q_n ?_
  refine w_seq ?_
  refine w_reg rfl ?_
  refine v_move rfl ?_
  refine v_inl (n := 29) (drawD_ok X) (fun _ _ => Go.Proofs.Try.call59 _ _) Go.Proofs.Try.func59 rfl rfl rfl rfl ?_
  refine w_seq ?_
  refine w_reg rfl ?_
  refine v_assign (c := .v _) rfl ?_
  refine v_assign rfl ?_
  refine v_nil ?_
  refine q_n ?_
  refine w_seq ?_
  refine w_reg rfl ?_
  refine v_move rfl ?_
  refine v_inl (n := 74) (drawD_ok X) (fun _ _ => Go.Proofs.Try.call83 _ _) Go.Proofs.Try.func83 rfl rfl rfl rfl ?_
  refine w_seq ?_
  refine w_reg rfl ?_
  refine v_assign (c := .v _) rfl ?_
  refine v_nil ?_
  refine q_n ?_
  refine w_seq ?_
  refine w_reg rfl ?_
  refine v_move rfl ?_
  refine v_build [(0, 1), (1, 5)] [_, .v _, .v _, .v _, .v _, .v _] lay90 rfl rfl ?_
  refine v_box (m := 1) (H' := [_, _]) lay90 rfl rfl rfl ?_
  refine v_assign rfl ?_
  refine v_nil ?_
  refine q_n ?_
  refine w_seq ?_
  refine w_seq ?_
  refine w_reg rfl ?_
  refine v_assign (c := .v (.int .i64 0)) rfl ?_
  refine v_nil ?_
  refine q_n ?_
  refine w_block ?_
  refine w_loop (fun k sl H => ∃ i : Nat, k = fs.length - i ∧ i ≤ fs.length ∧ sl = sls [(0, .c (.pt 0 0)), (3, .c (.pt 1 0)), (4, cI i)] ∧ H = [⟨cen false p fs, 33, true⟩, ⟨[.pt 0 0, .mu 2 0 i 2, .mu 3 0 i 2, .mu 4 0 i 2, .mu 5 0 i 1, .mu 6 0 0 4], 90, true⟩, ⟨flat pe (bg fs i), 46, true⟩, ⟨flat pe (bg fs i), 46, true⟩, ⟨flat pe (bg fs i), 46, true⟩, ⟨flat int (List.replicate i 0), 2, true⟩, ⟨[], 101, true⟩]) ?_ ?_
  · refine ⟨_, _, _, ?_, 0, rfl, Nat.zero_le _, rfl, rfl⟩
    exact turn [some 0, some 1, none, none, none, none, none] rfl rfl rfl ⟨⟨_, rfl, .cons tr_v (.cons tr_sl .nil)⟩, ⟨_, rfl, .cons (tr_pt rfl) (.cons (tr_nil rfl) (.cons (tr_nil rfl) (.cons (tr_nil rfl) (.cons (tr_nil rfl) (.cons (tr_nil rfl) .nil)))))⟩, rfl, rfl, rfl, rfl, rfl, trivial⟩ ⟨tr_pt rfl, tr_pt rfl, tr_v, trivial⟩
  rintro k sl H ⟨i, rfl, hi, rfl, rfl⟩
  refine w_seq ?_
  refine w_seq ?_
  refine w_reg rfl ?_
  refine v_move rfl ?_
  refine v_move rfl ?_
  refine v_nil_pt rfl ?_
  refine v_fa_pt (off' := 1) lay33 rfl rfl rfl ?_
  refine v_load_pt (.c _) lay28 rfl rfl rfl rfl ?_
  refine v_len_sl lay28 rfl ?_
  refine v_lss lay3 rfl rfl (fun h2 => ?_) (fun h2 => ?_)
  · refine v_nil ?_
    refine q_n ?_
    refine w_t rfl ?_
    refine w_skip ?_
    refine q_n ?_
    refine w_seq ?_
    refine w_block ?_
    refine w_seq ?_
    refine w_reg rfl ?_
    refine v_move rfl ?_
    refine v_nil_pt rfl ?_
    refine v_fa_pt (off' := 1) lay33 rfl rfl rfl ?_
    refine v_load_pt (.c _) lay28 rfl rfl rfl rfl ?_
    refine v_move rfl ?_
    refine v_idx_e (k := 1) (i) int_len lay28 lay2 rfl rfl rfl (rfl) rfl (rfl) (by omega) ?_
    refine v_load_vw (.c (.v _)) lay2 rfl rfl rfl ?_
    refine v_build [(0, 1), (1, 1)] [.v _, .v _] lay46 rfl rfl ?_
    refine v_alloc (m := 7) (H' := [_, _, _, _, _, _, _, ⟨[.v _, .v _], 46, true⟩]) lay46 rfl rfl ?_
    refine v_store (H' := [_, _, _, _, _, _, _, ⟨[_, _], 46, true⟩]) lay46 rfl rfl rfl rfl rfl rfl ?_
    refine v_nil ?_
    refine q_n ?_
    refine w_seq ?_
    refine w_draw [0, 0, 2, 6, 14, 30, 0, 64, 254, 511, 1023, 2047, 4095] [⟨0, 0, []⟩, ⟨1, 0, []⟩, ⟨2, 0, []⟩, ⟨3, 0, []⟩, ⟨4, 0, []⟩, ⟨5, 0, []⟩, ⟨6, 0, []⟩, ⟨7, 2, []⟩, ⟨8, 1, []⟩, ⟨9, 0, []⟩, ⟨10, 0, []⟩, ⟨11, 0, []⟩, ⟨12, 1, []⟩] rfl rfl ?_
    refine d_q rfl rfl rfl rfl rfl ?_
    refine v_move rfl ?_
    refine v_nil ?_
    refine d_q rfl rfl rfl rfl rfl ?_
    refine v_move rfl ?_
    refine v_nil ?_
    refine d_q rfl rfl rfl rfl rfl ?_
    refine v_nil_pt rfl ?_
    refine v_nil ?_
    refine d_q rfl rfl rfl rfl rfl ?_
    refine v_fa_pt (off' := 1) lay90 rfl rfl rfl ?_
    refine v_nil ?_
    refine d_q rfl rfl rfl rfl rfl ?_
    refine v_fa_pt (off' := 1) lay64 rfl rfl rfl ?_
    refine v_nil ?_
    refine d_q rfl rfl rfl rfl rfl ?_
    refine v_load_pt (.c _) lay61 rfl rfl rfl rfl ?_
    refine v_nil ?_
    refine d_q rfl rfl rfl rfl rfl ?_
    refine v_load_pt (.agg [_, _]) lay46 rfl rfl rfl rfl ?_
    refine v_nil ?_
    refine d_z (.c (.sl true 1 2 (flat pe [(fs[i], 0)]))) rfl rfl rfl ?_
    refine d_e rfl rfl rfl ?_
    refine v_app_flat_sl (H' := [_, _, _, _, _, _, _, _, _]) pe_sc pe_len lay61 lay46 rfl rfl (by first | rfl | (simp; done) | (simp; omega) | omega | (rw [bg_l (by omega)])) rfl rfl rfl (by unfold maxLen; simp only []; omega) rfl rfl ?_
    refine v_nil ⟨again_nil, ?_⟩
    refine d_q rfl rfl rfl rfl rfl ?_
    refine v_nil_pt rfl ?_
    refine v_nil ?_
    refine d_q rfl rfl rfl rfl rfl ?_
    refine v_fa_pt (off' := 1) lay90 rfl rfl rfl ?_
    refine v_nil ?_
    refine d_q rfl rfl rfl rfl rfl ?_
    refine v_fa_pt (off' := 1) lay64 rfl rfl rfl ?_
    refine v_nil ?_
    refine d_e rfl rfl rfl ?_
    refine v_store (H' := [_, ⟨[_, _, _, _, _, _], 90, true⟩, _, _, _, _, _, _, _]) lay61 rfl rfl rfl rfl rfl rfl ?_
    refine v_nil ⟨again_nil, ?_⟩
    refine d_nil ?_
    refine q_n ?_
    refine w_seq ?_
    refine w_draw [0, 0, 2, 6, 14, 30, 0, 64, 254, 511, 1023, 2047, 4095] [⟨0, 0, []⟩, ⟨1, 0, []⟩, ⟨2, 0, []⟩, ⟨3, 0, []⟩, ⟨4, 0, []⟩, ⟨5, 0, []⟩, ⟨6, 0, []⟩, ⟨7, 2, []⟩, ⟨8, 1, []⟩, ⟨9, 0, []⟩, ⟨10, 0, []⟩, ⟨11, 0, []⟩, ⟨12, 1, []⟩] rfl rfl ?_
    refine d_q rfl rfl rfl rfl rfl ?_
    refine v_move rfl ?_
    refine v_nil ?_
    refine d_q rfl rfl rfl rfl rfl ?_
    refine v_move rfl ?_
    refine v_nil ?_
    refine d_q rfl rfl rfl rfl rfl ?_
    refine v_nil_pt rfl ?_
    refine v_nil ?_
    refine d_q rfl rfl rfl rfl rfl ?_
    refine v_fa_pt (off' := 1) lay90 rfl rfl rfl ?_
    refine v_nil ?_
    refine d_q rfl rfl rfl rfl rfl ?_
    refine v_fa_pt (off' := 2) lay64 rfl rfl rfl ?_
    refine v_nil ?_
    refine d_q rfl rfl rfl rfl rfl ?_
    refine v_load_pt (.c _) lay61 rfl rfl rfl rfl ?_
    refine v_nil ?_
    refine d_q rfl rfl rfl rfl rfl ?_
    refine v_load_pt (.agg [_, _]) lay46 rfl rfl rfl rfl ?_
    refine v_nil ?_
    refine d_z (.c (.sl true 1 2 (flat pe [(fs[i], 0)]))) rfl rfl rfl ?_
    refine d_e rfl rfl rfl ?_
    refine v_app_flat_sl (H' := [_, _, _, _, _, _, _, _, _, _]) pe_sc pe_len lay61 lay46 rfl rfl (by first | rfl | (simp; done) | (simp; omega) | omega | (rw [bg_l (by omega)])) rfl rfl rfl (by unfold maxLen; simp only []; omega) rfl rfl ?_
    refine v_nil ⟨again_nil, ?_⟩
    refine d_q rfl rfl rfl rfl rfl ?_
    refine v_nil_pt rfl ?_
    refine v_nil ?_
    refine d_q rfl rfl rfl rfl rfl ?_
    refine v_fa_pt (off' := 1) lay90 rfl rfl rfl ?_
    refine v_nil ?_
    refine d_q rfl rfl rfl rfl rfl ?_
    refine v_fa_pt (off' := 2) lay64 rfl rfl rfl ?_
    refine v_nil ?_
    refine d_e rfl rfl rfl ?_
    refine v_store (H' := [_, ⟨[_, _, _, _, _, _], 90, true⟩, _, _, _, _, _, _, _, _]) lay61 rfl rfl rfl rfl rfl rfl ?_
    refine v_nil ⟨again_nil, ?_⟩
    refine d_nil ?_
    refine q_n ?_
    refine w_seq ?_
    refine w_draw [0, 0, 2, 6, 14, 30, 0, 64, 254, 511, 1023, 2047, 4095] [⟨0, 0, []⟩, ⟨1, 0, []⟩, ⟨2, 0, []⟩, ⟨3, 0, []⟩, ⟨4, 0, []⟩, ⟨5, 0, []⟩, ⟨6, 0, []⟩, ⟨7, 2, []⟩, ⟨8, 1, []⟩, ⟨9, 0, []⟩, ⟨10, 0, []⟩, ⟨11, 0, []⟩, ⟨12, 1, []⟩] rfl rfl ?_
    refine d_q rfl rfl rfl rfl rfl ?_
    refine v_move rfl ?_
    refine v_nil ?_
    refine d_q rfl rfl rfl rfl rfl ?_
    refine v_move rfl ?_
    refine v_nil ?_
    refine d_q rfl rfl rfl rfl rfl ?_
    refine v_nil_pt rfl ?_
    refine v_nil ?_
    refine d_q rfl rfl rfl rfl rfl ?_
    refine v_fa_pt (off' := 1) lay90 rfl rfl rfl ?_
    refine v_nil ?_
    refine d_q rfl rfl rfl rfl rfl ?_
    refine v_fa_pt (off' := 3) lay64 rfl rfl rfl ?_
    refine v_nil ?_
    refine d_q rfl rfl rfl rfl rfl ?_
    refine v_load_pt (.c _) lay61 rfl rfl rfl rfl ?_
    refine v_nil ?_
    refine d_q rfl rfl rfl rfl rfl ?_
    refine v_load_pt (.agg [_, _]) lay46 rfl rfl rfl rfl ?_
    refine v_nil ?_
    refine d_z (.c (.sl true 1 2 (flat pe [(fs[i], 0)]))) rfl rfl rfl ?_
    refine d_e rfl rfl rfl ?_
    refine v_app_flat_sl (H' := [_, _, _, _, _, _, _, _, _, _, _]) pe_sc pe_len lay61 lay46 rfl rfl (by first | rfl | (simp; done) | (simp; omega) | omega | (rw [bg_l (by omega)])) rfl rfl rfl (by unfold maxLen; simp only []; omega) rfl rfl ?_
    refine v_nil ⟨again_nil, ?_⟩
    refine d_q rfl rfl rfl rfl rfl ?_
    refine v_nil_pt rfl ?_
    refine v_nil ?_
    refine d_q rfl rfl rfl rfl rfl ?_
    refine v_fa_pt (off' := 1) lay90 rfl rfl rfl ?_
    refine v_nil ?_
    refine d_q rfl rfl rfl rfl rfl ?_
    refine v_fa_pt (off' := 3) lay64 rfl rfl rfl ?_
    refine v_nil ?_
    refine d_e rfl rfl rfl ?_
    refine v_store (H' := [_, ⟨[_, _, _, _, _, _], 90, true⟩, _, _, _, _, _, _, _, _, _]) lay61 rfl rfl rfl rfl rfl rfl ?_
    refine v_nil ⟨again_nil, ?_⟩
    refine d_nil ?_
    refine q_n ?_
    refine w_reg rfl ?_
    refine v_move rfl ?_
    refine v_move rfl ?_
    refine v_nil_pt rfl ?_
    refine v_fa_pt (off' := 1) lay90 rfl rfl rfl ?_
    refine v_fa_pt (off' := 4) lay64 rfl rfl rfl ?_
    refine v_load_pt (.c _) lay28 rfl rfl rfl rfl ?_
    refine v_lit (flat int [0]) (H' := [_, _, _, _, _, _, _, _, _, _, _, _]) lay28 lay2 rfl rfl ⟨by decide, by decide⟩ rfl rfl ?_
    refine v_app_flat (H' := [_, _, _, _, _, _, _, _, _, _, _, _, _]) int_sc int_len lay28 lay2 rfl rfl (by first | rfl | (simp; done) | (simp; omega) | omega | (rw [bg_l (by omega)])) rfl rfl (by first | rfl | (simp; done)) rfl rfl (by unfold maxLen; simp only []; omega) rfl rfl ?_
    refine v_nil_pt rfl ?_
    refine v_fa_pt (off' := 1) lay90 rfl rfl rfl ?_
    refine v_fa_pt (off' := 4) lay64 rfl rfl rfl ?_
    refine v_store (H' := [_, ⟨[_, _, _, _, _, _], 90, true⟩, _, _, _, _, _, _, _, _, _, _, _]) lay28 rfl rfl rfl rfl rfl rfl ?_
    refine v_nil ?_
    refine q_bn ?_
    refine q_n ?_
    refine w_reg rfl ?_
    refine v_move rfl ?_
    refine v_add lay3 rfl rfl (i64r (by omega)) ?_
    refine v_assign rfl ?_
    refine v_nil ?_
    refine q_n ?_
    refine ⟨_, _, _, ?_, ⟨i + 1, rfl, by omega, rfl, rfl⟩, by omega⟩
    exact turn [some 0, some 1, some 8, some 9, some 10, some 12, some 6] rfl rfl rfl ⟨⟨_, rfl, .cons tr_v (.cons tr_sl .nil)⟩, ⟨_, rfl, .cons (tr_pt rfl) (.cons (tr_mun rfl (by first | rfl | (simp; done) | (simp; omega) | (rw [bg_l (by omega)]))) (.cons (tr_mun rfl (by first | rfl | (simp; done) | (simp; omega) | (rw [bg_l (by omega)]))) (.cons (tr_mun rfl (by first | rfl | (simp; done) | (simp; omega) | (rw [bg_l (by omega)]))) (.cons (tr_mun rfl (by first | rfl | (simp; done) | (simp; omega) | (rw [bg_l (by omega)]))) (.cons (tr_mun rfl (by first | rfl | (simp; done) | (simp; omega) | (rw [bg_l (by omega)]))) .nil)))))⟩, ⟨_, rfl, trc_flat pe_sc (congrArg (flat pe) (bg_step (by omega)))⟩, ⟨_, rfl, trc_flat pe_sc (congrArg (flat pe) (bg_step (by omega)))⟩, ⟨_, rfl, trc_flat pe_sc (congrArg (flat pe) (bg_step (by omega)))⟩, ⟨_, rfl, trc_flat int_sc (congrArg (flat int) (List.replicate_succ').symm)⟩, ⟨_, rfl, .nil⟩, trivial⟩ ⟨tr_pt rfl, tr_pt rfl, tr_v, trivial⟩
  refine v_nil ?_
  refine q_n ?_
  refine w_f rfl ?_
  refine w_exit ?_
  refine q_e ?_
  refine q_e ?_
  refine q_hit ?_
  refine q_n ?_
  refine w_seq ?_
  refine w_reg rfl ?_
  refine v_move rfl ?_
  refine v_assign rfl ?_
  refine v_nil ?_
  refine q_n ?_
  refine w_ret ?_
  refine r_r rfl ?_
  refine v_assign rfl ?_
  refine v_nil ?_
  refine q_n ?_
  refine w_seq ?_
  refine w_reg rfl ?_
  refine v_lit (flat int []) (H' := [_, _, _, _, _, _, _, _]) lay28 lay2 rfl rfl ⟨by decide, by decide⟩ rfl rfl ?_
  refine v_assign rfl ?_
  refine v_nil ?_
  refine q_n ?_
  refine w_seq ?_
  refine w_seq ?_
  refine w_reg rfl ?_
  refine v_assign (c := .v (.int .i64 0)) rfl ?_
  refine v_nil ?_
  refine q_n ?_
  refine w_block ?_
  refine w_loop (fun k sl H => ∃ (i : Nat) (b : Bd) (cs : List Int), k = ds.length - i ∧ i ≤ ds.length ∧ stB p fs ds i = (b, cs) ∧ okB fs.length i b ∧ cs.length = i ∧ sl = sls [(1, .c (dcs false ds)), (6, .c (.pt 1 0)), (7, .c (.mu 7 0 i 1)), (8, cI i)] ∧ H = [⟨[.v (.int .i64 p), .any], 33, true⟩, ⟨[.pt 0 0, .mu 2 0 b.nw.length 2, .mu 3 0 b.ps.length 2, .mu 4 0 b.sv.length 2, .mu 5 0 b.kn.length 1, .mu 6 0 b.wr.length 4], 90, true⟩, ⟨flat pe b.nw, 46, true⟩, ⟨flat pe b.ps, 46, true⟩, ⟨flat pe b.sv, 46, true⟩, ⟨flat int b.kn, 2, true⟩, ⟨flat nce b.wr, 101, true⟩, ⟨flat int cs, 2, true⟩]) ?_ ?_
  · obtain rfl : i = fs.length := by omega
    refine ⟨_, _, _, ?_, 0, b0 fs, [], rfl, Nat.zero_le _, rfl, ok_0 fs, rfl, rfl, rfl⟩
    exact turn [some 0, some 1, some 2, some 3, some 4, some 5, some 6, some 7] rfl rfl rfl ⟨⟨_, rfl, .cons tr_v (.cons (.c (.dn .any)) .nil)⟩, ⟨_, rfl, .cons (tr_pt rfl) (.cons (tr_mun rfl (by simp [b0, bg])) (.cons (tr_mun rfl (by simp [b0, bg])) (.cons (tr_mun rfl (by simp [b0, bg])) (.cons (tr_mun rfl (by simp [b0, bg])) (.cons (tr_mun rfl (by simp [b0, bg])) .nil)))))⟩, ⟨_, rfl, trc_flat pe_sc rfl⟩, ⟨_, rfl, trc_flat pe_sc rfl⟩, ⟨_, rfl, trc_flat pe_sc rfl⟩, ⟨_, rfl, trc_flat int_sc rfl⟩, ⟨_, rfl, .nil⟩, ⟨_, rfl, trc_flat int_sc (xs := []) rfl⟩, trivial⟩ ⟨tr_sl, tr_pt rfl, tr_mun rfl rfl, tr_v, trivial⟩
  rintro k sl H ⟨i, b, cs, rfl, hi, hst, hok, hcl, rfl, rfl⟩
  refine w_seq ?_
  refine w_seq ?_
  refine w_reg rfl ?_
  refine v_move rfl ?_
  refine v_move rfl ?_
  refine v_len_sl lay41 rfl ?_
  refine v_lss lay3 rfl rfl (fun h4 => ?_) (fun h4 => ?_)
  · have hi1 : i < ds.length := by omega
    have hd : dOk ds[i] := hds _ (List.getElem_mem hi1)
    refine v_nil ?_
    refine q_n ?_
    refine w_t rfl ?_
    refine w_skip ?_
    refine q_n ?_
    refine w_seq ?_
    refine w_block ?_
    refine w_reg rfl ?_
    refine v_move rfl ?_
    refine v_move rfl ?_
    refine v_move rfl ?_
    refine v_move rfl ?_
    refine v_idx_e (k := 3) (i) dce_len lay41 lay25 rfl rfl rfl (rfl) rfl (rfl) (by omega) ?_
    refine v_load_vw (.agg [.v _, .v _, .v _]) lay25 rfl rfl rfl ?_
    refine v_graph2 (ι := Bd × Int) (q1 := fun x => doB p b ds[i] = x) (q2 := fun x => doB p b ds[i] = x) (R1 := fun x => cI x.2) (R2 := fun x => cI x.2) (L1 := fun x => doH p x.1) (L2 := fun x => doH2 p x.1) [0, 1, 2, 3, 4, 5, 6] (fun x => cI x.2) (fun x => cI x.2) (fun x => [⟨[.v (.int .i64 p), .any], 33, true⟩, ⟨[.pt 0 0, .mu 2 0 x.1.nw.length 2, .mu 3 0 x.1.ps.length 2, .mu 4 0 x.1.sv.length 2, .mu 5 0 x.1.kn.length 1, .mu 6 0 x.1.wr.length 4], 90, true⟩, ⟨flat pe x.1.nw, 46, true⟩, ⟨flat pe x.1.ps, 46, true⟩, ⟨flat pe x.1.sv, 46, true⟩, ⟨flat int x.1.kn, 2, true⟩, ⟨flat nce x.1.wr, 101, true⟩]) (fun x => [⟨[.v (.int .i64 p), .any], 33, true⟩, ⟨[.pt 0 0, .mu 2 0 x.1.nw.length 2, .mu 3 0 x.1.ps.length 2, .mu 4 0 x.1.sv.length 2, .mu 5 0 x.1.kn.length 1, .mu 8 0 x.1.wr.length 4], 90, true⟩, ⟨flat pe x.1.nw, 46, true⟩, ⟨flat pe x.1.ps, 46, true⟩, ⟨flat pe x.1.sv, 46, true⟩, ⟨flat int x.1.kn, 2, true⟩, ⟨[], 101, false⟩, ⟨flat nce x.1.wr, 101, true⟩]) (fun x => [⟨[.v (.int .i64 p), .any], 33, true⟩, ⟨[.pt 0 0, .mu 2 0 x.1.nw.length 2, .mu 3 0 x.1.ps.length 2, .mu 4 0 x.1.sv.length 2, .mu 5 0 x.1.kn.length 1, .mu 6 0 x.1.wr.length 4], 90, true⟩, ⟨flat pe x.1.nw, 46, true⟩, ⟨flat pe x.1.ps, 46, true⟩, ⟨flat pe x.1.sv, 46, true⟩, ⟨flat int x.1.kn, 2, true⟩, ⟨flat nce x.1.wr, 101, true⟩, _]) (fun x => [⟨[.v (.int .i64 p), .any], 33, true⟩, ⟨[.pt 0 0, .mu 2 0 x.1.nw.length 2, .mu 3 0 x.1.ps.length 2, .mu 4 0 x.1.sv.length 2, .mu 5 0 x.1.kn.length 1, .mu 8 0 x.1.wr.length 4], 90, true⟩, ⟨flat pe x.1.nw, 46, true⟩, ⟨flat pe x.1.ps, 46, true⟩, ⟨flat pe x.1.sv, 46, true⟩, ⟨flat int x.1.kn, 2, true⟩, ⟨[], 101, false⟩, _, ⟨flat nce x.1.wr, 101, true⟩]) (c84g p fs.length i b ds[i] hok hd (by omega) (by omega)) (by decide) ⟨⟨_, rfl, rfl, .cons (.dn .v rfl) (.cons (.dn .any rfl) .nil)⟩, ⟨_, rfl, rfl, .cons (.pt rfl) (.cons (.mu rfl) (.cons (.mu rfl) (.cons (.mu rfl) (.cons (.mu rfl) (.cons (.mu rfl) .nil)))))⟩, ⟨_, rfl, rfl, .sc (sc_flat pe_sc _)⟩, ⟨_, rfl, rfl, .sc (sc_flat pe_sc _)⟩, ⟨_, rfl, rfl, .sc (sc_flat pe_sc _)⟩, ⟨_, rfl, rfl, .sc (sc_flat int_sc _)⟩, ⟨_, rfl, rfl, .sc (sc_flat nce_sc _)⟩, trivial⟩ rfl rfl (.cons (.c (.pt rfl)) (.cons (.agg (.cons (.dn .v rfl) (.cons (.dn .v rfl) (.cons (.dn .v rfl) .nil)))) .nil)) (fun x => rfl) (fun x => rfl) (fun x => ⟨rfl, rfl, rn_flat pe_sc, rn_flat pe_sc, rn_flat pe_sc, rn_flat int_sc, rn_flat nce_sc, trivial⟩) (fun x => ⟨rfl, rfl, rn_flat pe_sc, rn_flat pe_sc, rn_flat pe_sc, rn_flat int_sc, rfl, rn_flat nce_sc, trivial⟩) (fun x => rfl) (fun x => rfl) (fun x => gdo1 p x) (fun x => gdo2 p x) ?_ ?_
    · rintro ⟨b1, c1⟩ hdo
      refine v_lit (flat int [_]) (H' := [_, _, _, _, _, _, _, _, _]) lay28 lay2 rfl rfl ⟨by decide, by decide⟩ rfl rfl ?_
      refine v_app_flat (H' := [_, _, _, _, _, _, _, _, _, _]) int_sc int_len lay28 lay2 rfl rfl (by first | rfl | (simp; done) | (simp; omega) | omega | (rw [bg_l (by omega)])) rfl rfl (by first | rfl | (simp; done)) rfl rfl (by unfold maxLen; simp only []; omega) rfl rfl ?_
      refine v_assign rfl ?_
      refine v_nil ?_
      refine q_bn ?_
      refine q_n ?_
      refine w_reg rfl ?_
      refine v_move rfl ?_
      refine v_add lay3 rfl rfl (i64r (by omega)) ?_
      refine v_assign rfl ?_
      refine v_nil ?_
      refine q_n ?_
      refine ⟨_, _, _, ?_, ⟨i + 1, b1, cs ++ [c1], rfl, by omega, st_step hst hi1 hdo, ok_do hok hd hdo, by simp; omega, rfl, rfl⟩, by omega⟩
      exact turn [some 0, some 1, some 2, some 3, some 4, some 5, some 6, some 9] rfl rfl rfl ⟨⟨_, rfl, .cons tr_v (.cons (.c (.dn .any)) .nil)⟩, ⟨_, rfl, .cons (tr_pt rfl) (.cons (tr_mun rfl rfl) (.cons (tr_mun rfl rfl) (.cons (tr_mun rfl rfl) (.cons (tr_mun rfl rfl) (.cons (tr_mun rfl rfl) .nil)))))⟩, ⟨_, rfl, trc_flat pe_sc rfl⟩, ⟨_, rfl, trc_flat pe_sc rfl⟩, ⟨_, rfl, trc_flat pe_sc rfl⟩, ⟨_, rfl, trc_flat int_sc rfl⟩, ⟨_, rfl, trc_flat nce_sc rfl⟩, ⟨_, rfl, trc_flat int_sc rfl⟩, trivial⟩ ⟨tr_sl, tr_pt rfl, tr_mun rfl (by simp), tr_v, trivial⟩
    rintro ⟨b1, c1⟩ hdo
    refine v_lit (flat int [_]) (H' := [_, _, _, _, _, _, _, _, _, _]) lay28 lay2 rfl rfl ⟨by decide, by decide⟩ rfl rfl ?_
    refine v_app_flat (H' := [_, _, _, _, _, _, _, _, _, _, _]) int_sc int_len lay28 lay2 rfl rfl (by first | rfl | (simp; done) | (simp; omega) | omega | (rw [bg_l (by omega)])) rfl rfl (by first | rfl | (simp; done)) rfl rfl (by unfold maxLen; simp only []; omega) rfl rfl ?_
    refine v_assign rfl ?_
    refine v_nil ?_
    refine q_bn ?_
    refine q_n ?_
    refine w_reg rfl ?_
    refine v_move rfl ?_
    refine v_add lay3 rfl rfl (i64r (by omega)) ?_
    refine v_assign rfl ?_
    refine v_nil ?_
    refine q_n ?_
    refine ⟨_, _, _, ?_, ⟨i + 1, b1, cs ++ [c1], rfl, by omega, st_step hst hi1 hdo, ok_do hok hd hdo, by simp; omega, rfl, rfl⟩, by omega⟩
    exact turn [some 0, some 1, some 2, some 3, some 4, some 5, some 8, some 10] rfl rfl rfl ⟨⟨_, rfl, .cons tr_v (.cons (.c (.dn .any)) .nil)⟩, ⟨_, rfl, .cons (tr_pt rfl) (.cons (tr_mun rfl rfl) (.cons (tr_mun rfl rfl) (.cons (tr_mun rfl rfl) (.cons (tr_mun rfl rfl) (.cons (tr_mun rfl rfl) .nil)))))⟩, ⟨_, rfl, trc_flat pe_sc rfl⟩, ⟨_, rfl, trc_flat pe_sc rfl⟩, ⟨_, rfl, trc_flat pe_sc rfl⟩, ⟨_, rfl, trc_flat int_sc rfl⟩, ⟨_, rfl, trc_flat nce_sc rfl⟩, ⟨_, rfl, trc_flat int_sc rfl⟩, trivial⟩ ⟨tr_sl, tr_pt rfl, tr_mun rfl (by simp), tr_v, trivial⟩
  obtain rfl : i = ds.length := by omega
  have hb : (stB p fs ds ds.length).1 = b := by rw [hst]
  have hcs : (stB p fs ds ds.length).2 = cs := by rw [hst]
  have n1 := hok.nw
  have n2 := hok.ps
  have n4 := hok.kn
  have n5 := hok.wr
  refine v_nil ?_
  refine q_n ?_
  refine w_f rfl ?_
  refine w_exit ?_
  refine q_e ?_
  refine q_e ?_
  refine q_hit ?_
  refine q_n ?_
  refine w_seq ?_
  refine w_reg rfl ?_
  refine v_move rfl ?_
  refine v_move rfl ?_
  refine v_assign rfl ?_
  refine v_assign rfl ?_
  refine v_nil ?_
  refine q_n ?_
  refine w_ret ?_
  refine r_r rfl ?_
  refine v_move_t rfl ?_
  refine v_extract_c rfl rfl ?_
  refine v_extract_c rfl rfl ?_
  refine v_assign rfl ?_
  refine v_assign rfl ?_
  refine v_nil ?_
  refine q_n ?_
  refine w_seq ?_
  refine w_reg rfl ?_
  refine v_lit (flat int []) (H' := [_, _, _, _, _, _, _, _, _]) lay28 lay2 rfl rfl ⟨by decide, by decide⟩ rfl rfl ?_
  refine v_assign rfl ?_
  refine v_nil ?_
  refine q_n ?_
  refine w_seq ?_
  refine w_seq ?_
  refine w_reg rfl ?_
  refine v_assign (c := .v (.int .i64 0)) rfl ?_
  refine v_nil ?_
  refine q_n ?_
  refine w_block ?_
  refine w_loop (fun k sl H => ∃ i : Nat, k = b.ps.length - i ∧ i ≤ b.ps.length ∧ sl = sls [(7, .c (.pt 1 0)), (9, .c (.mu 7 0 (lt b i).length 1)), (10, cI i)] ∧ H = [⟨[.v (.int .i64 p), .any], 33, true⟩, ⟨[.pt 0 0, .mu 2 0 b.nw.length 2, .mu 3 0 b.ps.length 2, .mu 4 0 b.sv.length 2, .mu 5 0 b.kn.length 1, .mu 6 0 b.wr.length 4], 90, true⟩, ⟨flat pe b.nw, 46, true⟩, ⟨flat pe b.ps, 46, true⟩, ⟨flat pe b.sv, 46, true⟩, ⟨flat int b.kn, 2, true⟩, ⟨flat nce b.wr, 101, true⟩, ⟨flat int (lt b i), 2, true⟩]) ?_ ?_
  · refine ⟨_, _, _, ?_, 0, rfl, Nat.zero_le _, rfl, rfl⟩
    exact turn [some 0, some 1, some 2, some 3, some 4, some 5, some 6, some 8] rfl rfl rfl ⟨⟨_, rfl, .cons tr_v (.cons (.c (.dn .any)) .nil)⟩, ⟨_, rfl, .cons (tr_pt rfl) (.cons (tr_mun rfl rfl) (.cons (tr_mun rfl rfl) (.cons (tr_mun rfl rfl) (.cons (tr_mun rfl rfl) (.cons (tr_mun rfl rfl) .nil)))))⟩, ⟨_, rfl, trc_flat pe_sc rfl⟩, ⟨_, rfl, trc_flat pe_sc rfl⟩, ⟨_, rfl, trc_flat pe_sc rfl⟩, ⟨_, rfl, trc_flat int_sc rfl⟩, ⟨_, rfl, trc_flat nce_sc rfl⟩, ⟨_, rfl, trc_flat int_sc (xs := []) rfl⟩, trivial⟩ ⟨tr_pt rfl, tr_mun rfl rfl, tr_v, trivial⟩
  rintro k sl H ⟨i, rfl, hi, rfl, rfl⟩
  have hll := lt_len b i
  refine w_seq ?_
  refine w_seq ?_
  refine w_reg rfl ?_
  refine v_move rfl ?_
  refine v_move rfl ?_
  refine v_nil_pt rfl ?_
  refine v_fa_pt (off' := 1) lay90 rfl rfl rfl ?_
  refine v_fa_pt (off' := 2) lay64 rfl rfl rfl ?_
  refine v_load_pt (.c _) lay61 rfl rfl rfl rfl ?_
  refine v_len_mu lay61 rfl ?_
  refine v_lss lay3 rfl rfl (fun h6 => ?_) (fun h6 => ?_)
  rotate_left
  · refine v_nil ?_
    refine q_n ?_
    refine w_f rfl ?_
    refine w_exit ?_
    refine q_e ?_
    refine q_e ?_
    refine q_hit ?_
    refine q_n ?_
    refine w_seq ?_
    refine w_reg rfl ?_
    refine v_move rfl ?_
    refine v_assign rfl ?_
    refine v_assign (c := .v (.int .i64 0)) rfl ?_
    refine v_nil ?_
    refine q_n ?_
    refine w_ret ?_
    refine r_r rfl ?_
    obtain rfl : i = b.ps.length := by omega
    rw [late_of hg, hb]
    exact a_tup (.cons (a_flat2 int_sc int_len rfl rfl rfl rfl) (.cons tr_v .nil))
  have i1 : i < b.nw.length := by omega
  have i2 : i < b.kn.length := by omega
  refine v_nil ?_
  refine q_n ?_
  refine w_t rfl ?_
  refine w_skip ?_
  refine q_n ?_
  refine w_seq ?_
  refine w_block ?_
  refine w_seq ?_
  refine w_draw [0, 1, 3, 7, 15, 0, 63, 127, 255, 0, 512, 1536, 3584, 7680, 0, 32256, 65024, 131071] [⟨0, 0, []⟩, ⟨1, 0, []⟩, ⟨2, 0, []⟩, ⟨3, 0, []⟩, ⟨4, 0, []⟩, ⟨5, 0, []⟩, ⟨6, 0, []⟩, ⟨7, 0, []⟩, ⟨8, 0, []⟩, ⟨9, 0, []⟩, ⟨10, 0, []⟩, ⟨11, 0, []⟩, ⟨12, 0, []⟩, ⟨13, 0, []⟩, ⟨14, 0, []⟩, ⟨15, 0, []⟩, ⟨16, 0, []⟩, ⟨17, 0, []⟩] rfl rfl ?_
  refine d_q rfl rfl rfl rfl rfl ?_
  refine v_move rfl ?_
  refine v_nil ?_
  refine d_q rfl rfl rfl rfl rfl ?_
  refine v_nil_pt rfl ?_
  refine v_nil ?_
  refine d_q rfl rfl rfl rfl rfl ?_
  refine v_fa_pt (off' := 1) lay90 rfl rfl rfl ?_
  refine v_nil ?_
  refine d_q rfl rfl rfl rfl rfl ?_
  refine v_fa_pt (off' := 1) lay64 rfl rfl rfl ?_
  refine v_nil ?_
  refine d_q rfl rfl rfl rfl rfl ?_
  refine v_load_pt (.c _) lay61 rfl rfl rfl rfl ?_
  refine v_nil ?_
  refine d_q rfl rfl rfl rfl rfl ?_
  refine v_move rfl ?_
  refine v_nil ?_
  refine d_q rfl rfl rfl rfl rfl ?_
  refine v_idx_mu_e (k := 2) (off := 0) (i) lay61 lay46 rfl rfl rfl (rfl) (by omega) ?_
  refine v_nil ?_
  refine d_q rfl rfl rfl rfl rfl ?_
  refine v_fa_pt (off' := _) lay46 rfl rfl rfl ?_
  refine v_nil ?_
  refine d_q rfl rfl rfl rfl rfl ?_
  refine v_load_flat i 1 (.c (.v _)) pe_len lay2 rfl rfl (by omega) (by first | omega | (simp; done) | (simp; omega)) rfl rfl ?_
  refine v_nil ?_
  refine d_q rfl rfl rfl rfl rfl ?_
  refine v_move rfl ?_
  refine v_nil ?_
  refine d_q rfl rfl rfl rfl rfl ?_
  refine v_nil_pt rfl ?_
  refine v_nil ?_
  refine d_q rfl rfl rfl rfl rfl ?_
  refine v_fa_pt (off' := 1) lay90 rfl rfl rfl ?_
  refine v_nil ?_
  refine d_q rfl rfl rfl rfl rfl ?_
  refine v_fa_pt (off' := 4) lay64 rfl rfl rfl ?_
  refine v_nil ?_
  refine d_q rfl rfl rfl rfl rfl ?_
  refine v_load_pt (.c _) lay28 rfl rfl rfl rfl ?_
  refine v_nil ?_
  refine d_q rfl rfl rfl rfl rfl ?_
  refine v_move rfl ?_
  refine v_nil ?_
  refine d_q rfl rfl rfl rfl rfl ?_
  refine v_idx_mu_e (k := 1) (off := 0) (i) lay28 lay2 rfl rfl rfl (rfl) (by omega) ?_
  refine v_nil ?_
  refine d_q rfl rfl rfl rfl rfl ?_
  refine v_load_flat i 0 (.c (.v _)) int_len lay2 rfl rfl (by omega) (by first | omega | (simp; done) | (simp; omega)) rfl rfl ?_
  refine v_nil ?_
  refine d_q rfl rfl rfl rfl rfl ?_
  refine v_gtr lay2 rfl rfl (fun h9 => ?_) (fun h9 => ?_)
  rotate_left
  · have hno := h9
    refine v_nil ?_
    refine d_nil ?_
    refine q_n ?_
    refine w_f rfl ?_
    refine w_skip ?_
    refine q_bn ?_
    refine q_n ?_
    refine w_reg rfl ?_
    refine v_move rfl ?_
    refine v_add lay3 rfl rfl (i64r (by omega)) ?_
    refine v_assign rfl ?_
    refine v_nil ?_
    refine q_n ?_
    refine ⟨_, _, _, ?_, ⟨i + 1, rfl, by omega, rfl, rfl⟩, by omega⟩
    exact turn [some 0, some 1, some 2, some 3, some 4, some 5, some 6, some 7] rfl rfl rfl ⟨⟨_, rfl, .cons tr_v (.cons (.c (.dn .any)) .nil)⟩, ⟨_, rfl, .cons (tr_pt rfl) (.cons (tr_mun rfl rfl) (.cons (tr_mun rfl rfl) (.cons (tr_mun rfl rfl) (.cons (tr_mun rfl rfl) (.cons (tr_mun rfl rfl) .nil)))))⟩, ⟨_, rfl, trc_flat pe_sc rfl⟩, ⟨_, rfl, trc_flat pe_sc rfl⟩, ⟨_, rfl, trc_flat pe_sc rfl⟩, ⟨_, rfl, trc_flat int_sc rfl⟩, ⟨_, rfl, trc_flat nce_sc rfl⟩, ⟨_, rfl, trc_flat int_sc (congrArg (flat int) (lt_no i1 i2 hno))⟩, trivial⟩ ⟨tr_pt rfl, tr_mun rfl (congrArg List.length (lt_no i1 i2 hno)), tr_v, trivial⟩
  have hyes := h9
  refine v_nil ?_
  refine d_nil ?_
  refine q_n ?_
  refine w_t rfl ?_
  refine w_reg rfl ?_
  refine v_move rfl ?_
  refine v_move rfl ?_
  refine v_lit (flat int [_]) (H' := [_, _, _, _, _, _, _, _, _]) lay28 lay2 rfl rfl ⟨by decide, by decide⟩ rfl rfl ?_
  refine v_app_flat (H' := [_, _, _, _, _, _, _, _, _, _]) int_sc int_len lay28 lay2 rfl rfl (by first | rfl | (simp; done) | (simp; omega) | omega | (rw [bg_l (by omega)])) rfl rfl (by first | rfl | (simp; done)) rfl rfl (by unfold maxLen; simp only []; omega) rfl rfl ?_
  refine v_assign rfl ?_
  refine v_nil ?_
  refine q_bn ?_
  refine q_n ?_
  refine w_reg rfl ?_
  refine v_move rfl ?_
  refine v_add lay3 rfl rfl (i64r (by omega)) ?_
  refine v_assign rfl ?_
  refine v_nil ?_
  refine q_n ?_
  refine ⟨_, _, _, ?_, ⟨i + 1, rfl, by omega, rfl, rfl⟩, by omega⟩
  exact turn [some 0, some 1, some 2, some 3, some 4, some 5, some 6, some 9] rfl rfl rfl ⟨⟨_, rfl, .cons tr_v (.cons (.c (.dn .any)) .nil)⟩, ⟨_, rfl, .cons (tr_pt rfl) (.cons (tr_mun rfl rfl) (.cons (tr_mun rfl rfl) (.cons (tr_mun rfl rfl) (.cons (tr_mun rfl rfl) (.cons (tr_mun rfl rfl) .nil)))))⟩, ⟨_, rfl, trc_flat pe_sc rfl⟩, ⟨_, rfl, trc_flat pe_sc rfl⟩, ⟨_, rfl, trc_flat pe_sc rfl⟩, ⟨_, rfl, trc_flat int_sc rfl⟩, ⟨_, rfl, trc_flat nce_sc rfl⟩, ⟨_, rfl, trc_flat int_sc (congrArg (flat int) (lt_yes i1 i2 hyes))⟩, trivial⟩ ⟨tr_pt rfl, tr_mun rfl (by rw [← lt_yes i1 i2 hyes, List.length_append]; rfl), tr_v, trivial⟩

theorem c31l (p : Int) (fs : List Int) (ds : List De) (hx : fs.length ≤ 2 ^ 40) (hd : ds.length ≤ 2 ^ 40) : LiveC X 31 [.agg (cen false p fs), .c (dcs false ds)] (.tup [.c (.mu 0 0 (lateR p fs ds).1.length 1), cI (lateR p fs ds).2]) [⟨flat int (lateR p fs ds).1, 2, true⟩] := by
  refine LiveC.of_body (drawD_ok X) (fun _ _ => Go.Proofs.Try.call31 _ _) Go.Proofs.Try.func31 rfl (n := 53) rfl ?_
  refine w_seq ?_
  refine w_reg rfl ?_
  refine v_box (m := 0) (H' := [_]) lay33 rfl rfl rfl ?_
  refine v_assign rfl ?_
  refine v_assign (c := .v (.int .i64 0)) rfl ?_
  refine v_nil ?_
  refine q_n ?_
  refine w_seq ?_
  refine w_seq ?_
  refine w_reg rfl ?_
  refine v_load_pt (.agg [_, _]) lay33 rfl rfl rfl rfl ?_
  refine v_move rfl ?_
  refine v_call (c60 _ _ _ _ (by omega) (by omega)) rfl rfl rfl (.cons (vw_agg (.cons vw_v (.cons vw_sl .nil))) (.cons vw_sl (.cons vw_v .nil))) ?_
  refine v_assign rfl ?_
  refine v_nil ?_
  refine q_n ?_
  refine w_seq ?_
  refine w_reg rfl ?_
  refine v_move rfl ?_
  refine v_neq lay2 rfl rfl (fun h1 => ?_) (fun h1 => ?_)
  · refine v_nil ?_
    refine q_n ?_
    refine w_t rfl ?_
    refine w_seq ?_
    refine w_reg rfl ?_
    refine v_move rfl ?_
    refine v_assign rfl ?_
    refine v_assign rfl ?_
    refine v_nil ?_
    refine q_n ?_
    refine w_ret (q_r ?_)
    refine r_r rfl ?_
    rw [late_bad2 h1]
    exact l_ans [none] rfl rfl ⟨rfl, trivial⟩ (a_tup (.cons (tr_nil rfl) (.cons tr_v .nil)))
  have hg : gvR p fs ds = 0 := by rw [← dc_gv]; omega
  obtain ⟨hoc, hds, hdl⟩ := gv_ok hg
  have hf : fs.length ≤ 6 := hoc.2.2.2.1
  have hok := st_ok (p := p) (fs := fs) hds ds.length (Nat.le_refl _)
  have n1 := hok.nw
  have n2 := hok.ps
  have n4 := hok.kn
  have n5 := hok.wr
  refine v_nil ?_
  refine q_n ?_
  refine w_f rfl ?_
  refine w_skip ?_
  refine q_n ?_
  refine w_seq ?_
  refine w_reg rfl ?_
  refine v_load_pt (.agg [_, _]) lay33 rfl rfl rfl rfl ?_
  refine v_move rfl ?_
  refine v_call (c65 p fs ds (by omega) (by assumption) (by omega)) rfl rfl rfl (.cons (vw_agg (.cons vw_v (.cons vw_sl .nil))) (.cons vw_sl .nil)) ?_
  refine v_move_t rfl ?_
  refine v_extract_c rfl rfl ?_
  refine v_extract_c rfl rfl ?_
  refine v_assign rfl ?_
  refine v_assign rfl ?_
  refine v_nil ?_
  refine q_n ?_
  refine w_seq ?_
  refine w_reg rfl ?_
  refine v_lit (flat int []) (H' := [_, _]) lay28 lay2 rfl rfl ⟨by decide, by decide⟩ rfl rfl ?_
  refine v_assign rfl ?_
  refine v_nil ?_
  refine q_n ?_
  refine w_seq ?_
  refine w_seq ?_
  refine w_reg rfl ?_
  refine v_move rfl ?_
  refine v_nil_vw rfl ?_
  refine v_fa_vw (off' := 0) lay94 rfl rfl rfl ?_
  refine v_fa_vw (off' := 0) lay64 rfl rfl rfl ?_
  refine v_load_vw (.c (_)) lay61 rfl rfl rfl ?_
  refine v_len_sl lay61 rfl ?_
  refine v_move (c := .v (.int .i64 0)) rfl ?_
  refine v_nil ?_
  refine q_n ?_
  refine w_block ?_
  refine w_loop (fun k sl H => ∃ i : Nat, k = (stB p fs ds ds.length).1.ps.length - i ∧ i ≤ (stB p fs ds ds.length).1.ps.length ∧ sl = sls [(7, .c (.vw true (bdw (stB p fs ds ds.length).1) 0)), (9, .c (.mu 0 0 (lt (stB p fs ds ds.length).1 i).length 1)), (29, .c (.sl true (stB p fs ds ds.length).1.nw.length 2 (flat pe (stB p fs ds ds.length).1.nw))), (30, cI (stB p fs ds ds.length).1.nw.length), (31, cI i)] ∧ H = [⟨flat int (lt (stB p fs ds ds.length).1 i), 2, true⟩]) ?_ ?_
  · refine ⟨_, _, _, ?_, 0, rfl, Nat.zero_le _, rfl, rfl⟩
    exact turn [some 1] rfl rfl rfl ⟨⟨_, rfl, trc_flat int_sc (xs := []) rfl⟩, trivial⟩ ⟨tr_vw, tr_mun rfl rfl, tr_sl, tr_v, tr_v, trivial⟩
  rintro k sl H ⟨i, rfl, hi, rfl, rfl⟩
  have hll := lt_len (stB p fs ds ds.length).1 i
  refine w_seq ?_
  refine w_reg rfl ?_
  refine v_lss lay3 rfl rfl (fun h2 => ?_) (fun h2 => ?_)
  rotate_left
  · refine v_nil ?_
    refine q_n ?_
    refine w_seq ?_
    refine w_f rfl ?_
    refine w_exit ?_
    refine q_e ?_
    refine q_e ?_
    refine q_hit ?_
    refine q_n ?_
    refine w_seq ?_
    refine w_reg rfl ?_
    refine v_move rfl ?_
    refine v_assign rfl ?_
    refine v_assign (c := .v (.int .i64 0)) rfl ?_
    refine v_nil ?_
    refine q_n ?_
    refine w_ret ?_
    refine r_r rfl ?_
    obtain rfl : i = (stB p fs ds ds.length).1.ps.length := by omega
    rw [late_of hg]
    exact l_ans [some 0] rfl rfl ⟨⟨_, rfl, trc_flat int_sc rfl⟩, trivial⟩ (a_tup (.cons (tr_mun rfl rfl) (.cons tr_v .nil)))
  have i1 : i < (stB p fs ds ds.length).1.nw.length := by omega
  have i2 : i < (stB p fs ds ds.length).1.kn.length := by omega
  refine v_nil ?_
  refine q_n ?_
  refine w_seq ?_
  refine w_t rfl ?_
  refine w_skip ?_
  refine q_n ?_
  refine w_seq ?_
  refine w_block ?_
  refine w_seq ?_
  refine w_reg rfl ?_
  refine v_move rfl ?_
  refine v_idx_e (k := 2) (i) pe_len lay61 lay46 rfl rfl rfl (rfl) rfl (rfl) (by omega) ?_
  refine v_load_vw (.agg [.v _, .v _]) lay46 rfl rfl rfl ?_
  refine v_alloc (m := 1) (H' := [_, ⟨[.v _, .v _], 46, true⟩]) lay46 rfl rfl ?_
  refine v_assign rfl ?_
  refine v_store (H' := [_, ⟨[_, _], 46, true⟩]) lay46 rfl rfl rfl rfl rfl rfl ?_
  refine v_nil ?_
  refine q_n ?_
  refine w_seq ?_
  refine w_draw [0, 1, 0, 4, 12, 28, 60, 0, 252, 508, 1023] [⟨0, 0, []⟩, ⟨1, 0, []⟩, ⟨2, 0, []⟩, ⟨3, 0, []⟩, ⟨4, 0, []⟩, ⟨5, 0, []⟩, ⟨6, 0, []⟩, ⟨7, 0, []⟩, ⟨8, 0, []⟩, ⟨9, 0, []⟩, ⟨10, 0, []⟩] rfl rfl ?_
  refine d_q rfl rfl rfl rfl rfl ?_
  refine v_fa_pt (off' := 1) lay46 rfl rfl rfl ?_
  refine v_nil ?_
  refine d_q rfl rfl rfl rfl rfl ?_
  refine v_load_pt (.c _) lay2 rfl rfl rfl rfl ?_
  refine v_nil ?_
  refine d_q rfl rfl rfl rfl rfl ?_
  refine v_move rfl ?_
  refine v_nil ?_
  refine d_q rfl rfl rfl rfl rfl ?_
  refine v_nil_vw rfl ?_
  refine v_nil ?_
  refine d_q rfl rfl rfl rfl rfl ?_
  refine v_fa_vw (off' := 0) lay94 rfl rfl rfl ?_
  refine v_nil ?_
  refine d_q rfl rfl rfl rfl rfl ?_
  refine v_fa_vw (off' := 3) lay64 rfl rfl rfl ?_
  refine v_nil ?_
  refine d_q rfl rfl rfl rfl rfl ?_
  refine v_load_vw (.c (_)) lay28 rfl rfl rfl ?_
  refine v_nil ?_
  refine d_q rfl rfl rfl rfl rfl ?_
  refine v_move rfl ?_
  refine v_nil ?_
  refine d_q rfl rfl rfl rfl rfl ?_
  refine v_idx_e (k := 1) (i) int_len lay28 lay2 rfl rfl rfl (rfl) rfl (rfl) (by omega) ?_
  refine v_nil ?_
  refine d_q rfl rfl rfl rfl rfl ?_
  refine v_load_vw (.c (.v _)) lay2 rfl rfl rfl ?_
  refine v_nil ?_
  refine d_q rfl rfl rfl rfl rfl ?_
  refine v_gtr lay2 rfl rfl (fun h5 => ?_) (fun h5 => ?_)
  rotate_left
  · have hno := h5
    refine v_nil ?_
    refine d_nil ?_
    refine q_n ?_
    refine w_f rfl ?_
    refine w_skip ?_
    refine q_bn ?_
    refine q_n ?_
    refine w_reg rfl ?_
    refine v_add lay3 rfl rfl (i64r (by omega)) ?_
    refine v_move rfl ?_
    refine v_nil ?_
    refine q_n ?_
    have hll := lt_len (stB p fs ds ds.length).1 i
    refine ⟨_, _, _, ?_, ⟨i + 1, rfl, by omega, rfl, rfl⟩, by omega⟩
    exact turn [some 0] rfl rfl rfl ⟨⟨_, rfl, trc_flat int_sc (congrArg (flat int) (lt_no i1 i2 hno))⟩, trivial⟩ ⟨tr_vw, tr_mun rfl (congrArg List.length (lt_no i1 i2 hno)), tr_sl, tr_v, tr_v, trivial⟩
  have hyes := h5
  refine v_nil ?_
  refine d_nil ?_
  refine q_n ?_
  refine w_t rfl ?_
  refine w_reg rfl ?_
  refine v_move rfl ?_
  refine v_move rfl ?_
  refine v_lit (flat int [_]) (H' := [_, _, _]) lay28 lay2 rfl rfl ⟨by decide, by decide⟩ rfl rfl ?_
  refine v_app_flat (H' := [_, _, _, _]) int_sc int_len lay28 lay2 rfl rfl (by first | rfl | (simp; done)) rfl rfl (by first | rfl | (simp; done)) rfl rfl (by unfold maxLen; simp only []; omega) rfl rfl ?_
  refine v_assign rfl ?_
  refine v_nil ?_
  refine q_bn ?_
  refine q_n ?_
  refine w_reg rfl ?_
  refine v_add lay3 rfl rfl (i64r (by omega)) ?_
  refine v_move rfl ?_
  refine v_nil ?_
  refine q_n ?_
  have hll := lt_len (stB p fs ds ds.length).1 i
  refine ⟨_, _, _, ?_, ⟨i + 1, rfl, by omega, rfl, rfl⟩, by omega⟩
  exact turn [some 3] rfl rfl rfl ⟨⟨_, rfl, trc_flat int_sc (congrArg (flat int) (lt_yes i1 i2 hyes))⟩, trivial⟩ ⟨tr_vw, tr_mun rfl (by rw [← lt_yes i1 i2 hyes, List.length_append]; rfl), tr_sl, tr_v, tr_v, trivial⟩

theorem c31 (p : Int) (fs : List Int) (ds : List De) (hx : fs.length ≤ 2 ^ 40) (hd : ds.length ≤ 2 ^ 40) : PureC X 31 [.agg (cen false p fs), .c (dcs false ds)] (.tup [.c (ints true (lateR p fs ds).1), cI (lateR p fs ds).2]) :=
  (c31l p fs ds hx hd).pure (a_tup (.cons (a_flat int_sc int_len rfl rfl) (.cons tr_v .nil)))
end Go.VL
namespace Go.VL
set_option maxHeartbeats 4000000
/-- Deeds, done one after the other. -/
def run (p : Int) : Bd → List De → Bd × List Int
  | b, [] => (b, [])
  | b, d :: es => ((run p (doB p b d).1 es).1, (doB p b d).2 :: (run p (doB p b d).1 es).2)
theorem run_append (p : Int) : ∀ (xs ys : List De) (b : Bd), run p b (xs ++ ys) = ((run p (run p b xs).1 ys).1, (run p b xs).2 ++ (run p (run p b xs).1 ys).2)
  | [], ys, b => rfl
  | x :: xs, ys, b => by simp only [List.cons_append, run, run_append p xs ys]
theorem st_run (p : Int) (fs : List Int) (ds : List De) : ∀ i, i ≤ ds.length → stB p fs ds i = run p (b0 fs) (ds.take i)
  | 0, _ => rfl
  | i + 1, h => by
    have hi : i < ds.length := h
    rw [List.take_succ_eq_append_getElem hi, run_append, ← st_run p fs ds i (by omega)]
    simp only [stB, run, gD hi]
theorem st_all (p : Int) (fs : List Int) (ds : List De) : stB p fs ds ds.length = run p (b0 fs) ds := by
  rw [st_run p fs ds _ (Nat.le_refl _), List.take_length]
/-- A version is not ahead of the newest one, and if it is that one, so is the plan. -/
def Pv (x N : Po) : Prop := x.2 ≤ N.2 ∧ (x.2 = N.2 → x = N)
theorem Pv.refl (x : Po) : Pv x x := ⟨Int.le_refl _, fun _ => rfl⟩
theorem Pv.up {x N N' : Po} (h : Pv x N) (hn : N.2 < N'.2) : Pv x N' := ⟨by have := h.1; omega, fun e => by have := h.1; omega⟩
structure inB (b : Bd) : Prop where
  ps : ∀ i, Pv (b.ps.getD i (0, 0)) (b.nw.getD i (0, 0))
  sv : ∀ i, Pv (b.sv.getD i (0, 0)) (b.nw.getD i (0, 0))
  kn : ∀ i, b.kn.getD i 0 ≤ (b.nw.getD i (0, 0)).2
  wr : ∀ x ∈ b.wr, Pv (x.2.2.1, x.2.2.2) (b.nw.getD x.2.1.toNat (0, 0))
theorem getD_set {α : Type} {l : List α} {a i : Nat} {x d : α} (h : a < l.length) : (l.set a x).getD i d = if i = a then x else l.getD i d := by
  simp only [List.getD_eq_getElem?_getD, List.getElem?_set]
  by_cases hi : i = a
  · subst hi
    simp [h]
  · rw [if_neg hi, if_neg (fun e => hi e.symm)]
theorem in_0 (fs : List Int) : inB (b0 fs) := by
  have h : ∀ i, (0 : Int) ≤ ((bg fs fs.length).getD i (0, 0)).2 := fun i => by
    simp only [bg, List.getD_eq_getElem?_getD, List.getElem?_map]
    cases (fs.take fs.length)[i]? <;> simp
  refine ⟨fun i => Pv.refl _, fun i => Pv.refl _, fun i => ?_, fun x hx => by simp [b0] at hx⟩
  have hz : (b0 fs).kn.getD i 0 = 0 := by
    simp only [b0, List.getD_eq_getElem?_getD, List.getElem?_replicate]
    split <;> rfl
  rw [hz]
  exact h i
theorem in_cut {b : Bd} {a : Nat} (h : inB b) : inB (cutW b a) := ⟨h.ps, h.sv, h.kn, fun x hx => by
  rcases List.mem_append.1 hx with hx | hx
  · exact h.wr x (List.mem_of_mem_take hx)
  · exact h.wr x (List.mem_of_mem_drop hx)⟩
theorem in_come {n i : Nat} {b : Bd} {x : No} (hok : okB n i b) (h : inB b) (hx : 0 ≤ x.2.1 ∧ x.2.1 < n) (hp : Pv (x.2.2.1, x.2.2.2) (b.nw.getD x.2.1.toNat (0, 0))) : inB (comeB b x) := by
  obtain ⟨a, ha⟩ := Int.eq_ofNat_of_zero_le hx.1
  have haK : a < b.kn.length := by rw [hok.kn]; omega
  have haP : a < b.ps.length := by rw [hok.ps]; omega
  rw [ha, Int.toNat_natCast] at hp
  unfold comeB
  rw [ha, Int.toNat_natCast]
  split
  · refine ⟨h.ps, h.sv, fun j => ?_, h.wr⟩
    simp only [getD_set haK]
    split
    · rename_i e
      subst e
      have h1 := h.kn j
      have h2 := hp.1
      simp only at h2
      unfold mx
      split <;> omega
    · exact h.kn j
  · split
    · refine ⟨fun j => ?_, h.sv, h.kn, fun y hy => ?_⟩
      · simp only [getD_set haP]
        split
        · rename_i e
          subst e
          exact hp
        · exact h.ps j
      · rcases List.mem_append.1 hy with hy | hy
        · exact h.wr y hy
        · simp only [List.mem_singleton] at hy
          subst hy
          simpa using hp
    · refine ⟨h.ps, h.sv, h.kn, fun y hy => ?_⟩
      rcases List.mem_append.1 hy with hy | hy
      · exact h.wr y hy
      · simp only [List.mem_singleton] at hy
        subst hy
        simpa using h.ps a
theorem in_do {p : Int} {n i : Nat} {b : Bd} {d : De} (hok : okB n i b) (hd : dOk d) (h : inB b) : inB (doB p b d).1 := by
  obtain ⟨a, ha⟩ := Int.eq_ofNat_of_zero_le hd.2.1.1
  unfold doB
  rw [ha, Int.toNat_natCast]
  split
  · split
    · exact h
    · rename_i hl
      have hl' : a < b.wr.length := by omega
      have hpo := hok.po _ (List.getElem_mem hl')
      have hpv := h.wr _ (List.getElem_mem hl')
      rw [gD hl']
      split
      · split
        · exact h
        · exact in_come hok h hpo hpv
      · split
        · exact in_come (ok_cut hok) (in_cut h) hpo hpv
        · exact in_cut h
  · split
    · exact h
    · rename_i hl
      have hl' : a < n := by have := hok.ps; omega
      have hn : a < b.nw.length := by rw [hok.nw]; exact hl'
      have hs : a < b.sv.length := by rw [hok.sv]; exact hl'
      have hp : a < b.ps.length := by rw [hok.ps]; exact hl'
      split
      · refine ⟨fun j => ?_, fun j => ?_, fun j => ?_, fun x hx => ?_⟩ <;> simp only [getD_set hn] <;> split
        · rename_i e; subst e; exact (h.ps j).up (by simp only; omega)
        · exact h.ps j
        · rename_i e; subst e; exact (h.sv j).up (by simp only; omega)
        · exact h.sv j
        · rename_i e; subst e; have := h.kn j; simp only; omega
        · exact h.kn j
        · rename_i e
          have := h.wr x hx
          rw [e] at this
          exact this.up (by simp only; omega)
        · exact h.wr x hx
      · split
        · split
          · exact h
          · refine ⟨h.ps, h.sv, h.kn, fun y hy => ?_⟩
            rcases List.mem_append.1 hy with hy | hy
            · exact h.wr y hy
            · simp only [List.mem_singleton] at hy
              subst hy
              simp only [Int.toNat_natCast]
              exact Pv.refl _
        · split
          · refine ⟨h.ps, fun j => ?_, h.kn, h.wr⟩
            simp only [getD_set hs]
            split
            · rename_i e; subst e; exact h.ps j
            · exact h.sv j
          · refine ⟨fun j => ?_, h.sv, h.kn, h.wr⟩
            simp only [getD_set hp]
            split
            · rename_i e; subst e; exact h.sv j
            · exact h.ps j
theorem in_st {p : Int} {fs : List Int} {ds : List De} (hds : ∀ d ∈ ds, dOk d) : ∀ i, i ≤ ds.length → okB fs.length i (stB p fs ds i).1 ∧ inB (stB p fs ds i).1
  | 0, _ => ⟨ok_0 fs, in_0 fs⟩
  | i + 1, h => by
    obtain ⟨h1, h2⟩ := in_st (p := p) (fs := fs) hds i (by omega)
    have hd := hds _ (List.getElem_mem (show i < ds.length from h))
    refine ⟨ok_do (p := p) (d := ds[i]) (c := (doB p (stB p fs ds i).1 ds[i]).2) h1 hd (by simp only [stB, gD (show i < ds.length from h)]), ?_⟩
    simp only [stB, gD (show i < ds.length from h)]
    exact in_do h1 hd h2
theorem run_drops (p : Int) : ∀ (w : Nat) (b : Bd), b.wr.length = w → run p b (List.replicate w (5, 0, 0)) = ({ b with wr := [] }, List.replicate w 0)
  | 0, b, h => by
    have : b.wr = [] := List.eq_nil_of_length_eq_zero h
    obtain ⟨b1, b2, b3, b4, b5⟩ := b
    simp only at this
    subst this
    rfl
  | w + 1, b, h => by
    have hd := do_drop (p := p) (b := b) (d := (5, 0, 0)) (a := 0) rfl rfl (by omega)
    rw [List.replicate_succ, run, hd, run_drops p w (cutW b 0) (by simp [cutW]; omega)]
    rfl
/-- A board of which the first posts are finished. -/
def fB (b : Bd) (i : Nat) : Bd := ⟨b.nw, b.nw.take i ++ b.ps.drop i, b.nw.take i ++ b.sv.drop i, (b.nw.map (fun x => x.2)).take i ++ b.kn.drop i, []⟩
theorem set_td {α : Type} {xs ys : List α} {i : Nat} (hx : i < xs.length) (hy : i < ys.length) : (xs.take i ++ ys.drop i).set i xs[i] = xs.take (i + 1) ++ ys.drop (i + 1) := by
  have hd : (ys.drop i).set 0 xs[i] = xs[i] :: ys.drop (i + 1) := by rw [List.drop_eq_getElem_cons hy]; rfl
  rw [List.set_append_right _ _ (by simp; omega), show i - (xs.take i).length = 0 by simp; omega, hd, List.take_succ_eq_append_getElem hx, List.append_assoc]
  rfl
theorem get_td {α : Type} {xs ys : List α} {i : Nat} {d : α} (hx : i ≤ xs.length) (hy : i < ys.length) : (xs.take i ++ ys.drop i).getD i d = ys[i] := by
  simp only [List.getD_eq_getElem?_getD]
  rw [List.getElem?_append_right (by simp; omega)]
  simp [Nat.min_eq_left hx, hy]
theorem run_fin4 {p : Int} {n i : Nat} {b : Bd} (hn : b.nw.length = n) (hp : b.ps.length = n) (hs : b.sv.length = n) (hk : b.kn.length = n) (h : inB b) (hi : i < n) : run p (fB b i) (fin4 i) = (fB b (i + 1), [0, 0, 0, 0]) := by
  have iN : i < b.nw.length := by omega
  have iP : i < b.ps.length := by omega
  have iS : i < b.sv.length := by omega
  have iK : i < b.kn.length := by omega
  have hpv := h.ps i
  rw [gD iP, gD iN] at hpv
  have hkv := h.kn i
  rw [gD iK, gD iN] at hkv
  have l1 : (fB b i).ps.length = n := by simp [fB]; omega
  have l2 : (fB b i).sv.length = n := by simp [fB]; omega
  have l3 : (fB b i).kn.length = n := by simp [fB]; omega
  have e1 : (fB b i).ps.getD i (0, 0) = b.ps[i] := get_td (by omega) iP
  have e2 : (fB b i).kn.getD i 0 = b.kn[i] := get_td (by simp; omega) iK
  rw [gD (by omega)] at e1
  rw [gD (by omega)] at e2
  have s1 := do_send (p := p) (b := fB b i) (d := (2, (i : Int), 0)) (a := i) rfl rfl (by omega) iN (by simp [fB])
  have key : comeB (cutW ⟨(fB b i).nw, (fB b i).ps, (fB b i).sv, (fB b i).kn, [(false, (i : Int), b.nw[i].1, b.nw[i].2)]⟩ 0) (false, (i : Int), b.nw[i].1, b.nw[i].2) = ⟨(fB b i).nw, (fB b i).ps.set i b.nw[i], (fB b i).sv, (fB b i).kn, [(true, (i : Int), b.nw[i].1, b.nw[i].2)]⟩ := by
    by_cases hv : b.nw[i].2 > b.ps[i].2
    · exact come_new (b := cutW ⟨(fB b i).nw, (fB b i).ps, (fB b i).sv, (fB b i).kn, [(false, (i : Int), b.nw[i].1, b.nw[i].2)]⟩ 0) (n := (false, (i : Int), b.nw[i].1, b.nw[i].2)) (pn := i) rfl rfl (show i < (fB b i).ps.length by omega) (by
        show b.nw[i].2 > ((fB b i).ps[i]'(by omega)).2
        rw [e1]; exact hv)
    · have he : b.ps[i] = b.nw[i] := hpv.2 (by have := hpv.1; omega)
      have hset : (fB b i).ps.set i b.nw[i] = (fB b i).ps := by
        rw [← he, ← e1, List.set_getElem_self]
      rw [hset]
      refine (come_old (b := cutW ⟨(fB b i).nw, (fB b i).ps, (fB b i).sv, (fB b i).kn, [(false, (i : Int), b.nw[i].1, b.nw[i].2)]⟩ 0) (n := (false, (i : Int), b.nw[i].1, b.nw[i].2)) (pn := i) rfl rfl (show i < (fB b i).ps.length by omega) (by
        show ¬ b.nw[i].2 > ((fB b i).ps[i]'(by omega)).2
        rw [e1]; exact hv)).trans ?_
      show (⟨(fB b i).nw, (fB b i).ps, (fB b i).sv, (fB b i).kn, [(true, (i : Int), ((fB b i).ps[i]'(by omega)).1, ((fB b i).ps[i]'(by omega)).2)]⟩ : Bd) = _
      rw [e1, he]
  have s2 := do_deliver (p := p) (b := ⟨(fB b i).nw, (fB b i).ps, (fB b i).sv, (fB b i).kn, [(false, (i : Int), b.nw[i].1, b.nw[i].2)]⟩) (d := (3, 0, 0)) (a := 0) rfl rfl (by simp) key
  have key2 : comeB (cutW ⟨(fB b i).nw, (fB b i).ps.set i b.nw[i], (fB b i).sv, (fB b i).kn, [(true, (i : Int), b.nw[i].1, b.nw[i].2)]⟩ 0) (true, (i : Int), b.nw[i].1, b.nw[i].2) = ⟨(fB b i).nw, (fB b i).ps.set i b.nw[i], (fB b i).sv, (fB b i).kn.set i b.nw[i].2, []⟩ := by
    refine (come_back (b := cutW ⟨(fB b i).nw, (fB b i).ps.set i b.nw[i], (fB b i).sv, (fB b i).kn, [(true, (i : Int), b.nw[i].1, b.nw[i].2)]⟩ 0) (n := (true, (i : Int), b.nw[i].1, b.nw[i].2)) (pn := i) rfl rfl (show i < (fB b i).kn.length by omega)).trans ?_
    have : mx ((fB b i).kn[i]'(by omega)) b.nw[i].2 = b.nw[i].2 := by
      rw [e2]; unfold mx; split <;> omega
    show (⟨(fB b i).nw, (fB b i).ps.set i b.nw[i], (fB b i).sv, (fB b i).kn.set i (mx ((fB b i).kn[i]'(by omega)) b.nw[i].2), []⟩ : Bd) = _
    rw [this]
  have s3 := do_deliver (p := p) (b := ⟨(fB b i).nw, (fB b i).ps.set i b.nw[i], (fB b i).sv, (fB b i).kn, [(true, (i : Int), b.nw[i].1, b.nw[i].2)]⟩) (d := (3, 0, 0)) (a := 0) rfl rfl (by simp) key2
  have e4 : ((fB b i).ps.set i b.nw[i])[i]'(by simp; omega) = b.nw[i] := List.getElem_set_self _
  have s4 : doB p ⟨(fB b i).nw, (fB b i).ps.set i b.nw[i], (fB b i).sv, (fB b i).kn.set i b.nw[i].2, []⟩ (6, (i : Int), 0) = (⟨(fB b i).nw, (fB b i).ps.set i b.nw[i], (fB b i).sv.set i b.nw[i], (fB b i).kn.set i b.nw[i].2, []⟩, 0) := by
    refine (do_save (a := i) rfl rfl (by simp; omega)).trans ?_
    show ((⟨(fB b i).nw, (fB b i).ps.set i b.nw[i], (fB b i).sv.set i (((fB b i).ps.set i b.nw[i])[i]'(by simp; omega)), (fB b i).kn.set i b.nw[i].2, []⟩ : Bd), (0 : Int)) = _
    rw [e4]
  have s1' : doB p (fB b i) (2, (i : Int), 0) = (⟨(fB b i).nw, (fB b i).ps, (fB b i).sv, (fB b i).kn, [(false, (i : Int), b.nw[i].1, b.nw[i].2)]⟩, 0) := s1
  have hr : run p (fB b i) (fin4 i) = (⟨(fB b i).nw, (fB b i).ps.set i b.nw[i], (fB b i).sv.set i b.nw[i], (fB b i).kn.set i b.nw[i].2, []⟩, [0, 0, 0, 0]) := by
    simp only [fin4, run]
    rw [s1', s2, s3, s4]
  rw [hr]
  have t1 : (fB b i).ps.set i b.nw[i] = (fB b (i + 1)).ps := set_td iN iP
  have t2 : (fB b i).sv.set i b.nw[i] = (fB b (i + 1)).sv := set_td iN iS
  have t3 : (fB b i).kn.set i b.nw[i].2 = (fB b (i + 1)).kn := by
    have := set_td (xs := b.nw.map (fun x => x.2)) (ys := b.kn) (i := i) (by simp; omega) iK
    rw [List.getElem_map] at this
    exact this
  rw [t1, t2, t3]
  rfl
theorem run_finP {p : Int} {n : Nat} {b : Bd} (hn : b.nw.length = n) (hp : b.ps.length = n) (hs : b.sv.length = n) (hk : b.kn.length = n) (h : inB b) : ∀ i, i ≤ n → run p (fB b 0) (finP i) = (fB b i, List.replicate (4 * i) 0)
  | 0, _ => rfl
  | i + 1, hi => by
    rw [finP_succ, run_append, run_finP hn hp hs hk h i (by omega)]
    simp only
    rw [run_fin4 hn hp hs hk h (by omega)]
    simp only [Prod.mk.injEq, true_and]
    rw [show 4 * (i + 1) = 4 * i + 4 by omega, ← List.replicate_append_replicate]
    rfl
/-- Behind the deeds that finish a board all posts follow their newest plans, and it is known. -/
theorem run_finL {p : Int} {n i : Nat} {b : Bd} (hok : okB n i b) (h : inB b) : run p b (finL b.wr.length n) = (⟨b.nw, b.nw, b.nw, b.nw.map (fun x => x.2), []⟩, List.replicate (b.wr.length + 4 * n) 0) := by
  unfold finL
  rw [run_append, run_drops p _ b rfl]
  have h0 : ({ b with wr := [] } : Bd) = fB b 0 := by simp [fB]
  simp only
  rw [h0, run_finP hok.nw hok.ps hok.sv hok.kn h n (Nat.le_refl _)]
  simp only [Prod.mk.injEq, List.replicate_append_replicate, and_true]
  have q1 := hok.nw
  have q2 := hok.ps
  have q3 := hok.sv
  have q4 := hok.kn
  unfold fB
  rw [List.take_of_length_le (by omega), List.drop_of_length_le (l := b.ps) (by omega), List.drop_of_length_le (l := b.sv) (by omega), List.take_of_length_le (by simp; omega), List.drop_of_length_le (l := b.kn) (by omega)]
  simp
theorem cz_app (xs : List Int) (m : Nat) : cz (xs ++ List.replicate m 0) = cz xs + m := by
  unfold cz
  rw [List.filter_append]
  simp
theorem fin_ok (w n : Nat) (hn : n ≤ 6) : ∀ d ∈ finL w n, dOk d := fun d hd => by
  unfold finL at hd
  rcases List.mem_append.1 hd with hd | hd
  · rw [List.mem_replicate] at hd
    rw [hd.2]
    decide
  · unfold finP at hd
    obtain ⟨i, hi, hd⟩ := List.mem_flatMap.1 hd
    have hi' : i < n := by simpa using hi
    simp only [fin4, List.mem_cons, List.not_mem_nil, or_false] at hd
    rcases hd with rfl | rfl | rfl | rfl
    · exact ⟨⟨by show (1 : Int) ≤ _; simp, by simp⟩, ⟨by simp only; omega, by simp only; omega⟩, ⟨Int.le_refl _, by simp⟩, .inr rfl⟩
    · decide
    · decide
    · exact ⟨⟨by show (1 : Int) ≤ _; simp, by simp⟩, ⟨by simp only; omega, by simp only; omega⟩, ⟨Int.le_refl _, by simp⟩, .inr rfl⟩
end Go.VL
namespace Go.VL
open Go.RowKit
set_option maxRecDepth 20000
set_option maxHeartbeats 8000000
theorem bo_fin {p : Int} {fs : List Int} {ds : List De} (hc : okC p fs) (hds : ∀ d ∈ ds, dOk d) (hl : ds.length ≤ 28) :
    gvR p fs ds = 0 ∧ okB fs.length ds.length (boR p fs ds).1 ∧ inB (boR p fs ds).1 ∧ (boR p fs ds).1 = (stB p fs ds ds.length).1 ∧ (boR p fs ds).2.2 = 0 ∧ (finR p fs ds).2 = 0 ∧ (lateR p fs ds).2 = 0 ∧ (agR p fs ds) = (decide ((boR p fs ds).1.ps = (boR p fs ds).1.nw), 0) ∧ (finR p fs ds).1.length ≤ 40 ∧
    (0 ≤ (boR p fs ds).2.1 ∧ (boR p fs ds).2.1 ≤ 28) ∧
    boR p fs (([] ++ ds) ++ (finR p fs ds).1) = (⟨(boR p fs ds).1.nw, (boR p fs ds).1.nw, (boR p fs ds).1.nw, (boR p fs ds).1.nw.map (fun x => x.2), []⟩, (boR p fs ds).2.1 + (finR p fs ds).1.length, 0) := by
  have hg : gvR p fs ds = 0 := gv_0 hc hds (by omega)
  obtain ⟨hok, hin⟩ := in_st (p := p) (fs := fs) hds ds.length (Nat.le_refl _)
  have hf : fs.length ≤ 6 := hc.2.2.2.1
  have hw := hok.wr
  have hfin : finR p fs ds = (finL (stB p fs ds ds.length).1.wr.length fs.length, 0) := fin_of hg rfl (by omega)
  have hfl := finL_len (stB p fs ds ds.length).1.wr.length fs.length
  have hcz := cz_len (stB p fs ds ds.length).2
  rw [st_len] at hcz
  rw [hfin, bo_of hg, late_of hg, ag_of hg rfl]
  refine ⟨hg, hok, hin, rfl, rfl, rfl, rfl, rfl, by simp only; omega, ⟨hcz.1, by simp only; omega⟩, ?_⟩
  simp only [List.nil_append]
  have hd2 : ∀ d ∈ ds ++ finL (stB p fs ds ds.length).1.wr.length fs.length, dOk d := fun d hd => by
    rcases List.mem_append.1 hd with hd | hd
    · exact hds d hd
    · exact fin_ok _ _ hf d hd
  rw [bo_of (gv_0 hc hd2 (by rw [List.length_append]; omega)), st_all, run_append, ← st_all, run_finL hok hin]
  simp only [cz_app]
  rw [hfl]
theorem c41E {p : Int} {fs : List Int} {xs : List De} {n : Nat} {e : Bd × Int × Int} (h : boR p fs xs = e) (hn : n = xs.length) (hx : fs.length ≤ 2 ^ 40) (hd : xs.length ≤ 2 ^ 40) : PureC X 41 [.agg (cen false p fs), .c (.sl false n 3 (flat dce xs))] (boV e) := by
  subst h hn
  exact c41 p fs xs hx hd
theorem rq101 {x y : Operand} {ty2 : TypeId} {ρ : Operand → V} {a b : No} (hx : ρ x = .agg (nce a)) (hy : ρ y = .agg (nce b)) : RawQ X (.binOp .neq 101 x y ty2) ρ (cB (decide (¬ a = b))) :=
  rq_neqK (X := X) (p := a = b) [(4, 0), (2, 1), (2, 2), (2, 3)] (by kernel_rfl) (by kernel_rfl) (by kernel_rfl) (by kernel_rfl)
    (fun q hq => by
      simp only [List.mem_cons, List.not_mem_nil, or_false] at hq
      rcases hq with rfl | rfl | rfl | rfl
      · exact keyBool (by kernel_rfl) rfl rfl
      · exact keyInt (k' := .i64) (by kernel_rfl) rfl rfl
      · exact keyInt (k' := .i64) (by kernel_rfl) rfl rfl
      · exact keyInt (k' := .i64) (by kernel_rfl) rfl rfl)
    ⟨fun h q _ => by rw [h], fun h => by
      have h0 := h (4, 0) (by simp)
      have h1 := h (2, 1) (by simp)
      have h2 := h (2, 2) (by simp)
      have h3 := h (2, 3) (by simp)
      simp [nce] at h0 h1 h2 h3
      exact Prod.ext h0 (Prod.ext h1 (Prod.ext h2 h3))⟩ hx hy
theorem c45 (xs ys : List Int) : PureC X 45 [.c (.sl false xs.length 1 (flat byt xs)), .c (.sl false ys.length 1 (flat byt ys))] (cB (decide (3000 < xs.length ∨ 3000 < ys.length))) := by
  refine PureC.of_body (drawD_ok X) (fun _ _ => Go.Proofs.Try.call45 _ _) Go.Proofs.Try.func45 rfl (n := 13) rfl ?_
  refine w_seq ?_
  refine w_reg rfl ?_
  refine v_assign (c := .v (.bool false)) rfl ?_
  refine v_nil ?_
  refine q_n ?_
  refine w_seq ?_
  refine w_reg rfl ?_
  refine v_move rfl ?_
  refine v_len_sl lay69 rfl ?_
  refine v_gtr lay3 rfl rfl (fun h1 => ?_) (fun h1 => ?_)
  · refine v_move rfl ?_
    refine v_guard_off rfl rfl rfl ?_
    refine v_guard_off rfl rfl rfl ?_
    refine v_guard_off rfl rfl rfl ?_
    refine v_pick_t (v := .v (.bool true)) rfl rfl ?_
    refine v_assign rfl ?_
    refine v_nil ?_
    refine q_n ?_
    refine w_ret ?_
    refine r_r rfl ?_
    exact a_b (by simp; omega)
  refine v_move rfl ?_
  refine v_guard_on rfl rfl ?_
  refine v_move rfl ?_
  refine v_guard_on rfl rfl ?_
  refine v_len_sl lay69 rfl ?_
  refine v_guard_on rfl rfl ?_
  refine v_gtr lay3 rfl rfl (fun h2 => ?_) (fun h2 => ?_)
  · refine v_pick_f rfl rfl ?_
    refine v_assign rfl ?_
    refine v_nil ?_
    refine q_n ?_
    refine w_ret ?_
    refine r_r rfl ?_
    exact a_b (by simp; omega)
  refine v_pick_f rfl rfl ?_
  refine v_assign rfl ?_
  refine v_nil ?_
  refine q_n ?_
  refine w_ret ?_
  refine r_r rfl ?_
  exact a_b (by simp; omega)

theorem c50 (xs ys : List Po) (hx : xs.length ≤ 2 ^ 40) : PureC X 50 [.c (.sl false xs.length 2 (flat pe xs)), .c (.sl false ys.length 2 (flat pe ys))] (cB (decide (xs = ys))) := by
  refine PureC.of_body (drawD_ok X) (fun _ _ => Go.Proofs.Try.call50 _ _) Go.Proofs.Try.func50 rfl (n := 26) rfl ?_
  refine w_seq ?_
  refine w_reg rfl ?_
  refine v_assign (c := .v (.bool false)) rfl ?_
  refine v_nil ?_
  refine q_n ?_
  refine w_seq ?_
  refine w_seq ?_
  refine w_reg rfl ?_
  refine v_move rfl ?_
  refine v_len_sl lay61 rfl ?_
  refine v_move rfl ?_
  refine v_len_sl lay61 rfl ?_
  refine v_neq lay3 rfl rfl (fun h1 => ?_) (fun h1 => ?_)
  · refine v_nil ?_
    refine q_n ?_
    refine w_t rfl ?_
    refine w_seq ?_
    refine w_reg rfl ?_
    refine v_assign (c := .v (.bool false)) rfl ?_
    refine v_nil ?_
    refine q_n ?_
    refine w_ret (q_r ?_)
    refine r_r rfl ?_
    exact a_b (by simp only [Bool.false_eq_true, false_iff]; rintro rfl; exact h1 rfl)
  refine v_nil ?_
  refine q_n ?_
  refine w_f rfl ?_
  refine w_skip ?_
  refine q_n ?_
  refine w_seq ?_
  refine w_seq ?_
  refine w_reg rfl ?_
  refine v_assign (c := .v (.int .i64 0)) rfl ?_
  refine v_nil ?_
  refine q_n ?_
  refine w_block ?_
  refine w_loop (fun k sl H => ∃ i : Nat, k = xs.length - i ∧ i ≤ xs.length ∧ xs.take i = ys.take i ∧ sl = sls [(0, .c (.sl false xs.length 2 (flat pe xs))), (1, .c (.sl false ys.length 2 (flat pe ys))), (5, cI i)] ∧ H = []) ?_ ?_
  · refine ⟨_, _, _, ?_, 0, rfl, Nat.zero_le _, rfl, rfl, rfl⟩
    exact turn0 ⟨tr_sl, tr_sl, tr_v, trivial⟩
  rintro k sl H ⟨i, rfl, hi, hp, rfl, rfl⟩
  refine w_seq ?_
  refine w_seq ?_
  refine w_reg rfl ?_
  refine v_move rfl ?_
  refine v_move rfl ?_
  refine v_len_sl lay61 rfl ?_
  refine v_lss lay3 rfl rfl (fun h2 => ?_) (fun h2 => ?_)
  rotate_left
  · refine v_nil ?_
    refine q_n ?_
    refine w_f rfl ?_
    refine w_exit ?_
    refine q_e ?_
    refine q_e ?_
    refine q_hit ?_
    refine q_n ?_
    refine w_seq ?_
    refine w_reg rfl ?_
    refine v_assign (c := .v (.bool true)) rfl ?_
    refine v_nil ?_
    refine q_n ?_
    refine w_ret ?_
    refine r_r rfl ?_
    exact a_b (by simp only [true_iff]; exact take_all_eq hp (by omega) (by omega))
  have i1 : i < xs.length := by omega
  have i2 : i < ys.length := by omega
  refine v_nil ?_
  refine q_n ?_
  refine w_t rfl ?_
  refine w_skip ?_
  refine q_n ?_
  refine w_seq ?_
  refine w_block ?_
  refine w_seq ?_
  refine w_draw [0, 0, 3, 7, 0, 0, 48, 112, 255] [⟨0, 0, []⟩, ⟨1, 0, []⟩, ⟨2, 0, []⟩, ⟨3, 0, []⟩, ⟨4, 0, []⟩, ⟨5, 0, []⟩, ⟨6, 0, []⟩, ⟨7, 0, []⟩, ⟨8, 0, []⟩] rfl rfl ?_
  refine d_q rfl rfl rfl rfl rfl ?_
  refine v_move rfl ?_
  refine v_nil ?_
  refine d_q rfl rfl rfl rfl rfl ?_
  refine v_move rfl ?_
  refine v_nil ?_
  refine d_q rfl rfl rfl rfl rfl ?_
  refine v_idx_e (k := 2) (i) pe_len lay61 lay46 rfl rfl rfl (rfl) rfl (rfl) (by omega) ?_
  refine v_nil ?_
  refine d_q rfl rfl rfl rfl rfl ?_
  refine v_load_vw (.agg [.v _, .v _]) lay46 rfl rfl rfl ?_
  refine v_nil ?_
  refine d_q rfl rfl rfl rfl rfl ?_
  refine v_move rfl ?_
  refine v_nil ?_
  refine d_q rfl rfl rfl rfl rfl ?_
  refine v_move rfl ?_
  refine v_nil ?_
  refine d_q rfl rfl rfl rfl rfl ?_
  refine v_idx_e (k := 2) (i) pe_len lay61 lay46 rfl rfl rfl (rfl) rfl (rfl) (by omega) ?_
  refine v_nil ?_
  refine d_q rfl rfl rfl rfl rfl ?_
  refine v_load_vw (.agg [.v _, .v _]) lay46 rfl rfl rfl ?_
  refine v_nil ?_
  refine d_rawb (rq46 (a := xs[i]) (b := ys[i]) rfl rfl) rfl rfl rfl rfl rfl (fun h5 => ?_) (fun h5 => ?_)
  · have hne := h5
    refine d_nil ?_
    refine q_n ?_
    refine w_t rfl ?_
    refine w_seq ?_
    refine w_reg rfl ?_
    refine v_assign (c := .v (.bool false)) rfl ?_
    refine v_nil ?_
    refine q_n ?_
    refine w_ret (q_br (q_r (q_r (q_br (q_r ?_)))))
    refine r_r rfl ?_
    exact a_b (by simp only [Bool.false_eq_true, false_iff]; exact ne_at i1 i2 hne)
  have hne := h5
  refine d_nil ?_
  refine q_n ?_
  refine w_f rfl ?_
  refine w_skip ?_
  refine q_bn ?_
  refine q_n ?_
  refine w_reg rfl ?_
  refine v_move rfl ?_
  refine v_add lay3 rfl rfl (i64r (by omega)) ?_
  refine v_assign rfl ?_
  refine v_nil ?_
  refine q_n ?_
  refine ⟨_, _, _, ?_, ⟨i + 1, rfl, by omega, take_step_eq hp (by omega) (by omega) (Decidable.of_not_not hne), rfl, rfl⟩, by omega⟩
  exact turn0 ⟨tr_sl, tr_sl, tr_v, trivial⟩

theorem c81 (xs ys : List Int) (hx : xs.length ≤ 2 ^ 40) : PureC X 81 [.c (.sl false xs.length 1 (flat int xs)), .c (.sl false ys.length 1 (flat int ys))] (cB (decide (xs = ys))) := by
  refine PureC.of_body (drawD_ok X) (fun _ _ => Go.Proofs.Try.call81 _ _) Go.Proofs.Try.func81 rfl (n := 26) rfl ?_
  refine w_seq ?_
  refine w_reg rfl ?_
  refine v_assign (c := .v (.bool false)) rfl ?_
  refine v_nil ?_
  refine q_n ?_
  refine w_seq ?_
  refine w_seq ?_
  refine w_reg rfl ?_
  refine v_move rfl ?_
  refine v_len_sl lay28 rfl ?_
  refine v_move rfl ?_
  refine v_len_sl lay28 rfl ?_
  refine v_neq lay3 rfl rfl (fun h1 => ?_) (fun h1 => ?_)
  · refine v_nil ?_
    refine q_n ?_
    refine w_t rfl ?_
    refine w_seq ?_
    refine w_reg rfl ?_
    refine v_assign (c := .v (.bool false)) rfl ?_
    refine v_nil ?_
    refine q_n ?_
    refine w_ret (q_r ?_)
    refine r_r rfl ?_
    exact a_b (by simp only [Bool.false_eq_true, false_iff]; rintro rfl; exact h1 rfl)
  refine v_nil ?_
  refine q_n ?_
  refine w_f rfl ?_
  refine w_skip ?_
  refine q_n ?_
  refine w_seq ?_
  refine w_seq ?_
  refine w_reg rfl ?_
  refine v_assign (c := .v (.int .i64 0)) rfl ?_
  refine v_nil ?_
  refine q_n ?_
  refine w_block ?_
  refine w_loop (fun k sl H => ∃ i : Nat, k = xs.length - i ∧ i ≤ xs.length ∧ xs.take i = ys.take i ∧ sl = sls [(0, .c (.sl false xs.length 1 (flat int xs))), (1, .c (.sl false ys.length 1 (flat int ys))), (5, cI i)] ∧ H = []) ?_ ?_
  · refine ⟨_, _, _, ?_, 0, rfl, Nat.zero_le _, rfl, rfl, rfl⟩
    exact turn0 ⟨tr_sl, tr_sl, tr_v, trivial⟩
  rintro k sl H ⟨i, rfl, hi, hp, rfl, rfl⟩
  refine w_seq ?_
  refine w_seq ?_
  refine w_reg rfl ?_
  refine v_move rfl ?_
  refine v_move rfl ?_
  refine v_len_sl lay28 rfl ?_
  refine v_lss lay3 rfl rfl (fun h2 => ?_) (fun h2 => ?_)
  rotate_left
  · refine v_nil ?_
    refine q_n ?_
    refine w_f rfl ?_
    refine w_exit ?_
    refine q_e ?_
    refine q_e ?_
    refine q_hit ?_
    refine q_n ?_
    refine w_seq ?_
    refine w_reg rfl ?_
    refine v_assign (c := .v (.bool true)) rfl ?_
    refine v_nil ?_
    refine q_n ?_
    refine w_ret ?_
    refine r_r rfl ?_
    exact a_b (by simp only [true_iff]; exact take_all_eq hp (by omega) (by omega))
  have i1 : i < xs.length := by omega
  have i2 : i < ys.length := by omega
  refine v_nil ?_
  refine q_n ?_
  refine w_t rfl ?_
  refine w_skip ?_
  refine q_n ?_
  refine w_seq ?_
  refine w_block ?_
  refine w_seq ?_
  refine w_draw [0, 0, 3, 7, 0, 0, 48, 112, 255] [⟨0, 0, []⟩, ⟨1, 0, []⟩, ⟨2, 0, []⟩, ⟨3, 0, []⟩, ⟨4, 0, []⟩, ⟨5, 0, []⟩, ⟨6, 0, []⟩, ⟨7, 0, []⟩, ⟨8, 0, []⟩] rfl rfl ?_
  refine d_q rfl rfl rfl rfl rfl ?_
  refine v_move rfl ?_
  refine v_nil ?_
  refine d_q rfl rfl rfl rfl rfl ?_
  refine v_move rfl ?_
  refine v_nil ?_
  refine d_q rfl rfl rfl rfl rfl ?_
  refine v_idx_e (k := 1) (i) int_len lay28 lay2 rfl rfl rfl (rfl) rfl (rfl) (by omega) ?_
  refine v_nil ?_
  refine d_q rfl rfl rfl rfl rfl ?_
  refine v_load_vw (.c (.v _)) lay2 rfl rfl rfl ?_
  refine v_nil ?_
  refine d_q rfl rfl rfl rfl rfl ?_
  refine v_move rfl ?_
  refine v_nil ?_
  refine d_q rfl rfl rfl rfl rfl ?_
  refine v_move rfl ?_
  refine v_nil ?_
  refine d_q rfl rfl rfl rfl rfl ?_
  refine v_idx_e (k := 1) (i) int_len lay28 lay2 rfl rfl rfl (rfl) rfl (rfl) (by omega) ?_
  refine v_nil ?_
  refine d_q rfl rfl rfl rfl rfl ?_
  refine v_load_vw (.c (.v _)) lay2 rfl rfl rfl ?_
  refine v_nil ?_
  refine d_q rfl rfl rfl rfl rfl ?_
  refine v_neq lay2 rfl rfl (fun h5 => ?_) (fun h5 => ?_)
  · have hne := h5
    refine v_nil ?_
    refine d_nil ?_
    refine q_n ?_
    refine w_t rfl ?_
    refine w_seq ?_
    refine w_reg rfl ?_
    refine v_assign (c := .v (.bool false)) rfl ?_
    refine v_nil ?_
    refine q_n ?_
    refine w_ret (q_br (q_r (q_r (q_br (q_r ?_)))))
    refine r_r rfl ?_
    exact a_b (by simp only [Bool.false_eq_true, false_iff]; exact ne_at i1 i2 hne)
  have hne := h5
  refine v_nil ?_
  refine d_nil ?_
  refine q_n ?_
  refine w_f rfl ?_
  refine w_skip ?_
  refine q_bn ?_
  refine q_n ?_
  refine w_reg rfl ?_
  refine v_move rfl ?_
  refine v_add lay3 rfl rfl (i64r (by omega)) ?_
  refine v_assign rfl ?_
  refine v_nil ?_
  refine q_n ?_
  refine ⟨_, _, _, ?_, ⟨i + 1, rfl, by omega, take_step_eq hp (by omega) (by omega) hne, rfl, rfl⟩, by omega⟩
  exact turn0 ⟨tr_sl, tr_sl, tr_v, trivial⟩

theorem c49 (xs ys : List Int) (hx : xs.length ≤ 2 ^ 40) : PureC X 49 [.c (ints false xs), .c (ints false ys)] (cB (decide (xs = ys))) := by
  refine PureC.of_body (drawD_ok X) (fun _ _ => Go.Proofs.Try.call49 _ _) Go.Proofs.Try.func49 rfl (n := 8) rfl ?_
  refine w_seq ?_
  refine w_reg rfl ?_
  refine v_assign (c := .v (.bool false)) rfl ?_
  refine v_nil ?_
  refine q_n ?_
  refine w_seq ?_
  refine w_reg rfl ?_
  refine v_move rfl ?_
  refine v_move rfl ?_
  refine v_callb (c81 _ _ (by omega)) rfl rfl (.cons vw_sl (.cons vw_sl .nil)) (fun h1 => ?_) (fun h1 => ?_)
  · refine v_assign rfl ?_
    refine v_nil ?_
    refine q_n ?_
    refine w_ret ?_
    refine r_r rfl ?_
    exact a_b (by simp_all)
  refine v_assign rfl ?_
  refine v_nil ?_
  refine q_n ?_
  refine w_ret ?_
  refine r_r rfl ?_
  exact a_b (by simp_all)

theorem c48 (a b : Bd) (h1 : a.nw.length ≤ 10) (h2 : a.ps.length ≤ 10) (h3 : a.sv.length ≤ 10) (h4 : a.kn.length ≤ 10) (h5 : a.wr.length ≤ 10) : PureC X 48 [.agg (bds false a), .agg (bds false b)] (cB (decide (a = b))) := by
  refine PureC.of_body (drawD_ok X) (fun _ _ => Go.Proofs.Try.call48 _ _) Go.Proofs.Try.func48 rfl (n := 63) rfl ?_
  refine w_seq ?_
  refine w_reg rfl ?_
  refine v_box (m := 0) (H' := [_]) lay64 rfl rfl rfl ?_
  refine v_box (m := 1) (H' := [_, _]) lay64 rfl rfl rfl ?_
  refine v_assign (c := .v (.bool false)) rfl ?_
  refine v_nil ?_
  refine q_n ?_
  refine w_seq ?_
  refine w_seq ?_
  refine w_reg rfl ?_
  refine v_fa_pt (off' := 0) lay64 rfl rfl rfl ?_
  refine v_load_pt (.c _) lay61 rfl rfl rfl rfl ?_
  refine v_fa_pt (off' := 0) lay64 rfl rfl rfl ?_
  refine v_load_pt (.c _) lay61 rfl rfl rfl rfl ?_
  refine v_callb (c50 _ _ (by omega)) rfl rfl (.cons vw_sl (.cons vw_sl .nil)) (fun h1 => ?_) (fun h1 => ?_)
  rotate_left
  · refine v_not true rfl rfl ?_
    refine v_move rfl ?_
    refine v_guard_off rfl rfl rfl ?_
    refine v_guard_off rfl rfl rfl ?_
    refine v_guard_off rfl rfl rfl ?_
    refine v_guard_off rfl rfl rfl ?_
    refine v_guard_off rfl rfl rfl ?_
    refine v_guard_off rfl rfl rfl ?_
    refine v_pick_t (v := .v (.bool true)) rfl rfl ?_
    refine v_move rfl ?_
    refine v_guard_off rfl rfl rfl ?_
    refine v_guard_off rfl rfl rfl ?_
    refine v_guard_off rfl rfl rfl ?_
    refine v_guard_off rfl rfl rfl ?_
    refine v_guard_off rfl rfl rfl ?_
    refine v_guard_off rfl rfl rfl ?_
    refine v_pick_t (v := .v (.bool true)) rfl rfl ?_
    refine v_move rfl ?_
    refine v_guard_off rfl rfl rfl ?_
    refine v_guard_off rfl rfl rfl ?_
    refine v_guard_off rfl rfl rfl ?_
    refine v_guard_off rfl rfl rfl ?_
    refine v_guard_off rfl rfl rfl ?_
    refine v_guard_off rfl rfl rfl ?_
    refine v_pick_t (v := .v (.bool true)) rfl rfl ?_
    refine v_move rfl ?_
    refine v_guard_off rfl rfl rfl ?_
    refine v_guard_off rfl rfl rfl ?_
    refine v_guard_off rfl rfl rfl ?_
    refine v_guard_off rfl rfl rfl ?_
    refine v_guard_off rfl rfl rfl ?_
    refine v_guard_off rfl rfl rfl ?_
    refine v_guard_off rfl rfl rfl ?_
    refine v_pick_t (v := .v (.bool true)) rfl rfl ?_
    refine v_nil ?_
    refine q_n ?_
    refine w_t rfl ?_
    refine w_seq ?_
    refine w_reg rfl ?_
    refine v_assign (c := .v (.bool false)) rfl ?_
    refine v_nil ?_
    refine q_n ?_
    refine w_ret (q_r ?_)
    refine r_r rfl ?_
    exact a_b (by simp only [Bool.false_eq_true, false_iff]; rintro rfl; contradiction)
  refine v_not false rfl rfl ?_
  refine v_move rfl ?_
  refine v_guard_on rfl rfl ?_
  refine v_fa_pt (off' := 1) lay64 rfl rfl rfl ?_
  refine v_guard_on rfl rfl ?_
  refine v_load_pt (.c _) lay61 rfl rfl rfl rfl ?_
  refine v_guard_on rfl rfl ?_
  refine v_fa_pt (off' := 1) lay64 rfl rfl rfl ?_
  refine v_guard_on rfl rfl ?_
  refine v_load_pt (.c _) lay61 rfl rfl rfl rfl ?_
  refine v_guard_on rfl rfl ?_
  refine v_callb (c50 _ _ (by omega)) rfl rfl (.cons vw_sl (.cons vw_sl .nil)) (fun h2 => ?_) (fun h2 => ?_)
  rotate_left
  · refine v_guard_on rfl rfl ?_
    refine v_not true rfl rfl ?_
    refine v_pick_f rfl rfl ?_
    refine v_move rfl ?_
    refine v_guard_off rfl rfl rfl ?_
    refine v_guard_off rfl rfl rfl ?_
    refine v_guard_off rfl rfl rfl ?_
    refine v_guard_off rfl rfl rfl ?_
    refine v_guard_off rfl rfl rfl ?_
    refine v_guard_off rfl rfl rfl ?_
    refine v_pick_t (v := .v (.bool true)) rfl rfl ?_
    refine v_move rfl ?_
    refine v_guard_off rfl rfl rfl ?_
    refine v_guard_off rfl rfl rfl ?_
    refine v_guard_off rfl rfl rfl ?_
    refine v_guard_off rfl rfl rfl ?_
    refine v_guard_off rfl rfl rfl ?_
    refine v_guard_off rfl rfl rfl ?_
    refine v_pick_t (v := .v (.bool true)) rfl rfl ?_
    refine v_move rfl ?_
    refine v_guard_off rfl rfl rfl ?_
    refine v_guard_off rfl rfl rfl ?_
    refine v_guard_off rfl rfl rfl ?_
    refine v_guard_off rfl rfl rfl ?_
    refine v_guard_off rfl rfl rfl ?_
    refine v_guard_off rfl rfl rfl ?_
    refine v_guard_off rfl rfl rfl ?_
    refine v_pick_t (v := .v (.bool true)) rfl rfl ?_
    refine v_nil ?_
    refine q_n ?_
    refine w_t rfl ?_
    refine w_seq ?_
    refine w_reg rfl ?_
    refine v_assign (c := .v (.bool false)) rfl ?_
    refine v_nil ?_
    refine q_n ?_
    refine w_ret (q_r ?_)
    refine r_r rfl ?_
    exact a_b (by simp only [Bool.false_eq_true, false_iff]; rintro rfl; contradiction)
  refine v_guard_on rfl rfl ?_
  refine v_not false rfl rfl ?_
  refine v_pick_f rfl rfl ?_
  refine v_move rfl ?_
  refine v_guard_on rfl rfl ?_
  refine v_fa_pt (off' := 2) lay64 rfl rfl rfl ?_
  refine v_guard_on rfl rfl ?_
  refine v_load_pt (.c _) lay61 rfl rfl rfl rfl ?_
  refine v_guard_on rfl rfl ?_
  refine v_fa_pt (off' := 2) lay64 rfl rfl rfl ?_
  refine v_guard_on rfl rfl ?_
  refine v_load_pt (.c _) lay61 rfl rfl rfl rfl ?_
  refine v_guard_on rfl rfl ?_
  refine v_callb (c50 _ _ (by omega)) rfl rfl (.cons vw_sl (.cons vw_sl .nil)) (fun h3 => ?_) (fun h3 => ?_)
  rotate_left
  · refine v_guard_on rfl rfl ?_
    refine v_not true rfl rfl ?_
    refine v_pick_f rfl rfl ?_
    refine v_move rfl ?_
    refine v_guard_off rfl rfl rfl ?_
    refine v_guard_off rfl rfl rfl ?_
    refine v_guard_off rfl rfl rfl ?_
    refine v_guard_off rfl rfl rfl ?_
    refine v_guard_off rfl rfl rfl ?_
    refine v_guard_off rfl rfl rfl ?_
    refine v_pick_t (v := .v (.bool true)) rfl rfl ?_
    refine v_move rfl ?_
    refine v_guard_off rfl rfl rfl ?_
    refine v_guard_off rfl rfl rfl ?_
    refine v_guard_off rfl rfl rfl ?_
    refine v_guard_off rfl rfl rfl ?_
    refine v_guard_off rfl rfl rfl ?_
    refine v_guard_off rfl rfl rfl ?_
    refine v_guard_off rfl rfl rfl ?_
    refine v_pick_t (v := .v (.bool true)) rfl rfl ?_
    refine v_nil ?_
    refine q_n ?_
    refine w_t rfl ?_
    refine w_seq ?_
    refine w_reg rfl ?_
    refine v_assign (c := .v (.bool false)) rfl ?_
    refine v_nil ?_
    refine q_n ?_
    refine w_ret (q_r ?_)
    refine r_r rfl ?_
    exact a_b (by simp only [Bool.false_eq_true, false_iff]; rintro rfl; contradiction)
  refine v_guard_on rfl rfl ?_
  refine v_not false rfl rfl ?_
  refine v_pick_f rfl rfl ?_
  refine v_move rfl ?_
  refine v_guard_on rfl rfl ?_
  refine v_fa_pt (off' := 3) lay64 rfl rfl rfl ?_
  refine v_guard_on rfl rfl ?_
  refine v_load_pt (.c _) lay28 rfl rfl rfl rfl ?_
  refine v_guard_on rfl rfl ?_
  refine v_fa_pt (off' := 3) lay64 rfl rfl rfl ?_
  refine v_guard_on rfl rfl ?_
  refine v_load_pt (.c _) lay28 rfl rfl rfl rfl ?_
  refine v_guard_on rfl rfl ?_
  refine v_callb (c81 _ _ (by omega)) rfl rfl (.cons vw_sl (.cons vw_sl .nil)) (fun h4 => ?_) (fun h4 => ?_)
  rotate_left
  · refine v_guard_on rfl rfl ?_
    refine v_not true rfl rfl ?_
    refine v_pick_f rfl rfl ?_
    refine v_move rfl ?_
    refine v_guard_off rfl rfl rfl ?_
    refine v_guard_off rfl rfl rfl ?_
    refine v_guard_off rfl rfl rfl ?_
    refine v_guard_off rfl rfl rfl ?_
    refine v_guard_off rfl rfl rfl ?_
    refine v_guard_off rfl rfl rfl ?_
    refine v_guard_off rfl rfl rfl ?_
    refine v_pick_t (v := .v (.bool true)) rfl rfl ?_
    refine v_nil ?_
    refine q_n ?_
    refine w_t rfl ?_
    refine w_seq ?_
    refine w_reg rfl ?_
    refine v_assign (c := .v (.bool false)) rfl ?_
    refine v_nil ?_
    refine q_n ?_
    refine w_ret (q_r ?_)
    refine r_r rfl ?_
    exact a_b (by simp only [Bool.false_eq_true, false_iff]; rintro rfl; contradiction)
  refine v_guard_on rfl rfl ?_
  refine v_not false rfl rfl ?_
  refine v_pick_f rfl rfl ?_
  refine v_move rfl ?_
  refine v_guard_on rfl rfl ?_
  refine v_fa_pt (off' := 4) lay64 rfl rfl rfl ?_
  refine v_guard_on rfl rfl ?_
  refine v_load_pt (.c _) lay62 rfl rfl rfl rfl ?_
  refine v_guard_on rfl rfl ?_
  refine v_len_sl lay62 rfl ?_
  refine v_guard_on rfl rfl ?_
  refine v_fa_pt (off' := 4) lay64 rfl rfl rfl ?_
  refine v_guard_on rfl rfl ?_
  refine v_load_pt (.c _) lay62 rfl rfl rfl rfl ?_
  refine v_guard_on rfl rfl ?_
  refine v_len_sl lay62 rfl ?_
  refine v_guard_on rfl rfl ?_
  refine v_neq lay3 rfl rfl (fun h5 => ?_) (fun h5 => ?_)
  · refine v_pick_f rfl rfl ?_
    refine v_nil ?_
    refine q_n ?_
    refine w_t rfl ?_
    refine w_seq ?_
    refine w_reg rfl ?_
    refine v_assign (c := .v (.bool false)) rfl ?_
    refine v_nil ?_
    refine q_n ?_
    refine w_ret (q_r ?_)
    refine r_r rfl ?_
    exact a_b (by simp only [Bool.false_eq_true, false_iff]; rintro rfl; contradiction)
  refine v_pick_f rfl rfl ?_
  refine v_nil ?_
  refine q_n ?_
  refine w_f rfl ?_
  refine w_skip ?_
  refine q_n ?_
  refine w_seq ?_
  refine w_seq ?_
  refine w_reg rfl ?_
  refine v_assign (c := .v (.int .i64 0)) rfl ?_
  refine v_nil ?_
  refine q_n ?_
  refine w_block ?_
  refine w_loop (fun k sl H => ∃ i : Nat, k = a.wr.length - i ∧ i ≤ a.wr.length ∧ a.wr.take i = b.wr.take i ∧ sl = sls [(2, .c (.pt 0 0)), (3, .c (.pt 1 0)), (5, cI i)] ∧ H = [⟨bds false a, 64, true⟩, ⟨bds false b, 64, true⟩]) ?_ ?_
  · refine ⟨_, _, _, ?_, 0, rfl, Nat.zero_le _, rfl, rfl, rfl⟩
    exact turn [some 0, some 1] rfl rfl rfl ⟨⟨_, rfl, .cons tr_sl (.cons tr_sl (.cons tr_sl (.cons tr_sl (.cons tr_sl .nil))))⟩, ⟨_, rfl, .cons tr_sl (.cons tr_sl (.cons tr_sl (.cons tr_sl (.cons tr_sl .nil))))⟩, trivial⟩ ⟨tr_pt rfl, tr_pt rfl, tr_v, trivial⟩
  rintro k sl H ⟨i, rfl, hi, hp, rfl, rfl⟩
  refine w_seq ?_
  refine w_seq ?_
  refine w_reg rfl ?_
  refine v_move rfl ?_
  refine v_fa_pt (off' := 4) lay64 rfl rfl rfl ?_
  refine v_load_pt (.c _) lay62 rfl rfl rfl rfl ?_
  refine v_len_sl lay62 rfl ?_
  refine v_lss lay3 rfl rfl (fun h6 => ?_) (fun h6 => ?_)
  rotate_left
  · refine v_nil ?_
    refine q_n ?_
    refine w_f rfl ?_
    refine w_exit ?_
    refine q_e ?_
    refine q_e ?_
    refine q_hit ?_
    refine q_n ?_
    refine w_seq ?_
    refine w_reg rfl ?_
    refine v_assign (c := .v (.bool true)) rfl ?_
    refine v_nil ?_
    refine q_n ?_
    refine w_ret ?_
    refine r_r rfl ?_
    exact a_b (by simp only [true_iff]; rw [bd_ext]; refine ⟨?_, ?_, ?_, ?_, take_all_eq hp (by omega) (by omega)⟩ <;> assumption)
  have i1 : i < a.wr.length := by omega
  have i2 : i < b.wr.length := by omega
  refine v_nil ?_
  refine q_n ?_
  refine w_t rfl ?_
  refine w_skip ?_
  refine q_n ?_
  refine w_seq ?_
  refine w_block ?_
  refine w_seq ?_
  refine w_draw [0, 1, 0, 7, 15, 0, 32, 0, 224, 480, 1023] [⟨0, 0, []⟩, ⟨1, 0, []⟩, ⟨2, 0, []⟩, ⟨3, 0, []⟩, ⟨4, 0, []⟩, ⟨5, 0, []⟩, ⟨6, 0, []⟩, ⟨7, 0, []⟩, ⟨8, 0, []⟩, ⟨9, 0, []⟩, ⟨10, 0, []⟩] rfl rfl ?_
  refine d_q rfl rfl rfl rfl rfl ?_
  refine v_fa_pt (off' := 4) lay64 rfl rfl rfl ?_
  refine v_nil ?_
  refine d_q rfl rfl rfl rfl rfl ?_
  refine v_load_pt (.c _) lay62 rfl rfl rfl rfl ?_
  refine v_nil ?_
  refine d_q rfl rfl rfl rfl rfl ?_
  refine v_move rfl ?_
  refine v_nil ?_
  refine d_q rfl rfl rfl rfl rfl ?_
  refine v_idx_e (k := 4) (i) nce_len lay62 lay101 rfl rfl rfl (rfl) rfl (rfl) (by omega) ?_
  refine v_nil ?_
  refine d_q rfl rfl rfl rfl rfl ?_
  refine v_load_vw (.agg [.v _, .v _, .v _, .v _]) lay101 rfl rfl rfl ?_
  refine v_nil ?_
  refine d_q rfl rfl rfl rfl rfl ?_
  refine v_fa_pt (off' := 4) lay64 rfl rfl rfl ?_
  refine v_nil ?_
  refine d_q rfl rfl rfl rfl rfl ?_
  refine v_load_pt (.c _) lay62 rfl rfl rfl rfl ?_
  refine v_nil ?_
  refine d_q rfl rfl rfl rfl rfl ?_
  refine v_move rfl ?_
  refine v_nil ?_
  refine d_q rfl rfl rfl rfl rfl ?_
  refine v_idx_e (k := 4) (i) nce_len lay62 lay101 rfl rfl rfl (rfl) rfl (rfl) (by omega) ?_
  refine v_nil ?_
  refine d_q rfl rfl rfl rfl rfl ?_
  refine v_load_vw (.agg [.v _, .v _, .v _, .v _]) lay101 rfl rfl rfl ?_
  refine v_nil ?_
  refine d_rawb (rq101 (a := a.wr[i]) (b := b.wr[i]) rfl rfl) rfl rfl rfl rfl rfl (fun h9 => ?_) (fun h9 => ?_)
  · have hne := h9
    refine d_nil ?_
    refine q_n ?_
    refine w_t rfl ?_
    refine w_seq ?_
    refine w_reg rfl ?_
    refine v_assign (c := .v (.bool false)) rfl ?_
    refine v_nil ?_
    refine q_n ?_
    refine w_ret (q_br (q_r (q_r (q_br (q_r ?_)))))
    refine r_r rfl ?_
    exact a_b (by simp only [Bool.false_eq_true, false_iff]; rintro rfl; contradiction)
  have hne := h9
  refine d_nil ?_
  refine q_n ?_
  refine w_f rfl ?_
  refine w_skip ?_
  refine q_bn ?_
  refine q_n ?_
  refine w_reg rfl ?_
  refine v_move rfl ?_
  refine v_add lay3 rfl rfl (i64r (by omega)) ?_
  refine v_assign rfl ?_
  refine v_nil ?_
  refine q_n ?_
  refine ⟨_, _, _, ?_, ⟨i + 1, rfl, by omega, take_step_eq hp (by omega) (by omega) (Decidable.of_not_not hne), rfl, rfl⟩, by omega⟩
  exact turn [some 0, some 1] rfl rfl rfl ⟨⟨_, rfl, .cons tr_sl (.cons tr_sl (.cons tr_sl (.cons tr_sl (.cons tr_sl .nil))))⟩, ⟨_, rfl, .cons tr_sl (.cons tr_sl (.cons tr_sl (.cons tr_sl (.cons tr_sl .nil))))⟩, trivial⟩ ⟨tr_pt rfl, tr_pt rfl, tr_v, trivial⟩
end Go.VL
namespace Go.VL
open Go.RowKit
set_option maxRecDepth 20000
set_option maxHeartbeats 8000000
theorem c11 (code more : List Int) (hc : ∀ b ∈ code, 0 ≤ b ∧ b ≤ 255) (hm : ∀ b ∈ more, 0 ≤ b ∧ b ≤ 255) : PureC X 11 [.c (.sl false code.length 1 (flat byt code)), .c (.sl false more.length 1 (flat byt more))] (cB true) := by
  refine PureC.of_body (drawD_ok X) (fun _ _ => Go.Proofs.Try.call11 _ _) Go.Proofs.Try.func11 rfl (n := 296) rfl ?_
  refine w_seq ?_
  refine w_reg rfl ?_
  refine v_assign (c := .v (.bool false)) rfl ?_
  refine v_nil ?_
  refine q_n ?_
  refine w_seq ?_
  refine w_seq ?_
  refine w_reg rfl ?_
  refine v_move rfl ?_
  refine v_move rfl ?_
  refine v_callb (c45 _ _) rfl rfl (.cons vw_sl (.cons vw_sl .nil)) (fun h1 => ?_) (fun h1 => ?_)
  · refine v_nil ?_
    refine q_n ?_
    refine w_t rfl ?_
    refine w_seq ?_
    refine w_reg rfl ?_
    refine v_assign (c := .v (.bool true)) rfl ?_
    refine v_nil ?_
    refine q_n ?_
    refine w_ret (q_r ?_)
    refine r_r rfl ?_
    exact tr_v
  have hcl : code.length ≤ 3000 := by omega
  have hml : more.length ≤ 3000 := by omega
  refine v_nil ?_
  refine q_n ?_
  refine w_f rfl ?_
  refine w_skip ?_
  refine q_n ?_
  refine w_seq ?_
  refine w_reg rfl ?_
  refine v_move rfl ?_
  refine v_callE (c46 code hc hcl) (fun r ⟨p, fs, _, h⟩ => by rw [h]; rfl) rfl rfl (.cons vw_sl .nil) ?_
  rintro _ ⟨p, fs, hco, rfl⟩
  have hx : fs.length ≤ 6 := hco.2.2.2.1
  refine v_alloc (m := 0) (H' := [⟨[.v _, .v _], 33, true⟩]) lay33 rfl rfl ?_
  refine v_store (H' := [⟨[_, _], 33, true⟩]) lay33 rfl rfl rfl rfl rfl rfl ?_
  refine v_nil ?_
  refine q_n ?_
  refine w_seq ?_
  refine w_reg rfl ?_
  refine v_move rfl ?_
  refine v_load_pt (.agg [_, _]) lay33 rfl rfl rfl rfl ?_
  refine v_callE (c47 more p fs hm hml hco) (fun r ⟨ds, _, _, h⟩ => by rw [h]; rfl) rfl rfl (.cons vw_sl (.cons (vw_agg (.cons vw_v (.cons vw_sl .nil))) .nil)) ?_
  rintro _ ⟨ds, hds, hdl, rfl⟩
  obtain ⟨hg, hok, hin, hB, hb2, hf2, hl2, hag, hfl, hz, hE⟩ := bo_fin hco hds hdl
  have n1 := hok.nw
  have n2 := hok.ps
  have n3 := hok.sv
  have n4 := hok.kn
  have n5 := hok.wr
  have hll := late_len (p := p) (fs := fs) (ds := ds)
  refine v_assign rfl ?_
  refine v_nil ?_
  refine q_n ?_
  refine w_seq ?_
  refine w_reg rfl ?_
  refine v_load_pt (.agg [_, _]) lay33 rfl rfl rfl rfl ?_
  refine v_move rfl ?_
  refine v_call (c41 p fs ds (by omega) (by omega)) rfl rfl rfl (.cons (vw_agg (.cons vw_v (.cons vw_sl .nil))) (.cons vw_sl .nil)) ?_
  refine v_move_t rfl ?_
  refine v_extract_a rfl rfl ?_
  refine v_extract_c rfl rfl ?_
  refine v_extract_c rfl rfl ?_
  refine v_alloc (m := 1) (H' := [_, ⟨[.v _, .v _, .v _, .v _, .v _], 64, true⟩]) lay64 rfl rfl ?_
  refine v_store (H' := [_, ⟨[_, _, _, _, _], 64, true⟩]) lay64 rfl rfl rfl rfl rfl rfl ?_
  refine v_assign rfl ?_
  refine v_assign rfl ?_
  refine v_nil ?_
  refine q_n ?_
  refine w_seq ?_
  refine w_reg rfl ?_
  refine v_load_pt (.agg [_, _]) lay33 rfl rfl rfl rfl ?_
  refine v_move rfl ?_
  refine v_call (c40 p fs ds (by omega) (by omega)) rfl rfl rfl (.cons (vw_agg (.cons vw_v (.cons vw_sl .nil))) (.cons vw_sl .nil)) ?_
  refine v_move_t rfl ?_
  refine v_extract_a rfl rfl ?_
  refine v_extract_c rfl rfl ?_
  refine v_extract_c rfl rfl ?_
  refine v_alloc (m := 2) (H' := [_, _, ⟨[.v _, .v _, .v _, .v _, .v _], 64, true⟩]) lay64 rfl rfl ?_
  refine v_store (H' := [_, _, ⟨[_, _, _, _, _], 64, true⟩]) lay64 rfl rfl rfl rfl rfl rfl ?_
  refine v_assign rfl ?_
  refine v_assign rfl ?_
  refine v_nil ?_
  refine q_n ?_
  refine w_seq ?_
  refine w_reg rfl ?_
  refine v_load_pt (.agg [_, _]) lay33 rfl rfl rfl rfl ?_
  refine v_move rfl ?_
  refine v_call (c38 p fs ds (by omega) (by omega)) rfl rfl rfl (.cons (vw_agg (.cons vw_v (.cons vw_sl .nil))) (.cons vw_sl .nil)) ?_
  refine v_move_t rfl ?_
  refine v_extract_c rfl rfl ?_
  refine v_extract_c rfl rfl ?_
  refine v_assign rfl ?_
  refine v_assign rfl ?_
  refine v_nil ?_
  refine q_n ?_
  refine w_seq ?_
  refine w_reg rfl ?_
  refine v_load_pt (.agg [_, _]) lay33 rfl rfl rfl rfl ?_
  refine v_move rfl ?_
  refine v_call (c31 p fs ds (by omega) (by omega)) rfl rfl rfl (.cons (vw_agg (.cons vw_v (.cons vw_sl .nil))) (.cons vw_sl .nil)) ?_
  refine v_move_t rfl ?_
  refine v_extract_c rfl rfl ?_
  refine v_extract_c rfl rfl ?_
  refine v_assign rfl ?_
  refine v_assign rfl ?_
  refine v_nil ?_
  refine q_n ?_
  refine w_seq ?_
  refine w_reg rfl ?_
  refine v_load_pt (.agg [_, _]) lay33 rfl rfl rfl rfl ?_
  refine v_move rfl ?_
  refine v_call (c30 p fs ds (by omega) (by omega)) rfl rfl rfl (.cons (vw_agg (.cons vw_v (.cons vw_sl .nil))) (.cons vw_sl .nil)) ?_
  refine v_move_t rfl ?_
  refine v_extract_c rfl rfl ?_
  refine v_extract_c rfl rfl ?_
  refine v_assign rfl ?_
  refine v_assign rfl ?_
  refine v_nil ?_
  refine q_n ?_
  refine w_seq ?_
  refine w_reg rfl ?_
  refine v_load_pt (.agg [_, _]) lay33 rfl rfl rfl rfl ?_
  refine v_move rfl ?_
  refine v_call (c29 p fs ds (by omega) (by omega)) rfl rfl rfl (.cons (vw_agg (.cons vw_v (.cons vw_sl .nil))) (.cons vw_sl .nil)) ?_
  refine v_move_t rfl ?_
  refine v_extract_c rfl rfl ?_
  refine v_extract_c rfl rfl ?_
  refine v_assign rfl ?_
  refine v_assign rfl ?_
  refine v_nil ?_
  refine q_n ?_
  refine w_seq ?_
  refine w_seq ?_
  refine w_reg rfl ?_
  refine v_move rfl ?_
  refine v_move rfl ?_
  refine v_neq lay2 rfl rfl (fun h2 => ?_) (fun h2 => ?_)
  · exfalso; first | exact h2 rfl | exact h2 hb2 | exact h2 hf2 | exact h2 (by rw [hag]) | exact h2 (by simp)
  refine v_move rfl ?_
  refine v_guard_on rfl rfl ?_
  refine v_move rfl ?_
  refine v_guard_on rfl rfl ?_
  refine v_neq lay2 rfl rfl (fun h3 => ?_) (fun h3 => ?_)
  · exfalso; first | exact h3 rfl | exact h3 hb2 | exact h3 hf2 | exact h3 (by rw [hag]) | exact h3 (by simp)
  refine v_pick_f rfl rfl ?_
  refine v_move rfl ?_
  refine v_guard_on rfl rfl ?_
  refine v_load_pt (.agg [_, _, _, _, _]) lay64 rfl rfl rfl rfl ?_
  refine v_guard_on rfl rfl ?_
  refine v_load_pt (.agg [_, _, _, _, _]) lay64 rfl rfl rfl rfl ?_
  refine v_guard_on rfl rfl ?_
  refine v_callb (c48 (boR p fs ds).1 (boR p fs ds).1 (by omega) (by omega) (by omega) (by omega) (by omega)) rfl rfl (.cons (vw_agg (.cons vw_sl (.cons vw_sl (.cons vw_sl (.cons vw_sl (.cons vw_sl .nil)))))) (.cons (vw_agg (.cons vw_sl (.cons vw_sl (.cons vw_sl (.cons vw_sl (.cons vw_sl .nil)))))) .nil)) (fun h4 => ?_) (fun h4 => ?_)
  rotate_left
  · exfalso; first | exact h4 rfl | exact h4 hco
  refine v_guard_on rfl rfl ?_
  refine v_not false rfl rfl ?_
  refine v_pick_f rfl rfl ?_
  refine v_move rfl ?_
  refine v_guard_on rfl rfl ?_
  refine v_move rfl ?_
  refine v_guard_on rfl rfl ?_
  refine v_neq lay2 rfl rfl (fun h5 => ?_) (fun h5 => ?_)
  · exfalso; first | exact h5 rfl | exact h5 hb2 | exact h5 hf2 | exact h5 (by rw [hag]) | exact h5 (by simp)
  refine v_pick_f rfl rfl ?_
  refine v_move rfl ?_
  refine v_guard_on rfl rfl ?_
  refine v_move rfl ?_
  refine v_guard_on rfl rfl ?_
  refine v_move rfl ?_
  refine v_guard_on rfl rfl ?_
  refine v_neq lay2 rfl rfl (fun h6 => ?_) (fun h6 => ?_)
  · exfalso; first | exact h6 rfl | exact h6 hb2 | exact h6 hf2 | exact h6 (by rw [hag]) | exact h6 (by simp)
  refine v_pick_f rfl rfl ?_
  refine v_move rfl ?_
  refine v_guard_on rfl rfl ?_
  refine v_move rfl ?_
  refine v_guard_on rfl rfl ?_
  refine v_move rfl ?_
  refine v_guard_on rfl rfl ?_
  refine v_callb (c49 _ _ (by omega)) rfl rfl (.cons vw_sl (.cons vw_sl .nil)) (fun h7 => ?_) (fun h7 => ?_)
  rotate_left
  · exfalso; first | exact h7 rfl | exact h7 hco
  refine v_guard_on rfl rfl ?_
  refine v_not false rfl rfl ?_
  refine v_pick_f rfl rfl ?_
  refine v_move rfl ?_
  refine v_guard_on rfl rfl ?_
  refine v_move rfl ?_
  refine v_guard_on rfl rfl ?_
  refine v_neq lay2 rfl rfl (fun h8 => ?_) (fun h8 => ?_)
  · exfalso; first | exact h8 rfl | exact h8 hb2 | exact h8 hf2 | exact h8 (by rw [hag]) | exact h8 (by simp)
  refine v_pick_f rfl rfl ?_
  refine v_move rfl ?_
  refine v_guard_on rfl rfl ?_
  refine v_move rfl ?_
  refine v_guard_on rfl rfl ?_
  refine v_fa_pt (off' := 1) lay64 rfl rfl rfl ?_
  refine v_guard_on rfl rfl ?_
  refine v_load_pt (.c _) lay61 rfl rfl rfl rfl ?_
  refine v_guard_on rfl rfl ?_
  refine v_fa_pt (off' := 0) lay64 rfl rfl rfl ?_
  refine v_guard_on rfl rfl ?_
  refine v_load_pt (.c _) lay61 rfl rfl rfl rfl ?_
  refine v_guard_on rfl rfl ?_
  refine v_call (c50 (boR p fs ds).1.ps (boR p fs ds).1.nw (by omega)) rfl rfl rfl (.cons vw_sl (.cons vw_sl .nil)) ?_
  refine v_guard_on rfl rfl ?_
  refine v_binb lay4 rfl rfl rfl (fun h9 => ?_) (fun h9 => ?_)
  · exfalso; revert h9; rw [hag]; simp
  refine v_pick_f rfl rfl ?_
  refine v_move rfl ?_
  refine v_guard_on rfl rfl ?_
  refine v_load_pt (.agg [_, _]) lay33 rfl rfl rfl rfl ?_
  refine v_guard_on rfl rfl ?_
  refine v_callb (c18 p fs (by omega)) rfl rfl (.cons (vw_agg (.cons vw_v (.cons vw_sl .nil))) .nil) (fun h10 => ?_) (fun h10 => ?_)
  rotate_left
  · exfalso; first | exact h10 rfl | exact h10 hco
  refine v_guard_on rfl rfl ?_
  refine v_not false rfl rfl ?_
  refine v_pick_f rfl rfl ?_
  refine v_nil ?_
  refine q_n ?_
  refine w_f rfl ?_
  refine w_skip ?_
  refine q_n ?_
  refine w_seq ?_
  refine w_seq ?_
  refine w_reg rfl ?_
  refine v_assign (c := .v (.int .i64 0)) rfl ?_
  refine v_nil ?_
  refine q_n ?_
  refine w_block ?_
  refine w_loop (fun k sl H => ∃ i : Nat, k = fs.length - i ∧ i ≤ fs.length ∧ sl = sls [(5, .c (.pt 0 0)), (6, .c (dcs true ds)), (8, cI (boR p fs ds).2.1), (10, .c (.pt 2 0)), (13, .c (dcs true (finR p fs ds).1)), (21, cI i)] ∧ H = [⟨cen true p fs, 33, true⟩, ⟨bds true (boR p fs ds).1, 64, true⟩, ⟨bds true (boR p fs ds).1, 64, true⟩]) ?_ ?_
  · refine ⟨_, _, _, ?_, 0, rfl, Nat.zero_le _, rfl, rfl⟩
    exact turn [some 0, some 1, some 2] rfl rfl rfl ⟨⟨_, rfl, .cons tr_v (.cons tr_sl .nil)⟩, ⟨_, rfl, .cons tr_sl (.cons tr_sl (.cons tr_sl (.cons tr_sl (.cons tr_sl .nil))))⟩, ⟨_, rfl, .cons tr_sl (.cons tr_sl (.cons tr_sl (.cons tr_sl (.cons tr_sl .nil))))⟩, trivial⟩ ⟨tr_pt rfl, tr_sl, tr_v, tr_pt rfl, tr_sl, tr_v, trivial⟩
  rintro k sl H ⟨i, rfl, hi, rfl, rfl⟩
  refine w_seq ?_
  refine w_seq ?_
  refine w_reg rfl ?_
  refine v_move rfl ?_
  refine v_fa_pt (off' := 1) lay33 rfl rfl rfl ?_
  refine v_load_pt (.c _) lay28 rfl rfl rfl rfl ?_
  refine v_len_sl lay28 rfl ?_
  refine v_lss lay3 rfl rfl (fun h11 => ?_) (fun h11 => ?_)
  rotate_left
  · refine v_nil ?_
    refine q_n ?_
    refine w_f rfl ?_
    refine w_exit ?_
    refine q_e ?_
    refine q_e ?_
    refine q_hit ?_
    refine q_n ?_
    refine w_seq ?_
    refine w_reg rfl ?_
    refine v_lit (flat dce []) (H' := [_, _, _, _]) lay41 lay25 rfl rfl ⟨by decide, by decide⟩ rfl rfl ?_
    refine v_move rfl ?_
    refine v_app_flat_sl (H' := [_, _, _, _, _]) dce_sc dce_len lay41 lay25 rfl rfl (by first | rfl | (simp; done)) rfl rfl rfl (by unfold maxLen; simp only []; omega) rfl rfl ?_
    refine v_move rfl ?_
    refine v_app_flat_sl (H' := [_, _, _, _, _, _]) dce_sc dce_len lay41 lay25 rfl rfl (by first | rfl | (simp; done)) rfl rfl rfl (by unfold maxLen; simp only []; omega) rfl rfl ?_
    refine v_assign rfl ?_
    refine v_nil ?_
    refine q_n ?_
    refine w_seq ?_
    refine w_reg rfl ?_
    refine v_load_pt (.agg [_, _]) lay33 rfl rfl rfl rfl ?_
    refine v_move rfl ?_
    refine v_call (c41E hE (by simp) (by omega) (by simp; omega)) rfl rfl rfl (.cons (vw_agg (.cons vw_v (.cons vw_sl .nil))) (.cons (vw_mu2 dce_sc dce_len rfl (by first | rfl | (simp; done))) .nil)) ?_
    refine v_move_t rfl ?_
    refine v_extract_a rfl rfl ?_
    refine v_extract_c rfl rfl ?_
    refine v_extract_c rfl rfl ?_
    refine v_alloc (m := 6) (H' := [_, _, _, _, _, _, ⟨[.v _, .v _, .v _, .v _, .v _], 64, true⟩]) lay64 rfl rfl ?_
    refine v_store (H' := [_, _, _, _, _, _, ⟨[_, _, _, _, _], 64, true⟩]) lay64 rfl rfl rfl rfl rfl rfl ?_
    refine v_assign rfl ?_
    refine v_assign rfl ?_
    refine v_nil ?_
    refine q_n ?_
    refine w_seq ?_
    refine w_seq ?_
    refine w_reg rfl ?_
    refine v_move rfl ?_
    refine v_neq lay2 rfl rfl (fun h33 => ?_) (fun h33 => ?_)
    · exfalso; first | exact h33 rfl | exact h33 hb2 | exact h33 hf2 | exact h33 (by rw [hag]) | exact h33 (by simp)
    refine v_move rfl ?_
    refine v_guard_on rfl rfl ?_
    refine v_move rfl ?_
    refine v_guard_on rfl rfl ?_
    refine v_move rfl ?_
    refine v_guard_on rfl rfl ?_
    refine v_move rfl ?_
    refine v_guard_on rfl rfl ?_
    refine v_len_sl lay41 rfl ?_
    refine v_guard_on rfl rfl ?_
    refine v_add lay2 rfl rfl (i64r (by omega)) ?_
    refine v_guard_on rfl rfl ?_
    refine v_neq lay2 rfl rfl (fun h34 => ?_) (fun h34 => ?_)
    · exfalso; first | exact h34 rfl | exact h34 hb2 | exact h34 hf2 | exact h34 (by rw [hag]) | exact h34 (by simp)
    refine v_pick_f rfl rfl ?_
    refine v_move rfl ?_
    refine v_guard_on rfl rfl ?_
    refine v_fa_pt (off' := 4) lay64 rfl rfl rfl ?_
    refine v_guard_on rfl rfl ?_
    refine v_load_pt (.c _) lay62 rfl rfl rfl rfl ?_
    refine v_guard_on rfl rfl ?_
    refine v_len_sl lay62 rfl ?_
    refine v_guard_on rfl rfl ?_
    refine v_neq lay3 rfl rfl (fun h35 => ?_) (fun h35 => ?_)
    · exfalso; first | exact h35 rfl | exact h35 hb2 | exact h35 hf2 | exact h35 (by rw [hag]) | exact h35 (by simp)
    refine v_pick_f rfl rfl ?_
    refine v_move rfl ?_
    refine v_guard_on rfl rfl ?_
    refine v_fa_pt (off' := 0) lay64 rfl rfl rfl ?_
    refine v_guard_on rfl rfl ?_
    refine v_load_pt (.c _) lay61 rfl rfl rfl rfl ?_
    refine v_guard_on rfl rfl ?_
    refine v_fa_pt (off' := 0) lay64 rfl rfl rfl ?_
    refine v_guard_on rfl rfl ?_
    refine v_load_pt (.c _) lay61 rfl rfl rfl rfl ?_
    refine v_guard_on rfl rfl ?_
    refine v_callb (c50 (boR p fs ds).1.nw (boR p fs ds).1.nw (by omega)) rfl rfl (.cons vw_sl (.cons vw_sl .nil)) (fun h36 => ?_) (fun h36 => ?_)
    rotate_left
    · exfalso; first | exact h36 rfl | exact h36 hco
    refine v_guard_on rfl rfl ?_
    refine v_not false rfl rfl ?_
    refine v_pick_f rfl rfl ?_
    refine v_move rfl ?_
    refine v_guard_on rfl rfl ?_
    refine v_fa_pt (off' := 1) lay64 rfl rfl rfl ?_
    refine v_guard_on rfl rfl ?_
    refine v_load_pt (.c _) lay61 rfl rfl rfl rfl ?_
    refine v_guard_on rfl rfl ?_
    refine v_fa_pt (off' := 0) lay64 rfl rfl rfl ?_
    refine v_guard_on rfl rfl ?_
    refine v_load_pt (.c _) lay61 rfl rfl rfl rfl ?_
    refine v_guard_on rfl rfl ?_
    refine v_callb (c50 (boR p fs ds).1.nw (boR p fs ds).1.nw (by omega)) rfl rfl (.cons vw_sl (.cons vw_sl .nil)) (fun h37 => ?_) (fun h37 => ?_)
    rotate_left
    · exfalso; first | exact h37 rfl | exact h37 hco
    refine v_guard_on rfl rfl ?_
    refine v_not false rfl rfl ?_
    refine v_pick_f rfl rfl ?_
    refine v_move rfl ?_
    refine v_guard_on rfl rfl ?_
    refine v_fa_pt (off' := 2) lay64 rfl rfl rfl ?_
    refine v_guard_on rfl rfl ?_
    refine v_load_pt (.c _) lay61 rfl rfl rfl rfl ?_
    refine v_guard_on rfl rfl ?_
    refine v_fa_pt (off' := 0) lay64 rfl rfl rfl ?_
    refine v_guard_on rfl rfl ?_
    refine v_load_pt (.c _) lay61 rfl rfl rfl rfl ?_
    refine v_guard_on rfl rfl ?_
    refine v_callb (c50 (boR p fs ds).1.nw (boR p fs ds).1.nw (by omega)) rfl rfl (.cons vw_sl (.cons vw_sl .nil)) (fun h38 => ?_) (fun h38 => ?_)
    rotate_left
    · exfalso; first | exact h38 rfl | exact h38 hco
    refine v_guard_on rfl rfl ?_
    refine v_not false rfl rfl ?_
    refine v_pick_f rfl rfl ?_
    refine v_move rfl ?_
    refine v_guard_on rfl rfl ?_
    refine v_fa_pt (off' := 3) lay64 rfl rfl rfl ?_
    refine v_guard_on rfl rfl ?_
    refine v_load_pt (.c _) lay28 rfl rfl rfl rfl ?_
    refine v_guard_on rfl rfl ?_
    refine v_len_sl lay28 rfl ?_
    refine v_guard_on rfl rfl ?_
    refine v_fa_pt (off' := 0) lay64 rfl rfl rfl ?_
    refine v_guard_on rfl rfl ?_
    refine v_load_pt (.c _) lay61 rfl rfl rfl rfl ?_
    refine v_guard_on rfl rfl ?_
    refine v_len_sl lay61 rfl ?_
    refine v_guard_on rfl rfl ?_
    refine v_neq lay3 rfl rfl (fun h39 => ?_) (fun h39 => ?_)
    · exfalso; first | exact h39 rfl | exact h39 hb2 | exact h39 hf2 | exact h39 (by rw [hag]) | exact h39 (by simp)
    refine v_pick_f rfl rfl ?_
    refine v_nil ?_
    refine q_n ?_
    refine w_f rfl ?_
    refine w_skip ?_
    refine q_n ?_
    refine w_seq ?_
    refine w_seq ?_
    refine w_reg rfl ?_
    refine v_assign (c := .v (.int .i64 0)) rfl ?_
    refine v_nil ?_
    refine q_n ?_
    refine w_block ?_
    refine w_loop (fun k sl H => ∃ i : Nat, k = (boR p fs ds).1.nw.length - i ∧ i ≤ (boR p fs ds).1.nw.length ∧ sl = sls [(10, .c (.pt 0 0)), (25, .c (.pt 1 0)), (28, cI i)] ∧ H = [⟨bds true (boR p fs ds).1, 64, true⟩, ⟨bds true (⟨(boR p fs ds).1.nw, (boR p fs ds).1.nw, (boR p fs ds).1.nw, (boR p fs ds).1.nw.map (fun x => x.2), []⟩ : Bd), 64, true⟩]) ?_ ?_
    · refine ⟨_, _, _, ?_, 0, rfl, Nat.zero_le _, rfl, rfl⟩
      exact turn [some 2, some 6] rfl rfl rfl ⟨⟨_, rfl, .cons tr_sl (.cons tr_sl (.cons tr_sl (.cons tr_sl (.cons tr_sl .nil))))⟩, ⟨_, rfl, .cons tr_sl (.cons tr_sl (.cons tr_sl (.cons tr_sl (.cons tr_sl .nil))))⟩, trivial⟩ ⟨tr_pt rfl, tr_pt rfl, tr_v, trivial⟩
    rintro k sl H ⟨i, rfl, hi, rfl, rfl⟩
    refine w_seq ?_
    refine w_seq ?_
    refine w_reg rfl ?_
    refine v_move rfl ?_
    refine v_fa_pt (off' := 0) lay64 rfl rfl rfl ?_
    refine v_load_pt (.c _) lay61 rfl rfl rfl rfl ?_
    refine v_len_sl lay61 rfl ?_
    refine v_lss lay3 rfl rfl (fun h40 => ?_) (fun h40 => ?_)
    rotate_left
    · refine v_nil ?_
      refine q_n ?_
      refine w_f rfl ?_
      refine w_exit ?_
      refine q_e ?_
      refine q_e ?_
      refine q_hit ?_
      refine q_n ?_
      refine w_seq ?_
      refine w_reg rfl ?_
      refine v_assign (c := .v (.bool true)) rfl ?_
      refine v_nil ?_
      refine q_n ?_
      refine w_ret ?_
      refine r_r rfl ?_
      exact tr_v
    refine v_nil ?_
    refine q_n ?_
    refine w_t rfl ?_
    refine w_skip ?_
    refine q_n ?_
    refine w_seq ?_
    refine w_block ?_
    refine w_seq ?_
    refine w_draw [0, 1, 0, 7, 15, 0, 32, 0, 224, 480, 992, 2047] [⟨0, 0, []⟩, ⟨1, 0, []⟩, ⟨2, 0, []⟩, ⟨3, 0, []⟩, ⟨4, 0, []⟩, ⟨5, 0, []⟩, ⟨6, 0, []⟩, ⟨7, 0, []⟩, ⟨8, 0, []⟩, ⟨9, 0, []⟩, ⟨10, 0, []⟩, ⟨11, 0, []⟩] rfl rfl ?_
    refine d_q rfl rfl rfl rfl rfl ?_
    refine v_fa_pt (off' := 3) lay64 rfl rfl rfl ?_
    refine v_nil ?_
    refine d_q rfl rfl rfl rfl rfl ?_
    refine v_load_pt (.c _) lay28 rfl rfl rfl rfl ?_
    refine v_nil ?_
    refine d_q rfl rfl rfl rfl rfl ?_
    refine v_move rfl ?_
    refine v_nil ?_
    refine d_q rfl rfl rfl rfl rfl ?_
    refine v_idx_e (k := 1) (i) int_len lay28 lay2 rfl rfl rfl (rfl) rfl (rfl) (by simp; omega) ?_
    refine v_nil ?_
    refine d_q rfl rfl rfl rfl rfl ?_
    refine v_load_vw (.c (.v _)) lay2 rfl rfl rfl ?_
    refine v_nil ?_
    refine d_q rfl rfl rfl rfl rfl ?_
    refine v_fa_pt (off' := 0) lay64 rfl rfl rfl ?_
    refine v_nil ?_
    refine d_q rfl rfl rfl rfl rfl ?_
    refine v_load_pt (.c _) lay61 rfl rfl rfl rfl ?_
    refine v_nil ?_
    refine d_q rfl rfl rfl rfl rfl ?_
    refine v_move rfl ?_
    refine v_nil ?_
    refine d_q rfl rfl rfl rfl rfl ?_
    refine v_idx_e (k := 2) (i) pe_len lay61 lay46 rfl rfl rfl (rfl) rfl (rfl) (by omega) ?_
    refine v_nil ?_
    refine d_q rfl rfl rfl rfl rfl ?_
    refine v_fa_vw (off' := 1) lay46 rfl rfl rfl ?_
    refine v_nil ?_
    refine d_q rfl rfl rfl rfl rfl ?_
    refine v_load_vw (.c (.v _)) lay2 rfl rfl rfl ?_
    refine v_nil ?_
    refine d_q rfl rfl rfl rfl rfl ?_
    refine v_neq lay2 rfl rfl (fun h43 => ?_) (fun h43 => ?_)
    · exact absurd (List.getElem_map _) h43
    refine v_nil ?_
    refine d_nil ?_
    refine q_n ?_
    refine w_f rfl ?_
    refine w_skip ?_
    refine q_bn ?_
    refine q_n ?_
    refine w_reg rfl ?_
    refine v_move rfl ?_
    refine v_add lay3 rfl rfl (i64r (by omega)) ?_
    refine v_assign rfl ?_
    refine v_nil ?_
    refine q_n ?_
    refine ⟨_, _, _, ?_, ⟨i + 1, rfl, by omega, rfl, rfl⟩, by omega⟩
    exact turn [some 0, some 1] rfl rfl rfl ⟨⟨_, rfl, .cons tr_sl (.cons tr_sl (.cons tr_sl (.cons tr_sl (.cons tr_sl .nil))))⟩, ⟨_, rfl, .cons tr_sl (.cons tr_sl (.cons tr_sl (.cons tr_sl (.cons tr_sl .nil))))⟩, trivial⟩ ⟨tr_pt rfl, tr_pt rfl, tr_v, trivial⟩
  have iN : i < (boR p fs ds).1.nw.length := by omega
  have iP : i < (boR p fs ds).1.ps.length := by omega
  have iS : i < (boR p fs ds).1.sv.length := by omega
  have iK : i < (boR p fs ds).1.kn.length := by omega
  have hpi : Pv ((boR p fs ds).1.ps[i]) ((boR p fs ds).1.nw[i]) := by have h9 := hin.ps i; rwa [gD iP, gD iN] at h9
  obtain ⟨hp1, hp2⟩ := hpi
  have hsi := (hin.sv i).1
  rw [gD iS, gD iN] at hsi
  have hki := hin.kn i
  rw [gD iK, gD iN] at hki
  have hpo : postR p fs ds (i : Int) = (((boR p fs ds).1.ps[i].1, (boR p fs ds).1.ps[i].2), 0) := by
    have h9 := po_at (p := p) (fs := fs) (ds := ds) (q := (i : Int)) (n := i) (dc_in hg ⟨by omega, by omega⟩) rfl (by rw [← hB]; omega)
    simpa only [← hB] using h9
  refine v_nil ?_
  refine q_n ?_
  refine w_t rfl ?_
  refine w_skip ?_
  refine q_n ?_
  refine w_seq ?_
  refine w_block ?_
  refine w_seq ?_
  refine w_seq ?_
  refine w_draw [0, 1, 0, 7, 15, 31, 0, 64, 0, 448, 960, 1984, 4095, 8191, 16383, 32767, 16383, 131071, 262143, 16383, 540671, 16383, 3686399, 7880703, 16269311, 33554431, 67108863, 134217727, 268435455, 536870911, 268435455, 2147483647, 4294967295, 8589934591, 268435455, 17448304639, 268435455, 120527519743, 257966473215, 532844380159, 1099511627775, 2199023255551, 4398046511103, 8796093022207, 17592186044415, 8796093022207, 70368744177663, 140737488355327, 281474976710655, 8796093022207, 571746046443519, 8796093022207, 3949445766971391, 8453045394341887, 17460244649082879, 36028797018963967, 72057594037927935, 144115188075855871, 288230376151711743, 144115188075855871, 1152921504606846975, 2305843009213693951, 144115188075855871, 4755801206503243775, 144115188075855871, 32425917317067571199, 69319405464486674431, 147573952589676412927, 295147905179352825855, 590295810358705651711] [⟨0, 0, []⟩, ⟨1, 0, []⟩, ⟨2, 0, []⟩, ⟨3, 0, []⟩, ⟨4, 0, []⟩, ⟨5, 0, []⟩, ⟨6, 0, []⟩, ⟨7, 0, []⟩, ⟨8, 0, []⟩, ⟨9, 0, []⟩, ⟨10, 0, []⟩, ⟨11, 0, []⟩, ⟨12, 0, []⟩, ⟨13, 0, []⟩, ⟨14, 0, []⟩, ⟨15, 0, []⟩, ⟨16, 0, []⟩, ⟨17, 0, []⟩, ⟨18, 0, []⟩, ⟨19, 0, []⟩, ⟨20, 0, []⟩, ⟨21, 0, []⟩, ⟨22, 0, []⟩, ⟨23, 0, []⟩, ⟨24, 0, []⟩, ⟨25, 0, []⟩, ⟨26, 0, []⟩, ⟨27, 0, []⟩, ⟨28, 0, []⟩, ⟨29, 0, []⟩, ⟨30, 0, []⟩, ⟨31, 0, []⟩, ⟨32, 0, []⟩, ⟨33, 0, []⟩, ⟨34, 0, []⟩, ⟨35, 0, []⟩, ⟨36, 0, []⟩, ⟨37, 0, []⟩, ⟨38, 0, []⟩, ⟨39, 0, []⟩, ⟨40, 0, []⟩, ⟨41, 0, []⟩, ⟨42, 0, []⟩, ⟨43, 0, []⟩, ⟨44, 0, []⟩, ⟨45, 0, []⟩, ⟨46, 0, []⟩, ⟨47, 0, []⟩, ⟨48, 0, []⟩, ⟨49, 0, []⟩, ⟨50, 0, []⟩, ⟨51, 0, []⟩, ⟨52, 0, []⟩, ⟨53, 0, []⟩, ⟨54, 0, []⟩, ⟨55, 0, []⟩, ⟨56, 0, []⟩, ⟨57, 0, []⟩, ⟨58, 0, []⟩, ⟨59, 0, []⟩, ⟨60, 0, []⟩, ⟨61, 0, []⟩, ⟨62, 0, []⟩, ⟨63, 0, []⟩, ⟨64, 0, []⟩, ⟨65, 0, []⟩, ⟨66, 0, []⟩, ⟨67, 0, []⟩, ⟨68, 0, []⟩, ⟨69, 0, []⟩] rfl rfl ?_
  refine d_q rfl rfl rfl rfl rfl ?_
  refine v_fa_pt (off' := 1) lay64 rfl rfl rfl ?_
  refine v_nil ?_
  refine d_q rfl rfl rfl rfl rfl ?_
  refine v_load_pt (.c _) lay61 rfl rfl rfl rfl ?_
  refine v_nil ?_
  refine d_q rfl rfl rfl rfl rfl ?_
  refine v_move rfl ?_
  refine v_nil ?_
  refine d_q rfl rfl rfl rfl rfl ?_
  refine v_idx_e (k := 2) (i) pe_len lay61 lay46 rfl rfl rfl (rfl) rfl (rfl) (by omega) ?_
  refine v_nil ?_
  refine d_q rfl rfl rfl rfl rfl ?_
  refine v_fa_vw (off' := 1) lay46 rfl rfl rfl ?_
  refine v_nil ?_
  refine d_q rfl rfl rfl rfl rfl ?_
  refine v_load_vw (.c (.v _)) lay2 rfl rfl rfl ?_
  refine v_nil ?_
  refine d_q rfl rfl rfl rfl rfl ?_
  refine v_fa_pt (off' := 0) lay64 rfl rfl rfl ?_
  refine v_nil ?_
  refine d_q rfl rfl rfl rfl rfl ?_
  refine v_load_pt (.c _) lay61 rfl rfl rfl rfl ?_
  refine v_nil ?_
  refine d_q rfl rfl rfl rfl rfl ?_
  refine v_move rfl ?_
  refine v_nil ?_
  refine d_q rfl rfl rfl rfl rfl ?_
  refine v_idx_e (k := 2) (i) pe_len lay61 lay46 rfl rfl rfl (rfl) rfl (rfl) (by omega) ?_
  refine v_nil ?_
  refine d_q rfl rfl rfl rfl rfl ?_
  refine v_fa_vw (off' := 1) lay46 rfl rfl rfl ?_
  refine v_nil ?_
  refine d_q rfl rfl rfl rfl rfl ?_
  refine v_load_vw (.c (.v _)) lay2 rfl rfl rfl ?_
  refine v_nil ?_
  refine d_q rfl rfl rfl rfl rfl ?_
  refine v_gtr lay2 rfl rfl (fun h14 => ?_) (fun h14 => ?_)
  · exact absurd h14 (by omega)
  refine v_nil ?_
  refine d_q rfl rfl rfl rfl rfl ?_
  refine v_move rfl ?_
  refine v_nil ?_
  refine d_q rfl rfl rfl rfl rfl ?_
  refine v_fa_pt (off' := 3) lay64 rfl rfl rfl ?_
  refine v_nil ?_
  refine d_q rfl rfl rfl rfl rfl ?_
  refine v_load_pt (.c _) lay28 rfl rfl rfl rfl ?_
  refine v_nil ?_
  refine d_q rfl rfl rfl rfl rfl ?_
  refine v_move rfl ?_
  refine v_nil ?_
  refine d_q rfl rfl rfl rfl rfl ?_
  refine v_idx_e (k := 1) (i) int_len lay28 lay2 rfl rfl rfl (rfl) rfl (rfl) (by omega) ?_
  refine v_nil ?_
  refine d_q rfl rfl rfl rfl rfl ?_
  refine v_load_vw (.c (.v _)) lay2 rfl rfl rfl ?_
  refine v_nil ?_
  refine d_q rfl rfl rfl rfl rfl ?_
  refine v_fa_pt (off' := 0) lay64 rfl rfl rfl ?_
  refine v_nil ?_
  refine d_q rfl rfl rfl rfl rfl ?_
  refine v_load_pt (.c _) lay61 rfl rfl rfl rfl ?_
  refine v_nil ?_
  refine d_q rfl rfl rfl rfl rfl ?_
  refine v_move rfl ?_
  refine v_nil ?_
  refine d_q rfl rfl rfl rfl rfl ?_
  refine v_idx_e (k := 2) (i) pe_len lay61 lay46 rfl rfl rfl (rfl) rfl (rfl) (by omega) ?_
  refine v_nil ?_
  refine d_q rfl rfl rfl rfl rfl ?_
  refine v_fa_vw (off' := 1) lay46 rfl rfl rfl ?_
  refine v_nil ?_
  refine d_q rfl rfl rfl rfl rfl ?_
  refine v_load_vw (.c (.v _)) lay2 rfl rfl rfl ?_
  refine v_nil ?_
  refine d_q rfl rfl rfl rfl rfl ?_
  refine v_gtr lay2 rfl rfl (fun h17 => ?_) (fun h17 => ?_)
  · exact absurd h17 (by omega)
  refine v_nil ?_
  refine d_q rfl rfl rfl rfl rfl ?_
  refine v_pick_f rfl rfl ?_
  refine v_nil ?_
  refine d_q rfl rfl rfl rfl rfl ?_
  refine v_move rfl ?_
  refine v_nil ?_
  refine d_q rfl rfl rfl rfl rfl ?_
  refine v_fa_pt (off' := 2) lay64 rfl rfl rfl ?_
  refine v_nil ?_
  refine d_q rfl rfl rfl rfl rfl ?_
  refine v_load_pt (.c _) lay61 rfl rfl rfl rfl ?_
  refine v_nil ?_
  refine d_q rfl rfl rfl rfl rfl ?_
  refine v_move rfl ?_
  refine v_nil ?_
  refine d_q rfl rfl rfl rfl rfl ?_
  refine v_idx_e (k := 2) (i) pe_len lay61 lay46 rfl rfl rfl (rfl) rfl (rfl) (by omega) ?_
  refine v_nil ?_
  refine d_q rfl rfl rfl rfl rfl ?_
  refine v_fa_vw (off' := 1) lay46 rfl rfl rfl ?_
  refine v_nil ?_
  refine d_q rfl rfl rfl rfl rfl ?_
  refine v_load_vw (.c (.v _)) lay2 rfl rfl rfl ?_
  refine v_nil ?_
  refine d_q rfl rfl rfl rfl rfl ?_
  refine v_fa_pt (off' := 0) lay64 rfl rfl rfl ?_
  refine v_nil ?_
  refine d_q rfl rfl rfl rfl rfl ?_
  refine v_load_pt (.c _) lay61 rfl rfl rfl rfl ?_
  refine v_nil ?_
  refine d_q rfl rfl rfl rfl rfl ?_
  refine v_move rfl ?_
  refine v_nil ?_
  refine d_q rfl rfl rfl rfl rfl ?_
  refine v_idx_e (k := 2) (i) pe_len lay61 lay46 rfl rfl rfl (rfl) rfl (rfl) (by omega) ?_
  refine v_nil ?_
  refine d_q rfl rfl rfl rfl rfl ?_
  refine v_fa_vw (off' := 1) lay46 rfl rfl rfl ?_
  refine v_nil ?_
  refine d_q rfl rfl rfl rfl rfl ?_
  refine v_load_vw (.c (.v _)) lay2 rfl rfl rfl ?_
  refine v_nil ?_
  refine d_q rfl rfl rfl rfl rfl ?_
  refine v_gtr lay2 rfl rfl (fun h20 => ?_) (fun h20 => ?_)
  · exact absurd h20 (by omega)
  refine v_nil ?_
  refine d_q rfl rfl rfl rfl rfl ?_
  refine v_pick_f rfl rfl ?_
  refine v_nil ?_
  refine d_q rfl rfl rfl rfl rfl ?_
  refine v_move rfl ?_
  refine v_nil ?_
  refine d_q rfl rfl rfl rfl rfl ?_
  refine v_fa_pt (off' := 1) lay64 rfl rfl rfl ?_
  refine v_nil ?_
  refine d_q rfl rfl rfl rfl rfl ?_
  refine v_load_pt (.c _) lay61 rfl rfl rfl rfl ?_
  refine v_nil ?_
  refine d_q rfl rfl rfl rfl rfl ?_
  refine v_move rfl ?_
  refine v_nil ?_
  refine d_q rfl rfl rfl rfl rfl ?_
  refine v_idx_e (k := 2) (i) pe_len lay61 lay46 rfl rfl rfl (rfl) rfl (rfl) (by omega) ?_
  refine v_nil ?_
  refine d_q rfl rfl rfl rfl rfl ?_
  refine v_fa_vw (off' := 1) lay46 rfl rfl rfl ?_
  refine v_nil ?_
  refine d_q rfl rfl rfl rfl rfl ?_
  refine v_load_vw (.c (.v _)) lay2 rfl rfl rfl ?_
  refine v_nil ?_
  refine d_q rfl rfl rfl rfl rfl ?_
  refine v_fa_pt (off' := 0) lay64 rfl rfl rfl ?_
  refine v_nil ?_
  refine d_q rfl rfl rfl rfl rfl ?_
  refine v_load_pt (.c _) lay61 rfl rfl rfl rfl ?_
  refine v_nil ?_
  refine d_q rfl rfl rfl rfl rfl ?_
  refine v_move rfl ?_
  refine v_nil ?_
  refine d_q rfl rfl rfl rfl rfl ?_
  refine v_idx_e (k := 2) (i) pe_len lay61 lay46 rfl rfl rfl (rfl) rfl (rfl) (by omega) ?_
  refine v_nil ?_
  refine d_q rfl rfl rfl rfl rfl ?_
  refine v_fa_vw (off' := 1) lay46 rfl rfl rfl ?_
  refine v_nil ?_
  refine d_q rfl rfl rfl rfl rfl ?_
  refine v_load_vw (.c (.v _)) lay2 rfl rfl rfl ?_
  refine v_nil ?_
  refine d_q rfl rfl rfl rfl rfl ?_
  refine v_eql lay2 rfl rfl (fun h23 => ?_) (fun h23 => ?_)
  rotate_left
  · refine v_nil ?_
    refine d_q rfl rfl rfl rfl rfl ?_
    refine v_move rfl ?_
    refine v_nil ?_
    refine d_off rfl rfl ?_
    refine d_off rfl rfl ?_
    refine d_off rfl rfl ?_
    refine d_off rfl rfl ?_
    refine d_off rfl rfl ?_
    refine d_off rfl rfl ?_
    refine d_off rfl rfl ?_
    refine d_off rfl rfl ?_
    refine d_off rfl rfl ?_
    refine d_off rfl rfl ?_
    refine d_off rfl rfl ?_
    refine d_q rfl rfl rfl rfl rfl ?_
    refine v_pick_f (v := .v (.bool false)) rfl rfl ?_
    refine v_nil ?_
    refine d_q rfl rfl rfl rfl rfl ?_
    refine v_pick_f rfl rfl ?_
    refine v_nil ?_
    refine d_nil ?_
    refine q_n ?_
    refine w_f rfl ?_
    refine w_skip ?_
    refine q_n ?_
    refine w_seq ?_
    refine w_reg rfl ?_
    refine v_load_pt (.agg [_, _]) lay33 rfl rfl rfl rfl ?_
    refine v_move rfl ?_
    refine v_move rfl ?_
    refine v_call (c26 p fs ds _ (by omega) (by omega)) rfl rfl rfl (.cons (vw_agg (.cons vw_v (.cons vw_sl .nil))) (.cons vw_sl (.cons vw_v .nil))) ?_
    refine v_move_t rfl ?_
    refine v_extract_a rfl rfl ?_
    refine v_extract_c rfl rfl ?_
    refine v_alloc (m := 3) (H' := [_, _, _, ⟨[.v _, .v _], 46, true⟩]) lay46 rfl rfl ?_
    refine v_store (H' := [_, _, _, ⟨[_, _], 46, true⟩]) lay46 rfl rfl rfl rfl rfl rfl ?_
    refine v_assign rfl ?_
    refine v_nil ?_
    refine q_n ?_
    refine w_seq ?_
    refine w_draw [0, 1, 3, 7, 7, 23, 7, 119, 247, 511, 1023] [⟨0, 0, []⟩, ⟨1, 0, []⟩, ⟨2, 0, []⟩, ⟨3, 0, []⟩, ⟨4, 0, []⟩, ⟨5, 0, []⟩, ⟨6, 0, []⟩, ⟨7, 0, []⟩, ⟨8, 0, []⟩, ⟨9, 0, []⟩, ⟨10, 0, []⟩] rfl rfl ?_
    refine d_q rfl rfl rfl rfl rfl ?_
    refine v_move rfl ?_
    refine v_nil ?_
    refine d_q rfl rfl rfl rfl rfl ?_
    refine v_neq lay2 rfl rfl (fun h30 => ?_) (fun h30 => ?_)
    · exact absurd (by rw [hpo]) h30
    refine v_nil ?_
    refine d_q rfl rfl rfl rfl rfl ?_
    refine v_move rfl ?_
    refine v_nil ?_
    refine d_q rfl rfl rfl rfl rfl ?_
    refine v_load_pt (.agg [_, _]) lay46 rfl rfl rfl rfl ?_
    refine v_nil ?_
    refine d_q rfl rfl rfl rfl rfl ?_
    refine v_fa_pt (off' := 1) lay64 rfl rfl rfl ?_
    refine v_nil ?_
    refine d_q rfl rfl rfl rfl rfl ?_
    refine v_load_pt (.c _) lay61 rfl rfl rfl rfl ?_
    refine v_nil ?_
    refine d_q rfl rfl rfl rfl rfl ?_
    refine v_move rfl ?_
    refine v_nil ?_
    refine d_q rfl rfl rfl rfl rfl ?_
    refine v_idx_e (k := 2) (i) pe_len lay61 lay46 rfl rfl rfl (rfl) rfl (rfl) (by omega) ?_
    refine v_nil ?_
    refine d_q rfl rfl rfl rfl rfl ?_
    refine v_load_vw (.agg [.v _, .v _]) lay46 rfl rfl rfl ?_
    refine v_nil ?_
    refine d_rawb (rq46 (a := (postR p fs ds (i : Int)).1) (b := (boR p fs ds).1.ps[i]) rfl rfl) rfl rfl rfl rfl rfl (fun h32 => ?_) (fun h32 => ?_)
    · exact absurd (by rw [hpo]) h32
    refine d_q rfl rfl rfl rfl rfl ?_
    refine v_pick_f rfl rfl ?_
    refine v_nil ?_
    refine d_nil ?_
    refine q_n ?_
    refine w_f rfl ?_
    refine w_skip ?_
    refine q_bn ?_
    refine q_n ?_
    refine w_reg rfl ?_
    refine v_move rfl ?_
    refine v_add lay3 rfl rfl (i64r (by omega)) ?_
    refine v_assign rfl ?_
    refine v_nil ?_
    refine q_n ?_
    refine ⟨_, _, _, ?_, ⟨i + 1, rfl, by omega, rfl, rfl⟩, by omega⟩
    exact turn [some 0, some 1, some 2] rfl rfl rfl ⟨⟨_, rfl, .cons tr_v (.cons tr_sl .nil)⟩, ⟨_, rfl, .cons tr_sl (.cons tr_sl (.cons tr_sl (.cons tr_sl (.cons tr_sl .nil))))⟩, ⟨_, rfl, .cons tr_sl (.cons tr_sl (.cons tr_sl (.cons tr_sl (.cons tr_sl .nil))))⟩, trivial⟩ ⟨tr_pt rfl, tr_sl, tr_v, tr_pt rfl, tr_sl, tr_v, trivial⟩
  refine v_nil ?_
  refine d_q rfl rfl rfl rfl rfl ?_
  refine v_move rfl ?_
  refine v_nil ?_
  refine d_q rfl rfl rfl rfl rfl ?_
  refine v_fa_pt (off' := 1) lay64 rfl rfl rfl ?_
  refine v_nil ?_
  refine d_q rfl rfl rfl rfl rfl ?_
  refine v_load_pt (.c _) lay61 rfl rfl rfl rfl ?_
  refine v_nil ?_
  refine d_q rfl rfl rfl rfl rfl ?_
  refine v_move rfl ?_
  refine v_nil ?_
  refine d_q rfl rfl rfl rfl rfl ?_
  refine v_idx_e (k := 2) (i) pe_len lay61 lay46 rfl rfl rfl (rfl) rfl (rfl) (by omega) ?_
  refine v_nil ?_
  refine d_q rfl rfl rfl rfl rfl ?_
  refine v_load_vw (.agg [.v _, .v _]) lay46 rfl rfl rfl ?_
  refine v_nil ?_
  refine d_q rfl rfl rfl rfl rfl ?_
  refine v_fa_pt (off' := 0) lay64 rfl rfl rfl ?_
  refine v_nil ?_
  refine d_q rfl rfl rfl rfl rfl ?_
  refine v_load_pt (.c _) lay61 rfl rfl rfl rfl ?_
  refine v_nil ?_
  refine d_q rfl rfl rfl rfl rfl ?_
  refine v_move rfl ?_
  refine v_nil ?_
  refine d_q rfl rfl rfl rfl rfl ?_
  refine v_idx_e (k := 2) (i) pe_len lay61 lay46 rfl rfl rfl (rfl) rfl (rfl) (by omega) ?_
  refine v_nil ?_
  refine d_q rfl rfl rfl rfl rfl ?_
  refine v_load_vw (.agg [.v _, .v _]) lay46 rfl rfl rfl ?_
  refine v_nil ?_
  refine d_rawb (rq46 (a := (boR p fs ds).1.ps[i]) (b := (boR p fs ds).1.nw[i]) rfl rfl) rfl rfl rfl rfl rfl (fun h26 => ?_) (fun h26 => ?_)
  · exact absurd (hp2 (by assumption)) h26
  refine d_q rfl rfl rfl rfl rfl ?_
  refine v_pick_t rfl rfl ?_
  refine v_nil ?_
  refine d_q rfl rfl rfl rfl rfl ?_
  refine v_pick_f rfl rfl ?_
  refine v_nil ?_
  refine d_nil ?_
  refine q_n ?_
  refine w_f rfl ?_
  refine w_skip ?_
  refine q_n ?_
  refine w_seq ?_
  refine w_reg rfl ?_
  refine v_load_pt (.agg [_, _]) lay33 rfl rfl rfl rfl ?_
  refine v_move rfl ?_
  refine v_move rfl ?_
  refine v_call (c26 p fs ds _ (by omega) (by omega)) rfl rfl rfl (.cons (vw_agg (.cons vw_v (.cons vw_sl .nil))) (.cons vw_sl (.cons vw_v .nil))) ?_
  refine v_move_t rfl ?_
  refine v_extract_a rfl rfl ?_
  refine v_extract_c rfl rfl ?_
  refine v_alloc (m := 3) (H' := [_, _, _, ⟨[.v _, .v _], 46, true⟩]) lay46 rfl rfl ?_
  refine v_store (H' := [_, _, _, ⟨[_, _], 46, true⟩]) lay46 rfl rfl rfl rfl rfl rfl ?_
  refine v_assign rfl ?_
  refine v_nil ?_
  refine q_n ?_
  refine w_seq ?_
  refine w_draw [0, 1, 3, 7, 7, 23, 7, 119, 247, 511, 1023] [⟨0, 0, []⟩, ⟨1, 0, []⟩, ⟨2, 0, []⟩, ⟨3, 0, []⟩, ⟨4, 0, []⟩, ⟨5, 0, []⟩, ⟨6, 0, []⟩, ⟨7, 0, []⟩, ⟨8, 0, []⟩, ⟨9, 0, []⟩, ⟨10, 0, []⟩] rfl rfl ?_
  refine d_q rfl rfl rfl rfl rfl ?_
  refine v_move rfl ?_
  refine v_nil ?_
  refine d_q rfl rfl rfl rfl rfl ?_
  refine v_neq lay2 rfl rfl (fun h27 => ?_) (fun h27 => ?_)
  · exact absurd (by rw [hpo]) h27
  refine v_nil ?_
  refine d_q rfl rfl rfl rfl rfl ?_
  refine v_move rfl ?_
  refine v_nil ?_
  refine d_q rfl rfl rfl rfl rfl ?_
  refine v_load_pt (.agg [_, _]) lay46 rfl rfl rfl rfl ?_
  refine v_nil ?_
  refine d_q rfl rfl rfl rfl rfl ?_
  refine v_fa_pt (off' := 1) lay64 rfl rfl rfl ?_
  refine v_nil ?_
  refine d_q rfl rfl rfl rfl rfl ?_
  refine v_load_pt (.c _) lay61 rfl rfl rfl rfl ?_
  refine v_nil ?_
  refine d_q rfl rfl rfl rfl rfl ?_
  refine v_move rfl ?_
  refine v_nil ?_
  refine d_q rfl rfl rfl rfl rfl ?_
  refine v_idx_e (k := 2) (i) pe_len lay61 lay46 rfl rfl rfl (rfl) rfl (rfl) (by omega) ?_
  refine v_nil ?_
  refine d_q rfl rfl rfl rfl rfl ?_
  refine v_load_vw (.agg [.v _, .v _]) lay46 rfl rfl rfl ?_
  refine v_nil ?_
  refine d_rawb (rq46 (a := (postR p fs ds (i : Int)).1) (b := (boR p fs ds).1.ps[i]) rfl rfl) rfl rfl rfl rfl rfl (fun h29 => ?_) (fun h29 => ?_)
  · exact absurd (by rw [hpo]) h29
  refine d_q rfl rfl rfl rfl rfl ?_
  refine v_pick_f rfl rfl ?_
  refine v_nil ?_
  refine d_nil ?_
  refine q_n ?_
  refine w_f rfl ?_
  refine w_skip ?_
  refine q_bn ?_
  refine q_n ?_
  refine w_reg rfl ?_
  refine v_move rfl ?_
  refine v_add lay3 rfl rfl (i64r (by omega)) ?_
  refine v_assign rfl ?_
  refine v_nil ?_
  refine q_n ?_
  refine ⟨_, _, _, ?_, ⟨i + 1, rfl, by omega, rfl, rfl⟩, by omega⟩
  exact turn [some 0, some 1, some 2] rfl rfl rfl ⟨⟨_, rfl, .cons tr_v (.cons tr_sl .nil)⟩, ⟨_, rfl, .cons tr_sl (.cons tr_sl (.cons tr_sl (.cons tr_sl (.cons tr_sl .nil))))⟩, ⟨_, rfl, .cons tr_sl (.cons tr_sl (.cons tr_sl (.cons tr_sl (.cons tr_sl .nil))))⟩, trivial⟩ ⟨tr_pt rfl, tr_sl, tr_v, tr_pt rfl, tr_sl, tr_v, trivial⟩
end Go.VL
namespace Go.Proofs.Ytbejolinihbokaa
namespace B0
open Go.RowKit Go.WideShapes Go.ChangeShapes Go.ChangeAt
section
variable {H : Type} {enc : TypeId × Value → H} {P : Program}

theorem post_of_below {f : Func} {s : ChangeSpec} {apart fresh handsOn again : Bool} {W W' : World} {args : Array Value} {v : Value} {ds gs : List (DataW H)} {before pa pv : List MemPlace}
    (hW : DataW.Whole enc P f.params.toList s.vars apart W args.toList ds gs before)
    (hres : ∀ (b : Nat) (sp : Nat → Bool) (hd : Bool), DataW.TrodAll enc P W' b sp hd f.resultTypes.toList (v.resultList f.resultTypes.size) (s.fn H (ds ++ gs)).results [])
    (hargs : ∀ sp : Nat → Bool, (∀ p ∈ before, sp p.block = true) → DataW.TrodAll enc P W' 0 sp true f.params.toList args.toList (s.fn H (ds ++ gs)).args pa)
    (hvars : ∀ sp : Nat → Bool, (∀ p ∈ before, sp p.block = true) → DataW.TrodVars enc P W' sp s.vars (s.fn H (ds ++ gs)).vars pv)
    (hps : before = pa ++ pv) (hb : Below W.heap.size W W')
    (hok : ∀ (j : Nat) (t : TypeId) (r : Value), f.resultTypes[j]? = some t → (v.resultList f.resultTypes.size)[j]? = some r → Value.okWide P W' .any 0 t r) :
    s.post enc P f apart fresh handsOn again W args v W' := by
  have hlt : ∀ p ∈ before, p.block < W.heap.size := fun p hp => hW.lt p hp
  have hold : ∀ p ∈ before, (fun b => decide (b < W.heap.size)) p.block = true := fun p hp => by simpa using hlt p hp
  refine ⟨ds, gs, before, [], pa, pv, hW, hres _ _ _, hargs _ hold, hvars _ hold, World.keptBut_mono (fun p hp => ⟨hp, ?_⟩) (hb.frame (· ∈ before)), fun _ => ?_⟩
  · rw [hps, List.mem_append] at hp
    exact Or.inr hp
  · obtain ⟨_, _, _, _, _, hz, hn⟩ := hW
    refine ⟨hok, _, _, ([] ++ pa) ++ pv, ⟨[] ++ pa, pv, trodAll_append (hargs _ (fun _ _ => rfl)) (hres _ _ _), hvars _ (fun _ _ => rfl), rfl, ?_, ?_⟩, ?_⟩
    · intro b off hp
      have hin : MemPlace.cell b off ∈ before := by rw [hps]; simpa using hp
      rw [hb.frozen (hlt _ hin)]
      exact hz b off hin
    · intro ha
      have := hn ha
      rw [hps] at this
      simpa using this
    · intro p hp _
      rw [hps]
      simpa using hp

theorem trodAll_stays (hl : laidOutB P = true) {W W' : World} {sp' : Nat → Bool} : ∀ {ts : List TypeId} {vs : List Value} {ds : List (DataW H)} {ps : List MemPlace},
    (∀ t ∈ ts, P.readableRec t = true ∧ t < P.types.size) → DataW.TrodAll enc P W 0 (fun _ => true) true ts vs ds ps → (∀ p ∈ ps, W.sameAt W' p) → (∀ p ∈ ps, sp' p.block = true) →
    DataW.TrodAll enc P W' 0 sp' true ts vs ds ps
  | [], vs, ds, ps, _, h, _, _ => by
    obtain ⟨rfl, rfl, rfl⟩ := trodAll_nil h
    exact rfl
  | t :: ts, vs, ds, ps, ht, h, hsame, hsp => by
    obtain ⟨v, vs', d, ds', p, q, rfl, rfl, rfl, h0, h1⟩ := trodAll_cons h
    exact ⟨p, q, Go.WideElems.Trod_stays hl (ht t (by simp)).1 (ht t (by simp)).2 h0 (fun x hx => hsame x (by simp [hx])) (fun x hx => hsp x (by simp [hx])),
      trodAll_stays hl (fun u hu => ht u (by simp [hu])) h1 (fun x hx => hsame x (by simp [hx])) (fun x hx => hsp x (by simp [hx])), rfl⟩

/-- A law: whatever the arguments, the call returns true and turns nothing that was there. -/
theorem lift {C : Checked} {os : Os} {f : FuncId} {fn : Func} {s : ChangeSpec} {conds : List PathCond} {tb : TypeId}
    (own : ownKnob C.prog.godebug = none) (started : os.Started) (noInit : C.prog.inits.idxOf? f = none) (hfn : C.prog.funcs[f]? = some fn)
    (witness : ∃ (w : World) (tape : Tape) (i : Input), w.os = os ∧ (w.forCall tape i).Shaped C.prog ∧ i.vars = [] ∧ Input.okWide C.prog (w.forCall tape i) .any w.heap.size f i ∧
      s.pre6 enc C.prog fn conds false (w.forCall tape i).memory i.args ∧ ({} : Assume).holds C.prog (lone (Frame.enter C.prog f i.args .normal) [] (w.forCall tape i)))
    (hl : laidOutB C.prog = true) (hp : (fn.params.toList.all fun t => C.prog.readableRec t && decide (t < C.prog.types.size)) = true)
    (hv : s.vars = []) (hr : fn.resultTypes = #[tb]) (htb : C.prog.underlying tb = some .bool)
    (hs : ∀ ds : List (DataW H), ds.length = fn.params.toList.length → s.fn H ds = { results := [.lit (.bool true)], args := ds })
    (contract : ∀ (W : World) (base : Nat) (args : Array Value) (ds : List (DataW H)) (p : List MemPlace),
      (∀ (j : Nat) t v, fn.params[j]? = some t → args[j]? = some v → Value.okWide C.prog W .any base t v) →
      DataW.TrodAll enc C.prog W 0 (fun _ => true) true fn.params.toList args.toList ds p →
      Calls C.prog f args W fun e W' => e = .returned (.bool true) ∧ Below W.heap.size W W') :
    ReturnsInHanded {} C os f .any (s.pre6 enc C.prog fn conds false) (s.post enc C.prog fn false true false false) := by
  refine returnsInHanded_of_change own started noInit hfn witness ?_
  intro W base args ds gs before hval hW _ _
  have hW' := hW
  obtain ⟨p, q, hA, hV, rfl, hfz, hnd⟩ := hW
  rw [hv] at hV
  obtain ⟨rfl, rfl⟩ := trodVars_none hV
  have hlen : ∀ {ts : List TypeId} {vs : List Value} {ds : List (DataW H)} {ps : List MemPlace}, DataW.TrodAll enc C.prog W 0 (fun _ => true) true ts vs ds ps → ds.length = ts.length := by
    intro ts
    induction ts with
    | nil => intro vs ds ps h; obtain ⟨rfl, rfl, rfl⟩ := trodAll_nil h; rfl
    | cons t ts ih => intro vs ds ps h; obtain ⟨v, vs', d, ds', p, q, rfl, rfl, rfl, h0, h1⟩ := trodAll_cons h; simp [ih h1]
  have hsd : s.fn H (ds ++ []) = { results := [.lit (.bool true)], args := ds } := by rw [List.append_nil]; exact hs ds (hlen hA)
  have hp' : ∀ t ∈ fn.params.toList, C.prog.readableRec t = true ∧ t < C.prog.types.size := fun t ht => by simpa using List.all_eq_true.1 hp t ht
  refine (contract W base args ds p hval hA).mono fun e W' ⟨he, hb⟩ => ?_
  refine ⟨.bool true, he, post_of_below (pa := p) (pv := []) hW' ?_ ?_ ?_ rfl hb ?_⟩
  · intro b sp hd
    rw [hsd, hr]
    exact trodAll_mk1 ⟨1, by simp [DataW.trod, Value.cells, htb]⟩
  · intro sp hsp
    rw [hsd]
    exact trodAll_stays hl hp' hA (fun x hx => hb.same (hW'.lt x (by simp [hx]))) (fun x hx => hsp x (by simp [hx]))
  · intro sp hsp
    rw [hsd, hv]
    exact rfl
  · exact ok_one hr rfl (okWide_bool_mk htb true)
end
end B0
end Go.Proofs.Ytbejolinihbokaa
