/- The board behind all deeds; the program's walk. -/
import Derived.Test.YtbejolinihbokaaC5
namespace Go.VL
open Go.RowKit
set_option maxRecDepth 20000
set_option maxHeartbeats 8000000
/-- How many of the codes are 0. -/
def cz (cs : List Int) : Int := (cs.filter (fun c => decide (c = 0))).length
theorem cz_len (cs : List Int) : 0 ≤ cz cs ∧ cz cs ≤ cs.length := ⟨by unfold cz; omega, by unfold cz; have := List.length_filter_le (fun c => decide (c = 0)) cs; omega⟩
theorem cz_ne {cs : List Int} {c : Int} (h : c ≠ 0) : cz cs = cz (cs ++ [c]) := by
  unfold cz
  simp [List.filter_append, h]
theorem cz_eq {cs : List Int} {c : Int} (h : c = 0) : cz cs + 1 = cz (cs ++ [c]) := by
  unfold cz
  simp [List.filter_append, h]
theorem tr_i {H : List Ob} {g : List (Option Nat)} {a b : Int} (h : a = b) : TrV H g (cI a) (cI b) := by rw [h]; exact tr_v
/-- The program's board, looked at by what has asked for it. -/
def bdw (b : Bd) : List C := [.sl true b.nw.length 2 (flat pe b.nw), .sl true b.ps.length 2 (flat pe b.ps), .sl true b.sv.length 2 (flat pe b.sv), .sl true b.kn.length 1 (flat int b.kn), .sl true b.wr.length 4 (flat nce b.wr), .any, .any]
theorem c65 (p : Int) (fs : List Int) (ds : List De) (hf : fs.length ≤ 6) (hds : ∀ d ∈ ds, dOk d) (hdl : ds.length ≤ 200) : PureC X 65 [.agg (cen false p fs), .c (dcs false ds)] (.tup [.c (.vw true (bdw (stB p fs ds ds.length).1) 0), cI (cz (stB p fs ds ds.length).2)]) := by
  refine PureC.of_body (drawD_ok X) (fun _ _ => Go.Proofs.Try.call65 _ _) Go.Proofs.Try.func65 rfl (n := 27) rfl ?_
  refine w_seq ?_
  refine w_reg rfl ?_
  refine v_box (m := 0) (H' := [_]) lay33 rfl rfl rfl ?_
  refine v_assign (c := .v _) rfl ?_
  refine v_assign (c := .v (.int .i64 0)) rfl ?_
  refine v_nil ?_
  refine q_n ?_
  refine w_seq ?_
  refine w_reg rfl ?_
  refine v_load_pt (.agg [_, _]) lay33 rfl rfl rfl rfl ?_
  refine v_inl (n := 68) (drawD_ok X) (fun _ _ => Go.Proofs.Try.call61 _ _) Go.Proofs.Try.func61 rfl rfl rfl rfl ?_
  refine w_seq ?_
  refine w_reg rfl ?_
  refine v_box (m := 1) (H' := [_, _]) lay33 rfl rfl rfl ?_
  refine v_assign (c := .v _) rfl ?_
  refine v_nil ?_
  refine q_n ?_
  refine w_seq ?_
  refine w_reg rfl ?_
  refine v_load_pt (.agg [_, _]) lay33 rfl rfl rfl rfl ?_
  refine v_build [(0, 5), (5, 2)] [.v _, .v _, .v _, .v _, .v _, .v _, _] lay94 rfl rfl ?_
  refine v_box (m := 2) (H' := [_, _, _]) lay94 rfl rfl rfl ?_
  refine v_assign rfl ?_
  refine v_nil ?_
  refine q_n ?_
  refine w_seq ?_
  refine w_seq ?_
  refine w_reg rfl ?_
  refine v_fa_pt (off' := 1) lay33 rfl rfl rfl ?_
  refine v_load_pt (.c _) lay28 rfl rfl rfl rfl ?_
  refine v_len_sl lay28 rfl ?_
  refine v_move (c := .v (.int .i64 0)) rfl ?_
  refine v_nil ?_
  refine q_n ?_
  refine w_block ?_
  refine w_loop (fun k sl H => ∃ i : Nat, k = fs.length - i ∧ i ≤ fs.length ∧ sl = sls [(3, .c (.pt 1 0)), (11, .c (ints false fs)), (12, cI fs.length), (13, cI i)] ∧ H = [⟨cen false p fs, 33, true⟩, ⟨[.mu 2 0 i 2, .mu 3 0 i 2, .mu 4 0 i 2, .mu 5 0 i 1, .mu 6 0 0 4, .v (.int .i64 p), ints false fs], 94, true⟩, ⟨flat pe (bg fs i), 46, true⟩, ⟨flat pe (bg fs i), 46, true⟩, ⟨flat pe (bg fs i), 46, true⟩, ⟨flat int (List.replicate i 0), 2, true⟩, ⟨[], 101, true⟩]) ?_ ?_
  · refine ⟨_, _, _, ?_, 0, rfl, Nat.zero_le _, rfl, rfl⟩
    exact turn [some 0, some 2, none, none, none, none, none] rfl rfl rfl ⟨⟨_, rfl, .cons tr_v (.cons tr_sl .nil)⟩, ⟨_, rfl, .cons (tr_nil rfl) (.cons (tr_nil rfl) (.cons (tr_nil rfl) (.cons (tr_nil rfl) (.cons (tr_nil rfl) (.cons tr_v (.cons tr_sl .nil))))))⟩, rfl, rfl, rfl, rfl, rfl, trivial⟩ ⟨tr_pt rfl, tr_sl, tr_v, tr_v, trivial⟩
  · rintro k sl H ⟨i, rfl, hi, rfl, rfl⟩
    refine w_seq ?_
    refine w_reg rfl ?_
    refine v_lss lay3 rfl rfl (fun h1 => ?_) (fun h1 => ?_)
    · skip
      refine v_nil ?_
      refine q_n ?_
      refine w_seq ?_
      refine w_t rfl ?_
      refine w_skip ?_
      refine q_n ?_
      refine w_seq ?_
      refine w_block ?_
      refine w_seq ?_
      refine w_reg rfl ?_
      refine v_idx_e (k := 1) (i) int_len lay28 lay2 rfl rfl rfl (rfl) rfl (rfl) (by omega) ?_
      refine v_load_vw (.c (.v _)) lay2 rfl rfl rfl ?_
      refine v_assign rfl ?_
      refine v_nil ?_
      refine q_n ?_
      refine w_seq ?_
      refine w_reg rfl ?_
      refine v_move rfl ?_
      refine v_build [(0, 1), (1, 1)] [.v _, .v _] lay46 rfl rfl ?_
      refine v_alloc (m := 7) (H' := [_, _, _, _, _, _, _, ⟨[.v _, .v _], 46, true⟩]) lay46 rfl rfl ?_
      refine v_store (H' := [_, _, _, _, _, _, _, ⟨[_, _], 46, true⟩]) lay46 rfl rfl rfl rfl rfl rfl ?_
      refine v_nil ?_
      refine q_n ?_
      refine w_draw [0, 0, 0, 0, 0, 16, 48, 112, 240, 0, 512, 2032, 0, 4096, 12288, 28672, 61440, 0, 131072, 524272, 0, 1048576, 3145728, 7340032, 15728640, 0, 33554432, 134217712, 0, 268435456, 805306368, 1879048192, 4026531840, 0, 17179869168, 34359738353, 68719476721, 137438953457, 274877906929, 549755813875, 1099511627763, 2199023255539, 4398046511091, 8796093022199, 17592186044407, 35184372088823, 70368744177655, 140737488355327, 281474976710655, 562949953421311, 1125899906842623] [⟨0, 0, []⟩, ⟨1, 0, []⟩, ⟨2, 0, []⟩, ⟨3, 0, []⟩, ⟨4, 0, []⟩, ⟨5, 0, []⟩, ⟨6, 0, []⟩, ⟨7, 0, []⟩, ⟨8, 0, []⟩, ⟨9, 0, []⟩, ⟨10, 2, []⟩, ⟨12, 0, []⟩, ⟨13, 0, []⟩, ⟨14, 0, []⟩, ⟨15, 0, []⟩, ⟨16, 0, []⟩, ⟨17, 0, []⟩, ⟨18, 2, []⟩, ⟨20, 0, []⟩, ⟨21, 0, []⟩, ⟨22, 0, []⟩, ⟨23, 0, []⟩, ⟨24, 0, []⟩, ⟨25, 0, []⟩, ⟨26, 2, []⟩, ⟨28, 0, []⟩, ⟨29, 0, []⟩, ⟨30, 0, []⟩, ⟨31, 0, []⟩, ⟨32, 0, []⟩, ⟨33, 2, []⟩, ⟨11, 1, [16, 17, 24, 25, 32]⟩, ⟨19, 1, [24, 25, 32]⟩, ⟨27, 1, [32]⟩, ⟨34, 1, []⟩, ⟨35, 0, []⟩, ⟨36, 0, []⟩, ⟨37, 0, []⟩, ⟨38, 1, []⟩, ⟨39, 0, []⟩, ⟨40, 0, []⟩, ⟨41, 0, []⟩, ⟨42, 1, []⟩, ⟨43, 0, []⟩, ⟨44, 0, []⟩, ⟨45, 0, []⟩, ⟨46, 1, []⟩, ⟨47, 0, []⟩, ⟨48, 0, []⟩, ⟨49, 0, []⟩, ⟨50, 1, []⟩] rfl rfl ?_
      refine d_q rfl rfl rfl rfl rfl ?_
      refine v_move rfl ?_
      refine v_nil ?_
      refine d_q rfl rfl rfl rfl rfl ?_
      refine v_move rfl ?_
      refine v_nil ?_
      refine d_q rfl rfl rfl rfl rfl ?_
      refine v_move rfl ?_
      refine v_nil ?_
      refine d_q rfl rfl rfl rfl rfl ?_
      refine v_move rfl ?_
      refine v_nil ?_
      refine d_q rfl rfl rfl rfl rfl ?_
      refine v_move rfl ?_
      refine v_nil ?_
      refine d_q rfl rfl rfl rfl rfl ?_
      refine v_nil_pt rfl ?_
      refine v_nil ?_
      refine d_q rfl rfl rfl rfl rfl ?_
      refine v_fa_pt (off' := 0) lay94 rfl rfl rfl ?_
      refine v_nil ?_
      refine d_q rfl rfl rfl rfl rfl ?_
      refine v_fa_pt (off' := 0) lay64 rfl rfl rfl ?_
      refine v_nil ?_
      refine d_q rfl rfl rfl rfl rfl ?_
      refine v_load_pt (.c _) lay61 rfl rfl rfl rfl ?_
      refine v_nil ?_
      refine d_q rfl rfl rfl rfl rfl ?_
      refine v_load_pt (.agg [_, _]) lay46 rfl rfl rfl rfl ?_
      refine v_nil ?_
      refine d_z (.c (.sl true 1 2 (flat pe [(fs[i], 0)]))) rfl rfl rfl ?_
      refine d_q rfl rfl rfl rfl rfl ?_
      refine v_move rfl ?_
      refine v_nil ?_
      refine d_q rfl rfl rfl rfl rfl ?_
      refine v_nil_pt rfl ?_
      refine v_nil ?_
      refine d_q rfl rfl rfl rfl rfl ?_
      refine v_fa_pt (off' := 0) lay94 rfl rfl rfl ?_
      refine v_nil ?_
      refine d_q rfl rfl rfl rfl rfl ?_
      refine v_fa_pt (off' := 1) lay64 rfl rfl rfl ?_
      refine v_nil ?_
      refine d_q rfl rfl rfl rfl rfl ?_
      refine v_load_pt (.c _) lay61 rfl rfl rfl rfl ?_
      refine v_nil ?_
      refine d_q rfl rfl rfl rfl rfl ?_
      refine v_load_pt (.agg [_, _]) lay46 rfl rfl rfl rfl ?_
      refine v_nil ?_
      refine d_z (.c (.sl true 1 2 (flat pe [(fs[i], 0)]))) rfl rfl rfl ?_
      refine d_q rfl rfl rfl rfl rfl ?_
      refine v_move rfl ?_
      refine v_nil ?_
      refine d_q rfl rfl rfl rfl rfl ?_
      refine v_nil_pt rfl ?_
      refine v_nil ?_
      refine d_q rfl rfl rfl rfl rfl ?_
      refine v_fa_pt (off' := 0) lay94 rfl rfl rfl ?_
      refine v_nil ?_
      refine d_q rfl rfl rfl rfl rfl ?_
      refine v_fa_pt (off' := 2) lay64 rfl rfl rfl ?_
      refine v_nil ?_
      refine d_q rfl rfl rfl rfl rfl ?_
      refine v_load_pt (.c _) lay61 rfl rfl rfl rfl ?_
      refine v_nil ?_
      refine d_q rfl rfl rfl rfl rfl ?_
      refine v_load_pt (.agg [_, _]) lay46 rfl rfl rfl rfl ?_
      refine v_nil ?_
      refine d_z (.c (.sl true 1 2 (flat pe [(fs[i], 0)]))) rfl rfl rfl ?_
      refine d_q rfl rfl rfl rfl rfl ?_
      refine v_move rfl ?_
      refine v_nil ?_
      refine d_q rfl rfl rfl rfl rfl ?_
      refine v_nil_pt rfl ?_
      refine v_nil ?_
      refine d_q rfl rfl rfl rfl rfl ?_
      refine v_fa_pt (off' := 0) lay94 rfl rfl rfl ?_
      refine v_nil ?_
      refine d_q rfl rfl rfl rfl rfl ?_
      refine v_fa_pt (off' := 3) lay64 rfl rfl rfl ?_
      refine v_nil ?_
      refine d_q rfl rfl rfl rfl rfl ?_
      refine v_load_pt (.c _) lay28 rfl rfl rfl rfl ?_
      refine v_nil ?_
      refine d_z (.c (.sl true 1 1 (flat int [0]))) rfl rfl rfl ?_
      refine d_e rfl rfl rfl ?_
      refine v_app_flat_sl (H' := [_, _, _, _, _, _, _, _, _]) pe_sc pe_len lay61 lay46 rfl rfl (by first | rfl | (simp; done) | (simp; omega) | omega | (rw [bg_l (by omega)])) rfl rfl rfl (by unfold maxLen; simp only []; omega) rfl rfl ?_
      refine v_nil ⟨⟨ag_load_pt (.c _) lay28 rfl rfl rfl rfl, ⟨ag_load_pt (.agg [_, _]) lay46 rfl rfl rfl rfl, ⟨ag_load_pt (.c _) lay61 rfl rfl rfl rfl, ⟨ag_load_pt (.agg [_, _]) lay46 rfl rfl rfl rfl, ⟨ag_load_pt (.c _) lay61 rfl rfl rfl rfl, ⟨trivial, ⟨trivial, trivial⟩⟩⟩⟩⟩⟩⟩, ?_⟩
      refine d_e rfl rfl rfl ?_
      refine v_app_flat_sl (H' := [_, _, _, _, _, _, _, _, _, _]) pe_sc pe_len lay61 lay46 rfl rfl (by first | rfl | (simp; done) | (simp; omega) | omega | (rw [bg_l (by omega)])) rfl rfl rfl (by unfold maxLen; simp only []; omega) rfl rfl ?_
      refine v_nil ⟨⟨ag_load_pt (.c _) lay28 rfl rfl rfl rfl, ⟨ag_load_pt (.agg [_, _]) lay46 rfl rfl rfl rfl, ⟨ag_load_pt (.c _) lay61 rfl rfl rfl rfl, ⟨trivial, ⟨trivial, ⟨trivial, ⟨trivial, trivial⟩⟩⟩⟩⟩⟩⟩, ?_⟩
      refine d_e rfl rfl rfl ?_
      refine v_app_flat_sl (H' := [_, _, _, _, _, _, _, _, _, _, _]) pe_sc pe_len lay61 lay46 rfl rfl (by first | rfl | (simp; done) | (simp; omega) | omega | (rw [bg_l (by omega)])) rfl rfl rfl (by unfold maxLen; simp only []; omega) rfl rfl ?_
      refine v_nil ⟨⟨ag_load_pt (.c _) lay28 rfl rfl rfl rfl, ⟨trivial, ⟨trivial, ⟨trivial, ⟨trivial, ⟨trivial, ⟨trivial, trivial⟩⟩⟩⟩⟩⟩⟩, ?_⟩
      refine d_e rfl rfl rfl ?_
      refine v_app_flat_sl (H' := [_, _, _, _, _, _, _, _, _, _, _, _]) int_sc int_len lay28 lay2 rfl rfl (by first | rfl | (simp; done) | (simp; omega) | omega | (rw [bg_l (by omega)])) rfl rfl rfl (by unfold maxLen; simp only []; omega) rfl rfl ?_
      refine v_nil ⟨again_nil, ?_⟩
      refine d_q rfl rfl rfl rfl rfl ?_
      refine v_nil_pt rfl ?_
      refine v_nil ?_
      refine d_q rfl rfl rfl rfl rfl ?_
      refine v_fa_pt (off' := 0) lay94 rfl rfl rfl ?_
      refine v_nil ?_
      refine d_q rfl rfl rfl rfl rfl ?_
      refine v_fa_pt (off' := 0) lay64 rfl rfl rfl ?_
      refine v_nil ?_
      refine d_e rfl rfl rfl ?_
      refine v_store (H' := [_, ⟨[_, _, _, _, _, _, _], 94, true⟩, _, _, _, _, _, _, _, _, _, _]) lay61 rfl rfl rfl rfl rfl rfl ?_
      refine v_nil ⟨again_nil, ?_⟩
      refine d_q rfl rfl rfl rfl rfl ?_
      refine v_nil_pt rfl ?_
      refine v_nil ?_
      refine d_q rfl rfl rfl rfl rfl ?_
      refine v_fa_pt (off' := 0) lay94 rfl rfl rfl ?_
      refine v_nil ?_
      refine d_q rfl rfl rfl rfl rfl ?_
      refine v_fa_pt (off' := 1) lay64 rfl rfl rfl ?_
      refine v_nil ?_
      refine d_e rfl rfl rfl ?_
      refine v_store (H' := [_, ⟨[_, _, _, _, _, _, _], 94, true⟩, _, _, _, _, _, _, _, _, _, _]) lay61 rfl rfl rfl rfl rfl rfl ?_
      refine v_nil ⟨again_nil, ?_⟩
      refine d_q rfl rfl rfl rfl rfl ?_
      refine v_nil_pt rfl ?_
      refine v_nil ?_
      refine d_q rfl rfl rfl rfl rfl ?_
      refine v_fa_pt (off' := 0) lay94 rfl rfl rfl ?_
      refine v_nil ?_
      refine d_q rfl rfl rfl rfl rfl ?_
      refine v_fa_pt (off' := 2) lay64 rfl rfl rfl ?_
      refine v_nil ?_
      refine d_e rfl rfl rfl ?_
      refine v_store (H' := [_, ⟨[_, _, _, _, _, _, _], 94, true⟩, _, _, _, _, _, _, _, _, _, _]) lay61 rfl rfl rfl rfl rfl rfl ?_
      refine v_nil ⟨again_nil, ?_⟩
      refine d_q rfl rfl rfl rfl rfl ?_
      refine v_nil_pt rfl ?_
      refine v_nil ?_
      refine d_q rfl rfl rfl rfl rfl ?_
      refine v_fa_pt (off' := 0) lay94 rfl rfl rfl ?_
      refine v_nil ?_
      refine d_q rfl rfl rfl rfl rfl ?_
      refine v_fa_pt (off' := 3) lay64 rfl rfl rfl ?_
      refine v_nil ?_
      refine d_e rfl rfl rfl ?_
      refine v_store (H' := [_, ⟨[_, _, _, _, _, _, _], 94, true⟩, _, _, _, _, _, _, _, _, _, _]) lay28 rfl rfl rfl rfl rfl rfl ?_
      refine v_nil ⟨again_nil, ?_⟩
      refine d_nil ?_
      refine q_bn ?_
      refine q_n ?_
      refine w_reg rfl ?_
      refine v_add lay3 rfl rfl (i64r (by omega)) ?_
      refine v_move rfl ?_
      refine v_nil ?_
      refine q_n ?_
      refine ⟨_, _, _, ?_, ⟨i + 1, rfl, by omega, rfl, rfl⟩, by omega⟩
      exact turn [some 0, some 1, some 8, some 9, some 10, some 11, some 6] rfl rfl rfl ⟨⟨_, rfl, .cons tr_v (.cons tr_sl .nil)⟩, ⟨_, rfl, .cons (tr_mun rfl (by first | rfl | (simp; done) | (simp; omega) | (rw [bg_l (by omega)]))) (.cons (tr_mun rfl (by first | rfl | (simp; done) | (simp; omega) | (rw [bg_l (by omega)]))) (.cons (tr_mun rfl (by first | rfl | (simp; done) | (simp; omega) | (rw [bg_l (by omega)]))) (.cons (tr_mun rfl (by first | rfl | (simp; done) | (simp; omega) | (rw [bg_l (by omega)]))) (.cons (tr_mun rfl (by first | rfl | (simp; done) | (simp; omega) | (rw [bg_l (by omega)]))) (.cons tr_v (.cons tr_sl .nil))))))⟩, ⟨_, rfl, trc_flat pe_sc (congrArg (flat pe) (bg_step (by omega)))⟩, ⟨_, rfl, trc_flat pe_sc (congrArg (flat pe) (bg_step (by omega)))⟩, ⟨_, rfl, trc_flat pe_sc (congrArg (flat pe) (bg_step (by omega)))⟩, ⟨_, rfl, trc_flat int_sc (congrArg (flat int) (List.replicate_succ').symm)⟩, ⟨_, rfl, .nil⟩, trivial⟩ ⟨tr_pt rfl, tr_sl, tr_v, tr_v, trivial⟩
    · skip
      refine v_nil ?_
      refine q_n ?_
      refine w_seq ?_
      refine w_f rfl ?_
      refine w_exit ?_
      refine q_e ?_
      refine q_e ?_
      refine q_hit ?_
      refine q_n ?_
      refine w_seq ?_
      refine w_reg rfl ?_
      refine v_move rfl ?_
      refine v_assign rfl ?_
      refine v_nil ?_
      refine q_n ?_
      refine w_ret ?_
      refine r_r rfl ?_
      refine v_assign rfl ?_
      refine v_assign (c := .v (.int .i64 0)) rfl ?_
      refine v_nil ?_
      refine q_n ?_
      refine w_seq ?_
      refine w_seq ?_
      refine w_reg rfl ?_
      refine v_move rfl ?_
      refine v_len_sl lay41 rfl ?_
      refine v_move (c := .v (.int .i64 0)) rfl ?_
      refine v_nil ?_
      refine q_n ?_
      refine w_block ?_
      refine w_loop (fun k sl H => ∃ (i : Nat) (b : Bd) (cs : List Int), k = ds.length - i ∧ i ≤ ds.length ∧ stB p fs ds i = (b, cs) ∧ okB fs.length i b ∧ cs.length = i ∧ sl = sls [(6, .c (.pt 0 0)), (7, cI (cz cs)), (12, .c (dcs false ds)), (13, cI ds.length), (14, cI i)] ∧ H = [⟨[.mu 1 0 b.nw.length 2, .mu 2 0 b.ps.length 2, .mu 3 0 b.sv.length 2, .mu 4 0 b.kn.length 1, .mu 5 0 b.wr.length 4, .v (.int .i64 p), ints false fs], 94, true⟩, ⟨flat pe b.nw, 46, true⟩, ⟨flat pe b.ps, 46, true⟩, ⟨flat pe b.sv, 46, true⟩, ⟨flat int b.kn, 2, true⟩, ⟨flat nce b.wr, 101, true⟩]) ?_ ?_
      · obtain rfl : i = fs.length := by omega
        refine ⟨_, _, _, ?_, 0, ⟨bg fs fs.length, bg fs fs.length, bg fs fs.length, List.replicate fs.length 0, []⟩, [], rfl, Nat.zero_le _, rfl, ok_0 fs, rfl, rfl, rfl⟩
        exact turn [some 1, some 2, some 3, some 4, some 5, some 6] rfl rfl rfl ⟨⟨_, rfl, .cons (tr_mun rfl (by first | rfl | (simp; done) | (simp; omega) | (rw [bg_l (by omega)]))) (.cons (tr_mun rfl (by first | rfl | (simp; done) | (simp; omega) | (rw [bg_l (by omega)]))) (.cons (tr_mun rfl (by first | rfl | (simp; done) | (simp; omega) | (rw [bg_l (by omega)]))) (.cons (tr_mun rfl (by first | rfl | (simp; done) | (simp; omega) | (rw [bg_l (by omega)]))) (.cons (tr_mun rfl (by first | rfl | (simp; done) | (simp; omega) | (rw [bg_l (by omega)]))) (.cons tr_v (.cons tr_sl .nil))))))⟩, ⟨_, rfl, trc_flat pe_sc rfl⟩, ⟨_, rfl, trc_flat pe_sc rfl⟩, ⟨_, rfl, trc_flat pe_sc rfl⟩, ⟨_, rfl, trc_flat int_sc rfl⟩, ⟨_, rfl, .nil⟩, trivial⟩ ⟨tr_pt rfl, (tr_i rfl), tr_sl, tr_v, tr_v, trivial⟩
      · rintro k sl H ⟨i, b, cs, rfl, hi, hst, hok, hcl, rfl, rfl⟩
        have hcz := cz_len cs
        refine w_seq ?_
        refine w_reg rfl ?_
        refine v_lss lay3 rfl rfl (fun h3 => ?_) (fun h3 => ?_)
        · skip
          have hi1 : i < ds.length := by omega
          have hd : dOk ds[i] := hds _ (List.getElem_mem hi1)
          have hd1 := hd.1
          obtain ⟨a, ha⟩ : ∃ a : Nat, ds[i].2.1 = a := Int.eq_ofNat_of_zero_le hd.2.1.1
          have ha9 : a ≤ 999 := by have hd2 := hd.2.1.2; omega
          have n1 := hok.nw
          have n2 := hok.ps
          have n3 := hok.sv
          have n4 := hok.kn
          have n5 := hok.wr
          refine v_nil ?_
          refine q_n ?_
          refine w_seq ?_
          refine w_t rfl ?_
          refine w_skip ?_
          refine q_n ?_
          refine w_seq ?_
          refine w_block ?_
          refine w_seq ?_
          refine w_reg rfl ?_
          refine v_idx_e (k := 3) (i) dce_len lay41 lay25 rfl rfl rfl (rfl) rfl (rfl) (by omega) ?_
          refine v_load_vw (.agg [.v _, .v _, .v _]) lay25 rfl rfl rfl ?_
          refine v_alloc (m := 6) (H' := [_, _, _, _, _, _, ⟨[.v _, .v _, .v _], 25, true⟩]) lay25 rfl rfl ?_
          refine v_store (H' := [_, _, _, _, _, _, ⟨[_, _, _], 25, true⟩]) lay25 rfl rfl rfl rfl rfl rfl ?_
          refine v_nil ?_
          refine q_n ?_
          refine w_seq ?_
          refine w_reg rfl ?_
          refine v_move rfl ?_
          refine v_load_pt (.agg [_, _, _]) lay25 rfl rfl rfl rfl ?_
          refine v_inl (n := 133) (drawD_ok X) (fun _ _ => Go.Proofs.Try.call62 _ _) Go.Proofs.Try.func62 rfl rfl rfl rfl ?_
          refine w_seq ?_
          refine w_reg rfl ?_
          refine v_box (m := 7) (H' := [_, _, _, _, _, _, _, _]) lay25 rfl rfl rfl ?_
          refine v_assign (c := .v (.int .i64 0)) rfl ?_
          refine v_nil ?_
          refine q_n ?_
          refine w_seq ?_
          refine w_seq ?_
          refine w_reg rfl ?_
          refine v_move rfl ?_
          refine v_load_pt (.agg [_, _, _]) lay25 rfl rfl rfl rfl ?_
          refine v_call (c90 p fs b _ a ha (by assumption) (by omega) (by omega)) rfl rfl rfl (.cons (vw_pt rfl (.cons (dn_flat pe_sc pe_len rfl trivial rfl) (.cons (dn_flat pe_sc pe_len rfl trivial rfl) (.cons (dn_flat pe_sc pe_len rfl trivial rfl) (.cons (dn_flat int_sc int_len rfl trivial rfl) (.cons (dn_flat nce_sc nce_len rfl trivial rfl) (.cons .v (.cons (.sl (fun h => by cases h)) .nil)))))))) (.cons (vw_agg (.cons vw_v (.cons vw_v (.cons vw_v .nil)))) .nil)) ?_
          refine v_assign rfl ?_
          refine v_nil ?_
          refine q_n ?_
          refine w_seq ?_
          refine w_reg rfl ?_
          refine v_move rfl ?_
          refine v_neq lay2 rfl rfl (fun h5 => ?_) (fun h5 => ?_)
          · skip
            have hcne := h5
            refine v_nil ?_
            refine q_n ?_
            refine w_t rfl ?_
            refine w_seq ?_
            refine w_reg rfl ?_
            refine v_move rfl ?_
            refine v_assign rfl ?_
            refine v_nil ?_
            refine q_n ?_
            refine w_ret (q_r ?_)
            refine r_r rfl ?_
            refine v_eql lay2 rfl rfl (fun h6 => ?_) (fun h6 => ?_)
            · skip
              exact absurd h6 hcne
            · skip
              refine v_nil ?_
              refine q_n ?_
              refine w_f rfl ?_
              refine w_skip ?_
              refine q_bn ?_
              refine q_n ?_
              refine w_reg rfl ?_
              refine v_add lay3 rfl rfl (i64r (by omega)) ?_
              refine v_move rfl ?_
              refine v_nil ?_
              refine q_n ?_
              have hdo : doB p b ds[i] = (b, (doB p b ds[i]).2) := (Prod.ext (do_bad hcne) rfl)
              refine ⟨_, _, _, ?_, ⟨i + 1, b, cs ++ [(doB p b ds[i]).2], rfl, by omega, st_step hst hi1 hdo, ok_do hok hd hdo, by simp; omega, rfl, rfl⟩, by omega⟩
              exact turn [some 0, some 1, some 2, some 3, some 4, some 5] rfl rfl rfl ⟨⟨_, rfl, .cons (tr_mun rfl (by first | rfl | (simp; done) | (simp; omega) | (rw [bg_l (by omega)]))) (.cons (tr_mun rfl (by first | rfl | (simp; done) | (simp; omega) | (rw [bg_l (by omega)]))) (.cons (tr_mun rfl (by first | rfl | (simp; done) | (simp; omega) | (rw [bg_l (by omega)]))) (.cons (tr_mun rfl (by first | rfl | (simp; done) | (simp; omega) | (rw [bg_l (by omega)]))) (.cons (tr_mun rfl (by first | rfl | (simp; done) | (simp; omega) | (rw [bg_l (by omega)]))) (.cons tr_v (.cons tr_sl .nil))))))⟩, ⟨_, rfl, trc_flat pe_sc rfl⟩, ⟨_, rfl, trc_flat pe_sc rfl⟩, ⟨_, rfl, trc_flat pe_sc rfl⟩, ⟨_, rfl, trc_flat int_sc rfl⟩, ⟨_, rfl, trc_flat nce_sc rfl⟩, trivial⟩ ⟨tr_pt rfl, (tr_i (cz_ne hcne)), tr_sl, tr_v, tr_v, trivial⟩
          · skip
            obtain ⟨e1, e2, e3, e4, e5⟩ := cd0 ha h5
            refine v_nil ?_
            refine q_n ?_
            refine w_f rfl ?_
            refine w_skip ?_
            refine q_n ?_
            refine w_seq ?_
            refine w_seq ?_
            refine w_reg rfl ?_
            refine v_fa_pt (off' := 0) lay25 rfl rfl rfl ?_
            refine v_load_pt (.c _) lay2 rfl rfl rfl rfl ?_
            refine v_nil ?_
            refine q_n ?_
            refine w_block ?_
            refine w_seq ?_
            refine w_reg rfl ?_
            refine v_eql lay2 rfl rfl (fun h7 => ?_) (fun h7 => ?_)
            · skip
              have hk1 := h7
              have k2 : a < b.ps.length := e3 (by omega)
              have k1 : a < b.nw.length := by omega
              have k3 : a < b.sv.length := by omega
              have hve := hok.ve _ (List.getElem_mem k1)
              refine v_assign rfl ?_
              refine v_nil ?_
              refine q_n ?_
              refine w_t rfl ?_
              refine w_draw [0, 1, 3, 7, 15, 0, 32, 0, 128, 0, 512, 1536, 3584, 7680, 0, 16384, 65024, 130560, 261632, 523776, 1048448, 2097151, 4194303] [⟨0, 0, []⟩, ⟨1, 0, []⟩, ⟨2, 0, []⟩, ⟨3, 0, []⟩, ⟨4, 0, []⟩, ⟨5, 0, []⟩, ⟨6, 0, []⟩, ⟨7, 0, []⟩, ⟨8, 0, []⟩, ⟨9, 0, []⟩, ⟨10, 0, []⟩, ⟨11, 0, []⟩, ⟨12, 0, []⟩, ⟨13, 0, []⟩, ⟨14, 0, []⟩, ⟨15, 0, []⟩, ⟨16, 0, []⟩, ⟨17, 0, []⟩, ⟨18, 0, []⟩, ⟨19, 0, []⟩, ⟨20, 0, []⟩, ⟨21, 0, []⟩, ⟨22, 1, []⟩] rfl rfl ?_
              refine d_q rfl rfl rfl rfl rfl ?_
              refine v_move rfl ?_
              refine v_nil ?_
              refine d_q rfl rfl rfl rfl rfl ?_
              refine v_nil_pt rfl ?_
              refine v_nil ?_
              refine d_q rfl rfl rfl rfl rfl ?_
              refine v_fa_pt (off' := 0) lay94 rfl rfl rfl ?_
              refine v_nil ?_
              refine d_q rfl rfl rfl rfl rfl ?_
              refine v_fa_pt (off' := 0) lay64 rfl rfl rfl ?_
              refine v_nil ?_
              refine d_q rfl rfl rfl rfl rfl ?_
              refine v_load_pt (.c _) lay61 rfl rfl rfl rfl ?_
              refine v_nil ?_
              refine d_q rfl rfl rfl rfl rfl ?_
              refine v_fa_pt (off' := 1) lay25 rfl rfl rfl ?_
              refine v_nil ?_
              refine d_q rfl rfl rfl rfl rfl ?_
              refine v_load_pt (.c _) lay2 rfl rfl rfl rfl ?_
              refine v_nil ?_
              refine d_q rfl rfl rfl rfl rfl ?_
              refine v_fa_pt (off' := 2) lay25 rfl rfl rfl ?_
              refine v_nil ?_
              refine d_q rfl rfl rfl rfl rfl ?_
              refine v_load_pt (.c _) lay2 rfl rfl rfl rfl ?_
              refine v_nil ?_
              refine d_q rfl rfl rfl rfl rfl ?_
              refine v_move rfl ?_
              refine v_nil ?_
              refine d_q rfl rfl rfl rfl rfl ?_
              refine v_nil_pt rfl ?_
              refine v_nil ?_
              refine d_q rfl rfl rfl rfl rfl ?_
              refine v_fa_pt (off' := 0) lay94 rfl rfl rfl ?_
              refine v_nil ?_
              refine d_q rfl rfl rfl rfl rfl ?_
              refine v_fa_pt (off' := 0) lay64 rfl rfl rfl ?_
              refine v_nil ?_
              refine d_q rfl rfl rfl rfl rfl ?_
              refine v_load_pt (.c _) lay61 rfl rfl rfl rfl ?_
              refine v_nil ?_
              refine d_q rfl rfl rfl rfl rfl ?_
              refine v_fa_pt (off' := 1) lay25 rfl rfl rfl ?_
              refine v_nil ?_
              refine d_q rfl rfl rfl rfl rfl ?_
              refine v_load_pt (.c _) lay2 rfl rfl rfl rfl ?_
              refine v_nil ?_
              refine d_q rfl rfl rfl rfl rfl ?_
              refine v_idx_mu_e (k := 2) (off := 0) (a) lay61 lay46 rfl rfl rfl (ha) (by omega) ?_
              refine v_nil ?_
              refine d_q rfl rfl rfl rfl rfl ?_
              refine v_fa_pt (off' := _) lay46 rfl rfl rfl ?_
              refine v_nil ?_
              refine d_q rfl rfl rfl rfl rfl ?_
              refine v_load_flat a 1 (.c (.v _)) pe_len lay2 rfl rfl (by omega) (by first | omega | (simp; omega)) rfl rfl ?_
              refine v_nil ?_
              refine d_q rfl rfl rfl rfl rfl ?_
              refine v_add lay2 rfl rfl (i64r (by omega)) ?_
              refine v_nil ?_
              refine d_q rfl rfl rfl rfl rfl ?_
              refine v_build [(0, 1), (1, 1)] [.v _, .v _] lay46 rfl rfl ?_
              refine v_nil ?_
              refine d_q rfl rfl rfl rfl rfl ?_
              refine v_idx_mu_e (k := 2) (off := 0) (a) lay61 lay46 rfl rfl rfl (ha) (by omega) ?_
              refine v_nil ?_
              refine d_e rfl rfl rfl ?_
              refine v_store_flat (H' := [_, _, _, _, _, _, _, _]) a 0 ((ds[i].2.2, b.nw[a].2 + 1)) pe_len lay46 rfl rfl rfl (by omega) (by first | omega | (simp; omega)) rfl rfl (rfl) rfl ?_
              refine v_nil ⟨again_nil, ?_⟩
              refine d_nil ?_
              refine q_bn ?_
              refine q_n ?_
              refine w_seq ?_
              refine w_reg rfl ?_
              refine v_assign (c := .v (.int .i64 0)) rfl ?_
              refine v_nil ?_
              refine q_n ?_
              refine w_ret ?_
              refine r_r rfl ?_
              refine v_eql lay2 rfl rfl (fun h10 => ?_) (fun h10 => ?_)
              · skip
                refine v_nil ?_
                refine q_n ?_
                refine w_t rfl ?_
                refine w_reg rfl ?_
                refine v_move rfl ?_
                refine v_add lay2 rfl rfl (i64r (by omega)) ?_
                refine v_assign rfl ?_
                refine v_nil ?_
                refine q_bn ?_
                refine q_n ?_
                refine w_reg rfl ?_
                refine v_add lay3 rfl rfl (i64r (by omega)) ?_
                refine v_move rfl ?_
                refine v_nil ?_
                refine q_n ?_
                have hdo : doB p b ds[i] = ({ b with nw := b.nw.set a (ds[i].2.2, b.nw[a].2 + 1) }, 0) := do_order hk1 ha k2 k1 (e4 hk1)
                refine ⟨_, _, _, ?_, ⟨i + 1, { b with nw := b.nw.set a (ds[i].2.2, b.nw[a].2 + 1) }, cs ++ [0], rfl, by omega, st_step hst hi1 hdo, ok_do hok hd hdo, by simp; omega, rfl, rfl⟩, by omega⟩
                exact turn [some 0, some 1, some 2, some 3, some 4, some 5] rfl rfl rfl ⟨⟨_, rfl, .cons (tr_mun rfl (by first | rfl | (simp; done) | (simp; omega) | (rw [bg_l (by omega)]))) (.cons (tr_mun rfl (by first | rfl | (simp; done) | (simp; omega) | (rw [bg_l (by omega)]))) (.cons (tr_mun rfl (by first | rfl | (simp; done) | (simp; omega) | (rw [bg_l (by omega)]))) (.cons (tr_mun rfl (by first | rfl | (simp; done) | (simp; omega) | (rw [bg_l (by omega)]))) (.cons (tr_mun rfl (by first | rfl | (simp; done) | (simp; omega) | (rw [bg_l (by omega)]))) (.cons tr_v (.cons tr_sl .nil))))))⟩, ⟨_, rfl, trc_flat pe_sc rfl⟩, ⟨_, rfl, trc_flat pe_sc rfl⟩, ⟨_, rfl, trc_flat pe_sc rfl⟩, ⟨_, rfl, trc_flat int_sc rfl⟩, ⟨_, rfl, trc_flat nce_sc rfl⟩, trivial⟩ ⟨tr_pt rfl, (tr_i (cz_eq rfl)), tr_sl, tr_v, tr_v, trivial⟩
              · skip
                exact absurd (by decide) h10
            · skip
              refine v_assign rfl ?_
              refine v_nil ?_
              refine q_n ?_
              refine w_f rfl ?_
              refine w_seq ?_
              refine w_reg rfl ?_
              refine v_eql lay2 rfl rfl (fun h11 => ?_) (fun h11 => ?_)
              · skip
                have hk2 := h11
                have k2 : a < b.ps.length := e3 (by omega)
                have k1 : a < b.nw.length := by omega
                have k3 : a < b.sv.length := by omega
                have hve := hok.ve _ (List.getElem_mem k1)
                refine v_assign rfl ?_
                refine v_nil ?_
                refine q_n ?_
                refine w_t rfl ?_
                refine w_seq ?_
                refine w_draw [0, 1, 3, 7, 15, 0, 32, 127, 255, 0, 1023] [⟨0, 0, []⟩, ⟨1, 0, []⟩, ⟨2, 0, []⟩, ⟨3, 0, []⟩, ⟨4, 0, []⟩, ⟨5, 0, []⟩, ⟨6, 0, []⟩, ⟨7, 0, []⟩, ⟨8, 0, []⟩, ⟨9, 1, [4, 6, 8]⟩, ⟨10, 1, []⟩] rfl rfl ?_
                refine d_q rfl rfl rfl rfl rfl ?_
                refine v_move rfl ?_
                refine v_nil ?_
                refine d_q rfl rfl rfl rfl rfl ?_
                refine v_nil_pt rfl ?_
                refine v_nil ?_
                refine d_q rfl rfl rfl rfl rfl ?_
                refine v_fa_pt (off' := 0) lay94 rfl rfl rfl ?_
                refine v_nil ?_
                refine d_q rfl rfl rfl rfl rfl ?_
                refine v_fa_pt (off' := 0) lay64 rfl rfl rfl ?_
                refine v_nil ?_
                refine d_q rfl rfl rfl rfl rfl ?_
                refine v_load_pt (.c _) lay61 rfl rfl rfl rfl ?_
                refine v_nil ?_
                refine d_q rfl rfl rfl rfl rfl ?_
                refine v_fa_pt (off' := 1) lay25 rfl rfl rfl ?_
                refine v_nil ?_
                refine d_q rfl rfl rfl rfl rfl ?_
                refine v_load_pt (.c _) lay2 rfl rfl rfl rfl ?_
                refine v_nil ?_
                refine d_q rfl rfl rfl rfl rfl ?_
                refine v_idx_mu_e (k := 2) (off := 0) (a) lay61 lay46 rfl rfl rfl (ha) (by omega) ?_
                refine v_nil ?_
                refine d_q rfl rfl rfl rfl rfl ?_
                refine v_load_flat a 0 (.agg [.v _, .v _]) pe_len lay46 rfl rfl (by omega) (by first | omega | (simp; omega)) rfl rfl ?_
                refine v_nil ?_
                refine d_e rfl rfl rfl ?_
                refine v_alloc (m := 8) (H' := [_, _, _, _, _, _, _, _, ⟨[.v _, .v _], 46, true⟩]) lay46 rfl rfl ?_
                refine v_nil ⟨⟨ag_load_flat a 0 (.agg [.v _, .v _]) pe_len lay46 rfl rfl (by omega) (by first | omega | (simp; omega)) rfl rfl, ⟨ag_load_pt (.c _) lay2 rfl rfl rfl rfl, ⟨ag_load_pt (.c _) lay61 rfl rfl rfl rfl, trivial⟩⟩⟩, ?_⟩
                refine d_e rfl rfl rfl ?_
                refine v_store (H' := [_, _, _, _, _, _, _, _, ⟨[_, _], 46, true⟩]) lay46 rfl rfl rfl rfl rfl rfl ?_
                refine v_nil ⟨again_nil, ?_⟩
                refine d_nil ?_
                refine q_n ?_
                refine w_draw [0, 0, 2, 6, 14, 30, 0, 64, 0, 256, 0, 1024, 4032, 8128, 16382, 32767, 65535, 131071, 262143] [⟨0, 0, []⟩, ⟨1, 0, []⟩, ⟨2, 0, []⟩, ⟨3, 0, []⟩, ⟨4, 0, []⟩, ⟨5, 0, []⟩, ⟨6, 0, []⟩, ⟨7, 0, []⟩, ⟨8, 0, []⟩, ⟨9, 0, []⟩, ⟨10, 0, []⟩, ⟨11, 0, []⟩, ⟨12, 0, []⟩, ⟨13, 2, []⟩, ⟨14, 1, []⟩, ⟨15, 0, []⟩, ⟨16, 0, []⟩, ⟨17, 0, []⟩, ⟨18, 1, []⟩] rfl rfl ?_
                refine d_q rfl rfl rfl rfl rfl ?_
                refine v_move rfl ?_
                refine v_nil ?_
                refine d_q rfl rfl rfl rfl rfl ?_
                refine v_move rfl ?_
                refine v_nil ?_
                refine d_q rfl rfl rfl rfl rfl ?_
                refine v_nil_pt rfl ?_
                refine v_nil ?_
                refine d_q rfl rfl rfl rfl rfl ?_
                refine v_fa_pt (off' := 0) lay94 rfl rfl rfl ?_
                refine v_nil ?_
                refine d_q rfl rfl rfl rfl rfl ?_
                refine v_fa_pt (off' := 4) lay64 rfl rfl rfl ?_
                refine v_nil ?_
                refine d_q rfl rfl rfl rfl rfl ?_
                refine v_load_pt (.c _) lay62 rfl rfl rfl rfl ?_
                refine v_nil ?_
                refine d_q rfl rfl rfl rfl rfl ?_
                refine v_fa_pt (off' := 1) lay25 rfl rfl rfl ?_
                refine v_nil ?_
                refine d_q rfl rfl rfl rfl rfl ?_
                refine v_load_pt (.c _) lay2 rfl rfl rfl rfl ?_
                refine v_nil ?_
                refine d_q rfl rfl rfl rfl rfl ?_
                refine v_fa_pt (off' := 0) lay46 rfl rfl rfl ?_
                refine v_nil ?_
                refine d_q rfl rfl rfl rfl rfl ?_
                refine v_load_pt (.c _) lay2 rfl rfl rfl rfl ?_
                refine v_nil ?_
                refine d_q rfl rfl rfl rfl rfl ?_
                refine v_fa_pt (off' := 1) lay46 rfl rfl rfl ?_
                refine v_nil ?_
                refine d_q rfl rfl rfl rfl rfl ?_
                refine v_load_pt (.c _) lay2 rfl rfl rfl rfl ?_
                refine v_nil ?_
                refine d_q rfl rfl rfl rfl rfl ?_
                refine v_build [(0, 1), (1, 1), (2, 1), (3, 1)] [.v _, .v _, .v _, .v _] lay101 rfl rfl ?_
                refine v_nil ?_
                refine d_z (.c (.sl true 1 4 (flat nce [(false, ds[i].2.1, b.nw[a].1, b.nw[a].2)]))) rfl rfl rfl ?_
                refine d_e rfl rfl rfl ?_
                refine v_app_flat_sl (H' := [_, _, _, _, _, _, _, _, _, _]) nce_sc nce_len lay62 lay101 rfl rfl (by first | rfl | (simp; done) | (simp; omega) | omega | (rw [bg_l (by omega)])) rfl rfl rfl (by unfold maxLen; simp only []; omega) rfl rfl ?_
                refine v_nil ⟨again_nil, ?_⟩
                refine d_q rfl rfl rfl rfl rfl ?_
                refine v_nil_pt rfl ?_
                refine v_nil ?_
                refine d_q rfl rfl rfl rfl rfl ?_
                refine v_fa_pt (off' := 0) lay94 rfl rfl rfl ?_
                refine v_nil ?_
                refine d_q rfl rfl rfl rfl rfl ?_
                refine v_fa_pt (off' := 4) lay64 rfl rfl rfl ?_
                refine v_nil ?_
                refine d_e rfl rfl rfl ?_
                refine v_store (H' := [⟨[_, _, _, _, _, _, _], 94, true⟩, _, _, _, _, _, _, _, _, _]) lay62 rfl rfl rfl rfl rfl rfl ?_
                refine v_nil ⟨again_nil, ?_⟩
                refine d_nil ?_
                refine q_bn ?_
                refine q_n ?_
                refine w_seq ?_
                refine w_reg rfl ?_
                refine v_assign (c := .v (.int .i64 0)) rfl ?_
                refine v_nil ?_
                refine q_n ?_
                refine w_ret ?_
                refine r_r rfl ?_
                refine v_eql lay2 rfl rfl (fun h13 => ?_) (fun h13 => ?_)
                · skip
                  refine v_nil ?_
                  refine q_n ?_
                  refine w_t rfl ?_
                  refine w_reg rfl ?_
                  refine v_move rfl ?_
                  refine v_add lay2 rfl rfl (i64r (by omega)) ?_
                  refine v_assign rfl ?_
                  refine v_nil ?_
                  refine q_bn ?_
                  refine q_n ?_
                  refine w_reg rfl ?_
                  refine v_add lay3 rfl rfl (i64r (by omega)) ?_
                  refine v_move rfl ?_
                  refine v_nil ?_
                  refine q_n ?_
                  have hdo : doB p b ds[i] = ({ b with wr := b.wr ++ [(false, ds[i].2.1, b.nw[a].1, b.nw[a].2)] }, 0) := do_send hk2 ha k2 k1 (e5 hk2)
                  refine ⟨_, _, _, ?_, ⟨i + 1, { b with wr := b.wr ++ [(false, ds[i].2.1, b.nw[a].1, b.nw[a].2)] }, cs ++ [0], rfl, by omega, st_step hst hi1 hdo, ok_do hok hd hdo, by simp; omega, rfl, rfl⟩, by omega⟩
                  exact turn [some 0, some 1, some 2, some 3, some 4, some 9] rfl rfl rfl ⟨⟨_, rfl, .cons (tr_mun rfl (by first | rfl | (simp; done) | (simp; omega) | (rw [bg_l (by omega)]))) (.cons (tr_mun rfl (by first | rfl | (simp; done) | (simp; omega) | (rw [bg_l (by omega)]))) (.cons (tr_mun rfl (by first | rfl | (simp; done) | (simp; omega) | (rw [bg_l (by omega)]))) (.cons (tr_mun rfl (by first | rfl | (simp; done) | (simp; omega) | (rw [bg_l (by omega)]))) (.cons (tr_mun rfl (by first | rfl | (simp; done) | (simp; omega) | (rw [bg_l (by omega)]))) (.cons tr_v (.cons tr_sl .nil))))))⟩, ⟨_, rfl, trc_flat pe_sc rfl⟩, ⟨_, rfl, trc_flat pe_sc rfl⟩, ⟨_, rfl, trc_flat pe_sc rfl⟩, ⟨_, rfl, trc_flat int_sc rfl⟩, ⟨_, rfl, trc_flat nce_sc rfl⟩, trivial⟩ ⟨tr_pt rfl, (tr_i (cz_eq rfl)), tr_sl, tr_v, tr_v, trivial⟩
                · skip
                  exact absurd (by decide) h13
              · skip
                refine v_assign rfl ?_
                refine v_nil ?_
                refine q_n ?_
                refine w_f rfl ?_
                refine w_seq ?_
                refine w_reg rfl ?_
                refine v_eql lay2 rfl rfl (fun h14 => ?_) (fun h14 => ?_)
                · skip
                  have hk3 := h14
                  have k4 : a < b.wr.length := e1 (by omega)
                  obtain ⟨pn, hpn⟩ : ∃ pn : Nat, b.wr[a].2.1 = pn := Int.eq_ofNat_of_zero_le (hok.po _ (List.getElem_mem k4)).1
                  have hp2 := (hok.po _ (List.getElem_mem k4)).2
                  have k5 : pn < b.kn.length := by omega
                  have k6 : pn < b.ps.length := by omega
                  refine v_assign rfl ?_
                  refine v_nil ?_
                  refine q_n ?_
                  refine w_t rfl ?_
                  refine w_reg rfl ?_
                  refine v_move rfl ?_
                  refine v_move rfl ?_
                  refine v_fa_pt (off' := 1) lay25 rfl rfl rfl ?_
                  refine v_load_pt (.c _) lay2 rfl rfl rfl rfl ?_
                  refine v_inl (n := 28) (drawD_ok X) (fun _ _ => Go.Proofs.Try.call92 _ _) Go.Proofs.Try.func92 rfl rfl rfl rfl ?_
                  refine w_seq ?_
                  refine w_reg rfl ?_
                  refine v_alloc (m := 8) (H' := [_, _, _, _, _, _, _, _, ⟨[.v _, .v _, .v _, .v _], 101, true⟩]) lay101 rfl rfl ?_
                  refine v_nil ?_
                  refine q_n ?_
                  refine w_seq ?_
                  refine w_reg rfl ?_
                  refine v_move rfl ?_
                  refine v_nil_pt rfl ?_
                  refine v_fa_pt (off' := 0) lay94 rfl rfl rfl ?_
                  refine v_fa_pt (off' := 4) lay64 rfl rfl rfl ?_
                  refine v_load_pt (.c _) lay62 rfl rfl rfl rfl ?_
                  refine v_move rfl ?_
                  refine v_idx_mu_e (k := 4) (off := 0) (a) lay62 lay101 rfl rfl rfl (ha) (by omega) ?_
                  refine v_load_flat a 0 (.agg [.v _, .v _, .v _, .v _]) nce_len lay101 rfl rfl (by omega) (by first | omega | (simp; omega)) rfl rfl ?_
                  refine v_alloc (m := 9) (H' := [_, _, _, _, _, _, _, _, _, ⟨[.v _, .v _, .v _, .v _], 101, true⟩]) lay101 rfl rfl ?_
                  refine v_store (H' := [_, _, _, _, _, _, _, _, _, ⟨[_, _, _, _], 101, true⟩]) lay101 rfl rfl rfl rfl rfl rfl ?_
                  refine v_nil ?_
                  refine q_n ?_
                  refine w_seq ?_
                  refine w_reg rfl ?_
                  refine v_move rfl ?_
                  refine v_move rfl ?_
                  refine v_nil_pt rfl ?_
                  refine v_fa_pt (off' := 0) lay94 rfl rfl rfl ?_
                  refine v_fa_pt (off' := 4) lay64 rfl rfl rfl ?_
                  refine v_load_pt (.c _) lay62 rfl rfl rfl rfl ?_
                  refine v_move rfl ?_
                  refine v_move rfl ?_
                  refine v_add lay3 rfl rfl (i64r (by omega)) ?_
                  refine v_del (ys := b.wr) (i := a) (H' := [_, _, _, _, _, _, _, _, _, _, _]) rfl rfl (by omega) ha rfl rfl rfl rfl ?_
                  refine v_nil_pt rfl ?_
                  refine v_fa_pt (off' := 0) lay94 rfl rfl rfl ?_
                  refine v_fa_pt (off' := 4) lay64 rfl rfl rfl ?_
                  refine v_store (H' := [⟨[_, _, _, _, _, _, _], 94, true⟩, _, _, _, _, _, _, _, _, _, _]) lay62 rfl rfl rfl rfl rfl rfl ?_
                  refine v_nil ?_
                  refine q_n ?_
                  refine w_seq ?_
                  refine w_reg rfl ?_
                  refine v_load_pt (.agg [_, _, _, _]) lay101 rfl rfl rfl rfl ?_
                  refine v_store (H' := [_, _, _, _, _, _, _, _, ⟨[_, _, _, _], 101, true⟩, _, _]) lay101 rfl rfl rfl rfl rfl rfl ?_
                  refine v_nil ?_
                  refine q_n ?_
                  refine w_ret ?_
                  refine r_r rfl ?_
                  refine v_inl (n := 71) (drawD_ok X) (fun _ _ => Go.Proofs.Try.call91 _ _) Go.Proofs.Try.func91 rfl rfl rfl rfl ?_
                  refine w_seq ?_
                  refine w_reg rfl ?_
                  refine v_box (m := 11) (H' := [_, _, _, _, _, _, _, _, _, _, _, _]) lay101 rfl rfl rfl ?_
                  refine v_nil ?_
                  refine q_n ?_
                  refine w_seq ?_
                  refine w_seq ?_
                  refine w_reg rfl ?_
                  refine v_fa_pt (off' := 0) lay101 rfl rfl rfl ?_
                  refine v_load_ptb lay4 rfl rfl rfl rfl (fun h16 => ?_) (fun h16 => ?_)
                  · skip
                    have hbk := h16
                    refine v_nil ?_
                    refine q_n ?_
                    refine w_t rfl ?_
                    refine w_seq ?_
                    refine w_draw [0, 1, 3, 7, 15, 0, 32, 0, 128, 384, 896, 1920, 0, 4096, 16256, 32640, 0, 65536, 262016, 524287, 1048575] [⟨0, 0, []⟩, ⟨1, 0, []⟩, ⟨2, 0, []⟩, ⟨3, 0, []⟩, ⟨4, 0, []⟩, ⟨5, 0, []⟩, ⟨6, 0, []⟩, ⟨7, 0, []⟩, ⟨8, 0, []⟩, ⟨9, 0, []⟩, ⟨10, 0, []⟩, ⟨11, 0, []⟩, ⟨12, 0, []⟩, ⟨13, 0, []⟩, ⟨14, 0, []⟩, ⟨15, 0, []⟩, ⟨16, 0, []⟩, ⟨17, 0, []⟩, ⟨18, 0, []⟩, ⟨19, 0, []⟩, ⟨20, 1, []⟩] rfl rfl ?_
                    refine d_q rfl rfl rfl rfl rfl ?_
                    refine v_move rfl ?_
                    refine v_nil ?_
                    refine d_q rfl rfl rfl rfl rfl ?_
                    refine v_nil_pt rfl ?_
                    refine v_nil ?_
                    refine d_q rfl rfl rfl rfl rfl ?_
                    refine v_fa_pt (off' := 0) lay94 rfl rfl rfl ?_
                    refine v_nil ?_
                    refine d_q rfl rfl rfl rfl rfl ?_
                    refine v_fa_pt (off' := 3) lay64 rfl rfl rfl ?_
                    refine v_nil ?_
                    refine d_q rfl rfl rfl rfl rfl ?_
                    refine v_load_pt (.c _) lay28 rfl rfl rfl rfl ?_
                    refine v_nil ?_
                    refine d_q rfl rfl rfl rfl rfl ?_
                    refine v_fa_pt (off' := 1) lay101 rfl rfl rfl ?_
                    refine v_nil ?_
                    refine d_q rfl rfl rfl rfl rfl ?_
                    refine v_load_pt (.c _) lay2 rfl rfl rfl rfl ?_
                    refine v_nil ?_
                    refine d_q rfl rfl rfl rfl rfl ?_
                    refine v_move rfl ?_
                    refine v_nil ?_
                    refine d_q rfl rfl rfl rfl rfl ?_
                    refine v_nil_pt rfl ?_
                    refine v_nil ?_
                    refine d_q rfl rfl rfl rfl rfl ?_
                    refine v_fa_pt (off' := 0) lay94 rfl rfl rfl ?_
                    refine v_nil ?_
                    refine d_q rfl rfl rfl rfl rfl ?_
                    refine v_fa_pt (off' := 3) lay64 rfl rfl rfl ?_
                    refine v_nil ?_
                    refine d_q rfl rfl rfl rfl rfl ?_
                    refine v_load_pt (.c _) lay28 rfl rfl rfl rfl ?_
                    refine v_nil ?_
                    refine d_q rfl rfl rfl rfl rfl ?_
                    refine v_fa_pt (off' := 1) lay101 rfl rfl rfl ?_
                    refine v_nil ?_
                    refine d_q rfl rfl rfl rfl rfl ?_
                    refine v_load_pt (.c _) lay2 rfl rfl rfl rfl ?_
                    refine v_nil ?_
                    refine d_q rfl rfl rfl rfl rfl ?_
                    refine v_idx_mu_e (k := 1) (off := 0) (pn) lay28 lay2 rfl rfl rfl (hpn) (by omega) ?_
                    refine v_nil ?_
                    refine d_q rfl rfl rfl rfl rfl ?_
                    refine v_load_flat pn 0 (.c (.v _)) int_len lay2 rfl rfl (by omega) (by first | omega | (simp; omega)) rfl rfl ?_
                    refine v_nil ?_
                    refine d_q rfl rfl rfl rfl rfl ?_
                    refine v_fa_pt (off' := 3) lay101 rfl rfl rfl ?_
                    refine v_nil ?_
                    refine d_q rfl rfl rfl rfl rfl ?_
                    refine v_load_pt (.c _) lay2 rfl rfl rfl rfl ?_
                    refine v_nil ?_
                    refine d_q rfl rfl rfl rfl rfl ?_
                    refine v_max rfl rfl ?_
                    refine v_nil ?_
                    refine d_q rfl rfl rfl rfl rfl ?_
                    refine v_idx_mu_e (k := 1) (off := 0) (pn) lay28 lay2 rfl rfl rfl (hpn) (by omega) ?_
                    refine v_nil ?_
                    refine d_e rfl rfl rfl ?_
                    refine v_store_flat (H' := [_, _, _, _, _, _, _, _, _, _, _, _]) pn 0 (mx b.kn[pn] b.wr[a].2.2.2) int_len lay2 rfl rfl rfl (by omega) (by first | omega | (simp; omega)) rfl rfl (rfl) rfl ?_
                    refine v_nil ⟨again_nil, ?_⟩
                    refine d_nil ?_
                    refine q_n ?_
                    refine w_ret (q_r ?_)
                    refine r_r rfl ?_
                    refine v_nil ?_
                    refine q_bn ?_
                    refine q_n ?_
                    refine w_seq ?_
                    refine w_reg rfl ?_
                    refine v_assign (c := .v (.int .i64 0)) rfl ?_
                    refine v_nil ?_
                    refine q_n ?_
                    refine w_ret ?_
                    refine r_r rfl ?_
                    refine v_eql lay2 rfl rfl (fun h19 => ?_) (fun h19 => ?_)
                    · skip
                      refine v_nil ?_
                      refine q_n ?_
                      refine w_t rfl ?_
                      refine w_reg rfl ?_
                      refine v_move rfl ?_
                      refine v_add lay2 rfl rfl (i64r (by omega)) ?_
                      refine v_assign rfl ?_
                      refine v_nil ?_
                      refine q_bn ?_
                      refine q_n ?_
                      refine w_reg rfl ?_
                      refine v_add lay3 rfl rfl (i64r (by omega)) ?_
                      refine v_move rfl ?_
                      refine v_nil ?_
                      refine q_n ?_
                      have hdo : doB p b ds[i] = ({ b with kn := b.kn.set pn (mx b.kn[pn] b.wr[a].2.2.2), wr := b.wr.take a ++ b.wr.drop (a + 1) }, 0) := do_deliver hk3 ha k4 (come_back (b := cutW b a) hbk hpn k5)
                      refine ⟨_, _, _, ?_, ⟨i + 1, { b with kn := b.kn.set pn (mx b.kn[pn] b.wr[a].2.2.2), wr := b.wr.take a ++ b.wr.drop (a + 1) }, cs ++ [0], rfl, by omega, st_step hst hi1 hdo, ok_do hok hd hdo, by simp; omega, rfl, rfl⟩, by omega⟩
                      exact turn [some 0, some 1, some 2, some 3, some 4, some 10] rfl rfl rfl ⟨⟨_, rfl, .cons (tr_mun rfl (by first | rfl | (simp; done) | (simp; omega) | (rw [bg_l (by omega)]))) (.cons (tr_mun rfl (by first | rfl | (simp; done) | (simp; omega) | (rw [bg_l (by omega)]))) (.cons (tr_mun rfl (by first | rfl | (simp; done) | (simp; omega) | (rw [bg_l (by omega)]))) (.cons (tr_mun rfl (by first | rfl | (simp; done) | (simp; omega) | (rw [bg_l (by omega)]))) (.cons (tr_mun rfl (by first | rfl | (simp; done) | (simp; omega) | (rw [bg_l (by omega)]))) (.cons tr_v (.cons tr_sl .nil))))))⟩, ⟨_, rfl, trc_flat pe_sc rfl⟩, ⟨_, rfl, trc_flat pe_sc rfl⟩, ⟨_, rfl, trc_flat pe_sc rfl⟩, ⟨_, rfl, trc_flat int_sc rfl⟩, ⟨_, rfl, trc_flat nce_sc rfl⟩, trivial⟩ ⟨tr_pt rfl, (tr_i (cz_eq rfl)), tr_sl, tr_v, tr_v, trivial⟩
                    · skip
                      exact absurd (by decide) h19
                  · skip
                    have hbk := h16
                    refine v_nil ?_
                    refine q_n ?_
                    refine w_f rfl ?_
                    refine w_skip ?_
                    refine q_n ?_
                    refine w_seq ?_
                    refine w_draw [0, 1, 3, 7, 15, 0, 32, 127, 255] [⟨0, 0, []⟩, ⟨1, 0, []⟩, ⟨2, 0, []⟩, ⟨3, 0, []⟩, ⟨4, 0, []⟩, ⟨5, 0, []⟩, ⟨6, 0, []⟩, ⟨7, 0, []⟩, ⟨8, 0, []⟩] rfl rfl ?_
                    refine d_q rfl rfl rfl rfl rfl ?_
                    refine v_move rfl ?_
                    refine v_nil ?_
                    refine d_q rfl rfl rfl rfl rfl ?_
                    refine v_nil_pt rfl ?_
                    refine v_nil ?_
                    refine d_q rfl rfl rfl rfl rfl ?_
                    refine v_fa_pt (off' := 0) lay94 rfl rfl rfl ?_
                    refine v_nil ?_
                    refine d_q rfl rfl rfl rfl rfl ?_
                    refine v_fa_pt (off' := 1) lay64 rfl rfl rfl ?_
                    refine v_nil ?_
                    refine d_q rfl rfl rfl rfl rfl ?_
                    refine v_load_pt (.c _) lay61 rfl rfl rfl rfl ?_
                    refine v_nil ?_
                    refine d_q rfl rfl rfl rfl rfl ?_
                    refine v_fa_pt (off' := 1) lay101 rfl rfl rfl ?_
                    refine v_nil ?_
                    refine d_q rfl rfl rfl rfl rfl ?_
                    refine v_load_pt (.c _) lay2 rfl rfl rfl rfl ?_
                    refine v_nil ?_
                    refine d_q rfl rfl rfl rfl rfl ?_
                    refine v_idx_mu_e (k := 2) (off := 0) (pn) lay61 lay46 rfl rfl rfl (hpn) (by omega) ?_
                    refine v_nil ?_
                    refine d_q rfl rfl rfl rfl rfl ?_
                    refine v_assign rfl ?_
                    refine v_nil ?_
                    refine d_nil ?_
                    refine q_n ?_
                    refine w_seq ?_
                    refine w_seq ?_
                    refine w_draw [0, 1, 0, 4, 12, 28, 63] [⟨0, 0, []⟩, ⟨1, 0, []⟩, ⟨2, 0, []⟩, ⟨3, 0, []⟩, ⟨4, 0, []⟩, ⟨5, 0, []⟩, ⟨6, 0, []⟩] rfl rfl ?_
                    refine d_q rfl rfl rfl rfl rfl ?_
                    refine v_fa_pt (off' := 3) lay101 rfl rfl rfl ?_
                    refine v_nil ?_
                    refine d_q rfl rfl rfl rfl rfl ?_
                    refine v_load_pt (.c _) lay2 rfl rfl rfl rfl ?_
                    refine v_nil ?_
                    refine d_q rfl rfl rfl rfl rfl ?_
                    refine v_move rfl ?_
                    refine v_nil ?_
                    refine d_q rfl rfl rfl rfl rfl ?_
                    refine v_nil_pt rfl ?_
                    refine v_nil ?_
                    refine d_q rfl rfl rfl rfl rfl ?_
                    refine v_fa_pt (off' := _) lay46 rfl rfl rfl ?_
                    refine v_nil ?_
                    refine d_q rfl rfl rfl rfl rfl ?_
                    refine v_load_flat pn 1 (.c (.v _)) pe_len lay2 rfl rfl (by omega) (by first | omega | (simp; omega)) rfl rfl ?_
                    refine v_nil ?_
                    refine d_q rfl rfl rfl rfl rfl ?_
                    refine v_gtr lay2 rfl rfl (fun h21 => ?_) (fun h21 => ?_)
                    · skip
                      have hnv := h21
                      refine v_nil ?_
                      refine d_nil ?_
                      refine q_n ?_
                      refine w_t rfl ?_
                      refine w_reg rfl ?_
                      refine v_move rfl ?_
                      refine v_fa_pt (off' := 2) lay101 rfl rfl rfl ?_
                      refine v_load_pt (.c _) lay2 rfl rfl rfl rfl ?_
                      refine v_fa_pt (off' := 3) lay101 rfl rfl rfl ?_
                      refine v_load_pt (.c _) lay2 rfl rfl rfl rfl ?_
                      refine v_build [(0, 1), (1, 1)] [.v _, .v _] lay46 rfl rfl ?_
                      refine v_nil_pt rfl ?_
                      refine v_store_flat (H' := [_, _, _, _, _, _, _, _, _, _, _, _]) pn 0 ((b.wr[a].2.2.1, b.wr[a].2.2.2)) pe_len lay46 rfl rfl rfl (by omega) (by first | omega | (simp; omega)) rfl rfl (rfl) rfl ?_
                      refine v_nil ?_
                      refine q_n ?_
                      refine w_draw [0, 0, 2, 6, 14, 30, 0, 64, 0, 256, 768, 1792, 0, 4096, 12288, 28672, 65472, 131008, 262142, 524287, 1048575, 2097151, 4194303] [⟨0, 0, []⟩, ⟨1, 0, []⟩, ⟨2, 0, []⟩, ⟨3, 0, []⟩, ⟨4, 0, []⟩, ⟨5, 0, []⟩, ⟨6, 0, []⟩, ⟨7, 0, []⟩, ⟨8, 0, []⟩, ⟨9, 0, []⟩, ⟨10, 0, []⟩, ⟨11, 0, []⟩, ⟨12, 0, []⟩, ⟨13, 0, []⟩, ⟨14, 0, []⟩, ⟨15, 0, []⟩, ⟨16, 0, []⟩, ⟨17, 2, []⟩, ⟨18, 1, []⟩, ⟨19, 0, []⟩, ⟨20, 0, []⟩, ⟨21, 0, []⟩, ⟨22, 1, []⟩] rfl rfl ?_
                      refine d_q rfl rfl rfl rfl rfl ?_
                      refine v_move rfl ?_
                      refine v_nil ?_
                      refine d_q rfl rfl rfl rfl rfl ?_
                      refine v_move rfl ?_
                      refine v_nil ?_
                      refine d_q rfl rfl rfl rfl rfl ?_
                      refine v_nil_pt rfl ?_
                      refine v_nil ?_
                      refine d_q rfl rfl rfl rfl rfl ?_
                      refine v_fa_pt (off' := 0) lay94 rfl rfl rfl ?_
                      refine v_nil ?_
                      refine d_q rfl rfl rfl rfl rfl ?_
                      refine v_fa_pt (off' := 4) lay64 rfl rfl rfl ?_
                      refine v_nil ?_
                      refine d_q rfl rfl rfl rfl rfl ?_
                      refine v_load_pt (.c _) lay62 rfl rfl rfl rfl ?_
                      refine v_nil ?_
                      refine d_q rfl rfl rfl rfl rfl ?_
                      refine v_fa_pt (off' := 1) lay101 rfl rfl rfl ?_
                      refine v_nil ?_
                      refine d_q rfl rfl rfl rfl rfl ?_
                      refine v_load_pt (.c _) lay2 rfl rfl rfl rfl ?_
                      refine v_nil ?_
                      refine d_q rfl rfl rfl rfl rfl ?_
                      refine v_move rfl ?_
                      refine v_nil ?_
                      refine d_q rfl rfl rfl rfl rfl ?_
                      refine v_nil_pt rfl ?_
                      refine v_nil ?_
                      refine d_q rfl rfl rfl rfl rfl ?_
                      refine v_fa_pt (off' := _) lay46 rfl rfl rfl ?_
                      refine v_nil ?_
                      refine d_q rfl rfl rfl rfl rfl ?_
                      refine v_load_flat pn 0 (.c (.v _)) pe_len lay2 rfl rfl (by omega) (by first | omega | (simp; omega)) rfl rfl ?_
                      refine v_nil ?_
                      refine d_q rfl rfl rfl rfl rfl ?_
                      refine v_move rfl ?_
                      refine v_nil ?_
                      refine d_q rfl rfl rfl rfl rfl ?_
                      refine v_nil_pt rfl ?_
                      refine v_nil ?_
                      refine d_q rfl rfl rfl rfl rfl ?_
                      refine v_fa_pt (off' := _) lay46 rfl rfl rfl ?_
                      refine v_nil ?_
                      refine d_q rfl rfl rfl rfl rfl ?_
                      refine v_load_flat pn 1 (.c (.v _)) pe_len lay2 rfl rfl (by omega) (by first | omega | (simp; omega)) rfl rfl ?_
                      refine v_nil ?_
                      refine d_q rfl rfl rfl rfl rfl ?_
                      refine v_build [(0, 1), (1, 1), (2, 1), (3, 1)] [.v _, .v _, .v _, .v _] lay101 rfl rfl ?_
                      refine v_nil ?_
                      refine d_z (.c (.sl true 1 4 (flat nce [(true, b.wr[a].2.1, ((b.ps.set pn (b.wr[a].2.2.1, b.wr[a].2.2.2))[pn]'(by simpa using k6)).1, ((b.ps.set pn (b.wr[a].2.2.1, b.wr[a].2.2.2))[pn]'(by simpa using k6)).2)]))) rfl rfl rfl ?_
                      refine d_e rfl rfl rfl ?_
                      refine v_app_flat_sl (H' := [_, _, _, _, _, _, _, _, _, _, _, _, _]) nce_sc nce_len lay62 lay101 rfl rfl (by first | rfl | (simp; done) | (simp; omega) | omega | (rw [bg_l (by omega)])) rfl rfl rfl (by unfold maxLen; simp only []; omega) rfl rfl ?_
                      refine v_nil ⟨again_nil, ?_⟩
                      refine d_q rfl rfl rfl rfl rfl ?_
                      refine v_nil_pt rfl ?_
                      refine v_nil ?_
                      refine d_q rfl rfl rfl rfl rfl ?_
                      refine v_fa_pt (off' := 0) lay94 rfl rfl rfl ?_
                      refine v_nil ?_
                      refine d_q rfl rfl rfl rfl rfl ?_
                      refine v_fa_pt (off' := 4) lay64 rfl rfl rfl ?_
                      refine v_nil ?_
                      refine d_e rfl rfl rfl ?_
                      refine v_store (H' := [⟨[_, _, _, _, _, _, _], 94, true⟩, _, _, _, _, _, _, _, _, _, _, _, _]) lay62 rfl rfl rfl rfl rfl rfl ?_
                      refine v_nil ⟨again_nil, ?_⟩
                      refine d_nil ?_
                      refine r_n rfl ?_
                      refine v_nil ?_
                      refine q_bn ?_
                      refine q_n ?_
                      refine w_seq ?_
                      refine w_reg rfl ?_
                      refine v_assign (c := .v (.int .i64 0)) rfl ?_
                      refine v_nil ?_
                      refine q_n ?_
                      refine w_ret ?_
                      refine r_r rfl ?_
                      refine v_eql lay2 rfl rfl (fun h22 => ?_) (fun h22 => ?_)
                      · skip
                        refine v_nil ?_
                        refine q_n ?_
                        refine w_t rfl ?_
                        refine w_reg rfl ?_
                        refine v_move rfl ?_
                        refine v_add lay2 rfl rfl (i64r (by omega)) ?_
                        refine v_assign rfl ?_
                        refine v_nil ?_
                        refine q_bn ?_
                        refine q_n ?_
                        refine w_reg rfl ?_
                        refine v_add lay3 rfl rfl (i64r (by omega)) ?_
                        refine v_move rfl ?_
                        refine v_nil ?_
                        refine q_n ?_
                        have hdo : doB p b ds[i] = ({ b with ps := b.ps.set pn (b.wr[a].2.2.1, b.wr[a].2.2.2), wr := (b.wr.take a ++ b.wr.drop (a + 1)) ++ [(true, b.wr[a].2.1, b.wr[a].2.2.1, b.wr[a].2.2.2)] }, 0) := do_deliver hk3 ha k4 (come_new (b := cutW b a) hbk hpn k6 hnv)
                        refine ⟨_, _, _, ?_, ⟨i + 1, { b with ps := b.ps.set pn (b.wr[a].2.2.1, b.wr[a].2.2.2), wr := (b.wr.take a ++ b.wr.drop (a + 1)) ++ [(true, b.wr[a].2.1, b.wr[a].2.2.1, b.wr[a].2.2.2)] }, cs ++ [0], rfl, by omega, st_step hst hi1 hdo, ok_do hok hd hdo, by simp; omega, rfl, rfl⟩, by omega⟩
                        exact turn [some 0, some 1, some 2, some 3, some 4, some 12] rfl rfl rfl ⟨⟨_, rfl, .cons (tr_mun rfl (by first | rfl | (simp; done) | (simp; omega) | (rw [bg_l (by omega)]))) (.cons (tr_mun rfl (by first | rfl | (simp; done) | (simp; omega) | (rw [bg_l (by omega)]))) (.cons (tr_mun rfl (by first | rfl | (simp; done) | (simp; omega) | (rw [bg_l (by omega)]))) (.cons (tr_mun rfl (by first | rfl | (simp; done) | (simp; omega) | (rw [bg_l (by omega)]))) (.cons (tr_mun rfl (by first | rfl | (simp; done) | (simp; omega) | (rw [bg_l (by omega)]))) (.cons tr_v (.cons tr_sl .nil))))))⟩, ⟨_, rfl, trc_flat pe_sc rfl⟩, ⟨_, rfl, trc_flat pe_sc rfl⟩, ⟨_, rfl, trc_flat pe_sc rfl⟩, ⟨_, rfl, trc_flat int_sc rfl⟩, ⟨_, rfl, trc_flat nce_sc (congrArg (flat nce) (by simp only [List.getElem_set_self]))⟩, trivial⟩ ⟨tr_pt rfl, (tr_i (cz_eq rfl)), tr_sl, tr_v, tr_v, trivial⟩
                      · skip
                        exact absurd (by decide) h22
                    · skip
                      have hnv := h21
                      refine v_nil ?_
                      refine d_nil ?_
                      refine q_n ?_
                      refine w_f rfl ?_
                      refine w_skip ?_
                      refine q_n ?_
                      refine w_draw [0, 0, 2, 6, 14, 30, 0, 64, 0, 256, 768, 1792, 0, 4096, 12288, 28672, 65472, 131008, 262142, 524287, 1048575, 2097151, 4194303] [⟨0, 0, []⟩, ⟨1, 0, []⟩, ⟨2, 0, []⟩, ⟨3, 0, []⟩, ⟨4, 0, []⟩, ⟨5, 0, []⟩, ⟨6, 0, []⟩, ⟨7, 0, []⟩, ⟨8, 0, []⟩, ⟨9, 0, []⟩, ⟨10, 0, []⟩, ⟨11, 0, []⟩, ⟨12, 0, []⟩, ⟨13, 0, []⟩, ⟨14, 0, []⟩, ⟨15, 0, []⟩, ⟨16, 0, []⟩, ⟨17, 2, []⟩, ⟨18, 1, []⟩, ⟨19, 0, []⟩, ⟨20, 0, []⟩, ⟨21, 0, []⟩, ⟨22, 1, []⟩] rfl rfl ?_
                      refine d_q rfl rfl rfl rfl rfl ?_
                      refine v_move rfl ?_
                      refine v_nil ?_
                      refine d_q rfl rfl rfl rfl rfl ?_
                      refine v_move rfl ?_
                      refine v_nil ?_
                      refine d_q rfl rfl rfl rfl rfl ?_
                      refine v_nil_pt rfl ?_
                      refine v_nil ?_
                      refine d_q rfl rfl rfl rfl rfl ?_
                      refine v_fa_pt (off' := 0) lay94 rfl rfl rfl ?_
                      refine v_nil ?_
                      refine d_q rfl rfl rfl rfl rfl ?_
                      refine v_fa_pt (off' := 4) lay64 rfl rfl rfl ?_
                      refine v_nil ?_
                      refine d_q rfl rfl rfl rfl rfl ?_
                      refine v_load_pt (.c _) lay62 rfl rfl rfl rfl ?_
                      refine v_nil ?_
                      refine d_q rfl rfl rfl rfl rfl ?_
                      refine v_fa_pt (off' := 1) lay101 rfl rfl rfl ?_
                      refine v_nil ?_
                      refine d_q rfl rfl rfl rfl rfl ?_
                      refine v_load_pt (.c _) lay2 rfl rfl rfl rfl ?_
                      refine v_nil ?_
                      refine d_q rfl rfl rfl rfl rfl ?_
                      refine v_move rfl ?_
                      refine v_nil ?_
                      refine d_q rfl rfl rfl rfl rfl ?_
                      refine v_nil_pt rfl ?_
                      refine v_nil ?_
                      refine d_q rfl rfl rfl rfl rfl ?_
                      refine v_fa_pt (off' := _) lay46 rfl rfl rfl ?_
                      refine v_nil ?_
                      refine d_q rfl rfl rfl rfl rfl ?_
                      refine v_load_flat pn 0 (.c (.v _)) pe_len lay2 rfl rfl (by omega) (by first | omega | (simp; omega)) rfl rfl ?_
                      refine v_nil ?_
                      refine d_q rfl rfl rfl rfl rfl ?_
                      refine v_move rfl ?_
                      refine v_nil ?_
                      refine d_q rfl rfl rfl rfl rfl ?_
                      refine v_nil_pt rfl ?_
                      refine v_nil ?_
                      refine d_q rfl rfl rfl rfl rfl ?_
                      refine v_fa_pt (off' := _) lay46 rfl rfl rfl ?_
                      refine v_nil ?_
                      refine d_q rfl rfl rfl rfl rfl ?_
                      refine v_load_flat pn 1 (.c (.v _)) pe_len lay2 rfl rfl (by omega) (by first | omega | (simp; omega)) rfl rfl ?_
                      refine v_nil ?_
                      refine d_q rfl rfl rfl rfl rfl ?_
                      refine v_build [(0, 1), (1, 1), (2, 1), (3, 1)] [.v _, .v _, .v _, .v _] lay101 rfl rfl ?_
                      refine v_nil ?_
                      refine d_z (.c (.sl true 1 4 (flat nce [(true, b.wr[a].2.1, b.ps[pn].1, b.ps[pn].2)]))) rfl rfl rfl ?_
                      refine d_e rfl rfl rfl ?_
                      refine v_app_flat_sl (H' := [_, _, _, _, _, _, _, _, _, _, _, _, _]) nce_sc nce_len lay62 lay101 rfl rfl (by first | rfl | (simp; done) | (simp; omega) | omega | (rw [bg_l (by omega)])) rfl rfl rfl (by unfold maxLen; simp only []; omega) rfl rfl ?_
                      refine v_nil ⟨again_nil, ?_⟩
                      refine d_q rfl rfl rfl rfl rfl ?_
                      refine v_nil_pt rfl ?_
                      refine v_nil ?_
                      refine d_q rfl rfl rfl rfl rfl ?_
                      refine v_fa_pt (off' := 0) lay94 rfl rfl rfl ?_
                      refine v_nil ?_
                      refine d_q rfl rfl rfl rfl rfl ?_
                      refine v_fa_pt (off' := 4) lay64 rfl rfl rfl ?_
                      refine v_nil ?_
                      refine d_e rfl rfl rfl ?_
                      refine v_store (H' := [⟨[_, _, _, _, _, _, _], 94, true⟩, _, _, _, _, _, _, _, _, _, _, _, _]) lay62 rfl rfl rfl rfl rfl rfl ?_
                      refine v_nil ⟨again_nil, ?_⟩
                      refine d_nil ?_
                      refine r_n rfl ?_
                      refine v_nil ?_
                      refine q_bn ?_
                      refine q_n ?_
                      refine w_seq ?_
                      refine w_reg rfl ?_
                      refine v_assign (c := .v (.int .i64 0)) rfl ?_
                      refine v_nil ?_
                      refine q_n ?_
                      refine w_ret ?_
                      refine r_r rfl ?_
                      refine v_eql lay2 rfl rfl (fun h23 => ?_) (fun h23 => ?_)
                      · skip
                        refine v_nil ?_
                        refine q_n ?_
                        refine w_t rfl ?_
                        refine w_reg rfl ?_
                        refine v_move rfl ?_
                        refine v_add lay2 rfl rfl (i64r (by omega)) ?_
                        refine v_assign rfl ?_
                        refine v_nil ?_
                        refine q_bn ?_
                        refine q_n ?_
                        refine w_reg rfl ?_
                        refine v_add lay3 rfl rfl (i64r (by omega)) ?_
                        refine v_move rfl ?_
                        refine v_nil ?_
                        refine q_n ?_
                        have hdo : doB p b ds[i] = ({ b with wr := (b.wr.take a ++ b.wr.drop (a + 1)) ++ [(true, b.wr[a].2.1, b.ps[pn].1, b.ps[pn].2)] }, 0) := do_deliver hk3 ha k4 (come_old (b := cutW b a) hbk hpn k6 hnv)
                        refine ⟨_, _, _, ?_, ⟨i + 1, { b with wr := (b.wr.take a ++ b.wr.drop (a + 1)) ++ [(true, b.wr[a].2.1, b.ps[pn].1, b.ps[pn].2)] }, cs ++ [0], rfl, by omega, st_step hst hi1 hdo, ok_do hok hd hdo, by simp; omega, rfl, rfl⟩, by omega⟩
                        exact turn [some 0, some 1, some 2, some 3, some 4, some 12] rfl rfl rfl ⟨⟨_, rfl, .cons (tr_mun rfl (by first | rfl | (simp; done) | (simp; omega) | (rw [bg_l (by omega)]))) (.cons (tr_mun rfl (by first | rfl | (simp; done) | (simp; omega) | (rw [bg_l (by omega)]))) (.cons (tr_mun rfl (by first | rfl | (simp; done) | (simp; omega) | (rw [bg_l (by omega)]))) (.cons (tr_mun rfl (by first | rfl | (simp; done) | (simp; omega) | (rw [bg_l (by omega)]))) (.cons (tr_mun rfl (by first | rfl | (simp; done) | (simp; omega) | (rw [bg_l (by omega)]))) (.cons tr_v (.cons tr_sl .nil))))))⟩, ⟨_, rfl, trc_flat pe_sc rfl⟩, ⟨_, rfl, trc_flat pe_sc rfl⟩, ⟨_, rfl, trc_flat pe_sc rfl⟩, ⟨_, rfl, trc_flat int_sc rfl⟩, ⟨_, rfl, trc_flat nce_sc rfl⟩, trivial⟩ ⟨tr_pt rfl, (tr_i (cz_eq rfl)), tr_sl, tr_v, tr_v, trivial⟩
                      · skip
                        exact absurd (by decide) h23
                · skip
                  refine v_assign rfl ?_
                  refine v_nil ?_
                  refine q_n ?_
                  refine w_f rfl ?_
                  refine w_seq ?_
                  refine w_reg rfl ?_
                  refine v_eql lay2 rfl rfl (fun h24 => ?_) (fun h24 => ?_)
                  · skip
                    have hk4 := h24
                    have k4 : a < b.wr.length := e1 (by omega)
                    obtain ⟨pn, hpn⟩ : ∃ pn : Nat, b.wr[a].2.1 = pn := Int.eq_ofNat_of_zero_le (hok.po _ (List.getElem_mem k4)).1
                    have hp2 := (hok.po _ (List.getElem_mem k4)).2
                    have k5 : pn < b.kn.length := by omega
                    have k6 : pn < b.ps.length := by omega
                    have e6 := e2 h24
                    rw [gD k4] at e6
                    refine v_assign rfl ?_
                    refine v_nil ?_
                    refine q_n ?_
                    refine w_t rfl ?_
                    refine w_draw [0, 0, 2, 6, 14, 30, 0, 64, 254, 510, 1023] [⟨0, 0, []⟩, ⟨1, 0, []⟩, ⟨2, 0, []⟩, ⟨3, 0, []⟩, ⟨4, 0, []⟩, ⟨5, 0, []⟩, ⟨6, 0, []⟩, ⟨7, 0, []⟩, ⟨8, 0, []⟩, ⟨9, 0, []⟩, ⟨10, 1, []⟩] rfl rfl ?_
                    refine d_q rfl rfl rfl rfl rfl ?_
                    refine v_move rfl ?_
                    refine v_nil ?_
                    refine d_q rfl rfl rfl rfl rfl ?_
                    refine v_move rfl ?_
                    refine v_nil ?_
                    refine d_q rfl rfl rfl rfl rfl ?_
                    refine v_nil_pt rfl ?_
                    refine v_nil ?_
                    refine d_q rfl rfl rfl rfl rfl ?_
                    refine v_fa_pt (off' := 0) lay94 rfl rfl rfl ?_
                    refine v_nil ?_
                    refine d_q rfl rfl rfl rfl rfl ?_
                    refine v_fa_pt (off' := 4) lay64 rfl rfl rfl ?_
                    refine v_nil ?_
                    refine d_q rfl rfl rfl rfl rfl ?_
                    refine v_load_pt (.c _) lay62 rfl rfl rfl rfl ?_
                    refine v_nil ?_
                    refine d_q rfl rfl rfl rfl rfl ?_
                    refine v_fa_pt (off' := 1) lay25 rfl rfl rfl ?_
                    refine v_nil ?_
                    refine d_q rfl rfl rfl rfl rfl ?_
                    refine v_load_pt (.c _) lay2 rfl rfl rfl rfl ?_
                    refine v_nil ?_
                    refine d_q rfl rfl rfl rfl rfl ?_
                    refine v_idx_mu_e (k := 4) (off := 0) (a) lay62 lay101 rfl rfl rfl (ha) (by omega) ?_
                    refine v_nil ?_
                    refine d_q rfl rfl rfl rfl rfl ?_
                    refine v_load_flat a 0 (.agg [.v _, .v _, .v _, .v _]) nce_len lay101 rfl rfl (by omega) (by first | omega | (simp; omega)) rfl rfl ?_
                    refine v_nil ?_
                    refine dec_split (p := b.wr[a].1 = true) (fun hb1 => ?_) (fun hb1 => ?_)
                    · skip
                      refine d_id ?_
                      refine d_inl (n := 71) (drawD_ok X) (fun _ _ => Go.Proofs.Try.call91 _ _) Go.Proofs.Try.func91 rfl rfl rfl rfl rfl rfl ?_
                      apply Exists.intro
                      apply Exists.intro
                      refine ⟨?_, ?_, ?_⟩
                      · skip
                        refine w_seq ?_
                        refine w_reg rfl ?_
                        refine v_box (m := 8) (H' := [_, _, _, _, _, _, _, _, _]) lay101 rfl rfl rfl ?_
                        refine v_nil ?_
                        refine q_n ?_
                        refine w_seq ?_
                        refine w_seq ?_
                        refine w_reg rfl ?_
                        refine v_fa_pt (off' := 0) lay101 rfl rfl rfl ?_
                        refine v_load_ptb lay4 rfl rfl rfl rfl (fun h26 => ?_) (fun h26 => ?_)
                        · skip
                          have hbk := h26
                          refine v_nil ?_
                          refine q_n ?_
                          refine w_t rfl ?_
                          refine w_seq ?_
                          refine w_draw [0, 1, 3, 7, 15, 0, 32, 0, 128, 384, 896, 1920, 0, 4096, 16256, 32640, 0, 65536, 262016, 524287, 1048575] [⟨0, 0, []⟩, ⟨1, 0, []⟩, ⟨2, 0, []⟩, ⟨3, 0, []⟩, ⟨4, 0, []⟩, ⟨5, 0, []⟩, ⟨6, 0, []⟩, ⟨7, 0, []⟩, ⟨8, 0, []⟩, ⟨9, 0, []⟩, ⟨10, 0, []⟩, ⟨11, 0, []⟩, ⟨12, 0, []⟩, ⟨13, 0, []⟩, ⟨14, 0, []⟩, ⟨15, 0, []⟩, ⟨16, 0, []⟩, ⟨17, 0, []⟩, ⟨18, 0, []⟩, ⟨19, 0, []⟩, ⟨20, 1, []⟩] rfl rfl ?_
                          refine d_q rfl rfl rfl rfl rfl ?_
                          refine v_move rfl ?_
                          refine v_nil ?_
                          refine d_q rfl rfl rfl rfl rfl ?_
                          refine v_nil_pt rfl ?_
                          refine v_nil ?_
                          refine d_q rfl rfl rfl rfl rfl ?_
                          refine v_fa_pt (off' := 0) lay94 rfl rfl rfl ?_
                          refine v_nil ?_
                          refine d_q rfl rfl rfl rfl rfl ?_
                          refine v_fa_pt (off' := 3) lay64 rfl rfl rfl ?_
                          refine v_nil ?_
                          refine d_q rfl rfl rfl rfl rfl ?_
                          refine v_load_pt (.c _) lay28 rfl rfl rfl rfl ?_
                          refine v_nil ?_
                          refine d_q rfl rfl rfl rfl rfl ?_
                          refine v_fa_pt (off' := 1) lay101 rfl rfl rfl ?_
                          refine v_nil ?_
                          refine d_q rfl rfl rfl rfl rfl ?_
                          refine v_load_pt (.c _) lay2 rfl rfl rfl rfl ?_
                          refine v_nil ?_
                          refine d_q rfl rfl rfl rfl rfl ?_
                          refine v_move rfl ?_
                          refine v_nil ?_
                          refine d_q rfl rfl rfl rfl rfl ?_
                          refine v_nil_pt rfl ?_
                          refine v_nil ?_
                          refine d_q rfl rfl rfl rfl rfl ?_
                          refine v_fa_pt (off' := 0) lay94 rfl rfl rfl ?_
                          refine v_nil ?_
                          refine d_q rfl rfl rfl rfl rfl ?_
                          refine v_fa_pt (off' := 3) lay64 rfl rfl rfl ?_
                          refine v_nil ?_
                          refine d_q rfl rfl rfl rfl rfl ?_
                          refine v_load_pt (.c _) lay28 rfl rfl rfl rfl ?_
                          refine v_nil ?_
                          refine d_q rfl rfl rfl rfl rfl ?_
                          refine v_fa_pt (off' := 1) lay101 rfl rfl rfl ?_
                          refine v_nil ?_
                          refine d_q rfl rfl rfl rfl rfl ?_
                          refine v_load_pt (.c _) lay2 rfl rfl rfl rfl ?_
                          refine v_nil ?_
                          refine d_q rfl rfl rfl rfl rfl ?_
                          refine v_idx_mu_e (k := 1) (off := 0) (pn) lay28 lay2 rfl rfl rfl (hpn) (by omega) ?_
                          refine v_nil ?_
                          refine d_q rfl rfl rfl rfl rfl ?_
                          refine v_load_flat pn 0 (.c (.v _)) int_len lay2 rfl rfl (by omega) (by first | omega | (simp; omega)) rfl rfl ?_
                          refine v_nil ?_
                          refine d_q rfl rfl rfl rfl rfl ?_
                          refine v_fa_pt (off' := 3) lay101 rfl rfl rfl ?_
                          refine v_nil ?_
                          refine d_q rfl rfl rfl rfl rfl ?_
                          refine v_load_pt (.c _) lay2 rfl rfl rfl rfl ?_
                          refine v_nil ?_
                          refine d_q rfl rfl rfl rfl rfl ?_
                          refine v_max rfl rfl ?_
                          refine v_nil ?_
                          refine d_q rfl rfl rfl rfl rfl ?_
                          refine v_idx_mu_e (k := 1) (off := 0) (pn) lay28 lay2 rfl rfl rfl (hpn) (by omega) ?_
                          refine v_nil ?_
                          refine d_e rfl rfl rfl ?_
                          refine v_store_flat (H' := [_, _, _, _, _, _, _, _, _]) pn 0 (mx b.kn[pn] b.wr[a].2.2.2) int_len lay2 rfl rfl rfl (by omega) (by first | omega | (simp; omega)) rfl rfl (rfl) rfl ?_
                          refine v_nil ⟨again_nil, ?_⟩
                          refine d_nil ?_
                          refine q_n ?_
                          refine w_ret (q_r ?_)
                          refine r_r rfl ?_
                          exact ⟨rfl, rfl⟩
                        · skip
                          have hbk := h26
                          exact absurd (hb1.symm.trans h26) (by decide)
                      · exact again_nil
                      · skip
                        refine d_nil ?_
                        refine q_bn ?_
                        refine q_n ?_
                        refine w_seq ?_
                        refine w_reg rfl ?_
                        refine v_assign (c := .v (.int .i64 0)) rfl ?_
                        refine v_nil ?_
                        refine q_n ?_
                        refine w_ret ?_
                        refine r_r rfl ?_
                        refine v_eql lay2 rfl rfl (fun h29 => ?_) (fun h29 => ?_)
                        · skip
                          refine v_nil ?_
                          refine q_n ?_
                          refine w_t rfl ?_
                          refine w_reg rfl ?_
                          refine v_move rfl ?_
                          refine v_add lay2 rfl rfl (i64r (by omega)) ?_
                          refine v_assign rfl ?_
                          refine v_nil ?_
                          refine q_bn ?_
                          refine q_n ?_
                          refine w_reg rfl ?_
                          refine v_add lay3 rfl rfl (i64r (by omega)) ?_
                          refine v_move rfl ?_
                          refine v_nil ?_
                          refine q_n ?_
                          have hdo : doB p b ds[i] = ({ b with kn := b.kn.set pn (mx b.kn[pn] b.wr[a].2.2.2) }, 0) := do_copy hk4 ha k4 e6 (come_back hb1 hpn k5)
                          refine ⟨_, _, _, ?_, ⟨i + 1, { b with kn := b.kn.set pn (mx b.kn[pn] b.wr[a].2.2.2) }, cs ++ [0], rfl, by omega, st_step hst hi1 hdo, ok_do hok hd hdo, by simp; omega, rfl, rfl⟩, by omega⟩
                          exact turn [some 0, some 1, some 2, some 3, some 4, some 5] rfl rfl rfl ⟨⟨_, rfl, .cons (tr_mun rfl (by first | rfl | (simp; done) | (simp; omega) | (rw [bg_l (by omega)]))) (.cons (tr_mun rfl (by first | rfl | (simp; done) | (simp; omega) | (rw [bg_l (by omega)]))) (.cons (tr_mun rfl (by first | rfl | (simp; done) | (simp; omega) | (rw [bg_l (by omega)]))) (.cons (tr_mun rfl (by first | rfl | (simp; done) | (simp; omega) | (rw [bg_l (by omega)]))) (.cons (tr_mun rfl (by first | rfl | (simp; done) | (simp; omega) | (rw [bg_l (by omega)]))) (.cons tr_v (.cons tr_sl .nil))))))⟩, ⟨_, rfl, trc_flat pe_sc rfl⟩, ⟨_, rfl, trc_flat pe_sc rfl⟩, ⟨_, rfl, trc_flat pe_sc rfl⟩, ⟨_, rfl, trc_flat int_sc rfl⟩, ⟨_, rfl, trc_flat nce_sc rfl⟩, trivial⟩ ⟨tr_pt rfl, (tr_i (cz_eq rfl)), tr_sl, tr_v, tr_v, trivial⟩
                        · skip
                          exact absurd (by decide) h29
                    · skip
                      refine dec_split (p := b.wr[a].2.2.2 > b.ps[pn].2) (fun hv1 => ?_) (fun hv1 => ?_)
                      · skip
                        refine d_id ?_
                        refine d_inl (n := 71) (drawD_ok X) (fun _ _ => Go.Proofs.Try.call91 _ _) Go.Proofs.Try.func91 rfl rfl rfl rfl rfl rfl ?_
                        apply Exists.intro
                        apply Exists.intro
                        refine ⟨?_, ?_, ?_⟩
                        · skip
                          refine w_seq ?_
                          refine w_reg rfl ?_
                          refine v_box (m := 8) (H' := [_, _, _, _, _, _, _, _, _]) lay101 rfl rfl rfl ?_
                          refine v_nil ?_
                          refine q_n ?_
                          refine w_seq ?_
                          refine w_seq ?_
                          refine w_reg rfl ?_
                          refine v_fa_pt (off' := 0) lay101 rfl rfl rfl ?_
                          refine v_load_ptb lay4 rfl rfl rfl rfl (fun h30 => ?_) (fun h30 => ?_)
                          · skip
                            have hbk := h30
                            exact absurd ((Bool.eq_false_iff.2 hb1).symm.trans h30) (by decide)
                          · skip
                            have hbk := h30
                            refine v_nil ?_
                            refine q_n ?_
                            refine w_f rfl ?_
                            refine w_skip ?_
                            refine q_n ?_
                            refine w_seq ?_
                            refine w_draw [0, 1, 3, 7, 15, 0, 32, 127, 255] [⟨0, 0, []⟩, ⟨1, 0, []⟩, ⟨2, 0, []⟩, ⟨3, 0, []⟩, ⟨4, 0, []⟩, ⟨5, 0, []⟩, ⟨6, 0, []⟩, ⟨7, 0, []⟩, ⟨8, 0, []⟩] rfl rfl ?_
                            refine d_q rfl rfl rfl rfl rfl ?_
                            refine v_move rfl ?_
                            refine v_nil ?_
                            refine d_q rfl rfl rfl rfl rfl ?_
                            refine v_nil_pt rfl ?_
                            refine v_nil ?_
                            refine d_q rfl rfl rfl rfl rfl ?_
                            refine v_fa_pt (off' := 0) lay94 rfl rfl rfl ?_
                            refine v_nil ?_
                            refine d_q rfl rfl rfl rfl rfl ?_
                            refine v_fa_pt (off' := 1) lay64 rfl rfl rfl ?_
                            refine v_nil ?_
                            refine d_q rfl rfl rfl rfl rfl ?_
                            refine v_load_pt (.c _) lay61 rfl rfl rfl rfl ?_
                            refine v_nil ?_
                            refine d_q rfl rfl rfl rfl rfl ?_
                            refine v_fa_pt (off' := 1) lay101 rfl rfl rfl ?_
                            refine v_nil ?_
                            refine d_q rfl rfl rfl rfl rfl ?_
                            refine v_load_pt (.c _) lay2 rfl rfl rfl rfl ?_
                            refine v_nil ?_
                            refine d_q rfl rfl rfl rfl rfl ?_
                            refine v_idx_mu_e (k := 2) (off := 0) (pn) lay61 lay46 rfl rfl rfl (hpn) (by omega) ?_
                            refine v_nil ?_
                            refine d_q rfl rfl rfl rfl rfl ?_
                            refine v_assign rfl ?_
                            refine v_nil ?_
                            refine d_nil ?_
                            refine q_n ?_
                            refine w_seq ?_
                            refine w_seq ?_
                            refine w_draw [0, 1, 0, 4, 12, 28, 63] [⟨0, 0, []⟩, ⟨1, 0, []⟩, ⟨2, 0, []⟩, ⟨3, 0, []⟩, ⟨4, 0, []⟩, ⟨5, 0, []⟩, ⟨6, 0, []⟩] rfl rfl ?_
                            refine d_q rfl rfl rfl rfl rfl ?_
                            refine v_fa_pt (off' := 3) lay101 rfl rfl rfl ?_
                            refine v_nil ?_
                            refine d_q rfl rfl rfl rfl rfl ?_
                            refine v_load_pt (.c _) lay2 rfl rfl rfl rfl ?_
                            refine v_nil ?_
                            refine d_q rfl rfl rfl rfl rfl ?_
                            refine v_move rfl ?_
                            refine v_nil ?_
                            refine d_q rfl rfl rfl rfl rfl ?_
                            refine v_nil_pt rfl ?_
                            refine v_nil ?_
                            refine d_q rfl rfl rfl rfl rfl ?_
                            refine v_fa_pt (off' := _) lay46 rfl rfl rfl ?_
                            refine v_nil ?_
                            refine d_q rfl rfl rfl rfl rfl ?_
                            refine v_load_flat pn 1 (.c (.v _)) pe_len lay2 rfl rfl (by omega) (by first | omega | (simp; omega)) rfl rfl ?_
                            refine v_nil ?_
                            refine d_q rfl rfl rfl rfl rfl ?_
                            refine v_gtr lay2 rfl rfl (fun h32 => ?_) (fun h32 => ?_)
                            · skip
                              have hnv := h32
                              refine v_nil ?_
                              refine d_nil ?_
                              refine q_n ?_
                              refine w_t rfl ?_
                              refine w_reg rfl ?_
                              refine v_move rfl ?_
                              refine v_fa_pt (off' := 2) lay101 rfl rfl rfl ?_
                              refine v_load_pt (.c _) lay2 rfl rfl rfl rfl ?_
                              refine v_fa_pt (off' := 3) lay101 rfl rfl rfl ?_
                              refine v_load_pt (.c _) lay2 rfl rfl rfl rfl ?_
                              refine v_build [(0, 1), (1, 1)] [.v _, .v _] lay46 rfl rfl ?_
                              refine v_nil_pt rfl ?_
                              refine v_store_flat (H' := [_, _, _, _, _, _, _, _, _]) pn 0 ((b.wr[a].2.2.1, b.wr[a].2.2.2)) pe_len lay46 rfl rfl rfl (by omega) (by first | omega | (simp; omega)) rfl rfl (rfl) rfl ?_
                              refine v_nil ?_
                              refine q_n ?_
                              refine w_draw [0, 0, 2, 6, 14, 30, 0, 64, 0, 256, 768, 1792, 0, 4096, 12288, 28672, 65472, 131008, 262142, 524287, 1048575, 2097151, 4194303] [⟨0, 0, []⟩, ⟨1, 0, []⟩, ⟨2, 0, []⟩, ⟨3, 0, []⟩, ⟨4, 0, []⟩, ⟨5, 0, []⟩, ⟨6, 0, []⟩, ⟨7, 0, []⟩, ⟨8, 0, []⟩, ⟨9, 0, []⟩, ⟨10, 0, []⟩, ⟨11, 0, []⟩, ⟨12, 0, []⟩, ⟨13, 0, []⟩, ⟨14, 0, []⟩, ⟨15, 0, []⟩, ⟨16, 0, []⟩, ⟨17, 2, []⟩, ⟨18, 1, []⟩, ⟨19, 0, []⟩, ⟨20, 0, []⟩, ⟨21, 0, []⟩, ⟨22, 1, []⟩] rfl rfl ?_
                              refine d_q rfl rfl rfl rfl rfl ?_
                              refine v_move rfl ?_
                              refine v_nil ?_
                              refine d_q rfl rfl rfl rfl rfl ?_
                              refine v_move rfl ?_
                              refine v_nil ?_
                              refine d_q rfl rfl rfl rfl rfl ?_
                              refine v_nil_pt rfl ?_
                              refine v_nil ?_
                              refine d_q rfl rfl rfl rfl rfl ?_
                              refine v_fa_pt (off' := 0) lay94 rfl rfl rfl ?_
                              refine v_nil ?_
                              refine d_q rfl rfl rfl rfl rfl ?_
                              refine v_fa_pt (off' := 4) lay64 rfl rfl rfl ?_
                              refine v_nil ?_
                              refine d_q rfl rfl rfl rfl rfl ?_
                              refine v_load_pt (.c _) lay62 rfl rfl rfl rfl ?_
                              refine v_nil ?_
                              refine d_q rfl rfl rfl rfl rfl ?_
                              refine v_fa_pt (off' := 1) lay101 rfl rfl rfl ?_
                              refine v_nil ?_
                              refine d_q rfl rfl rfl rfl rfl ?_
                              refine v_load_pt (.c _) lay2 rfl rfl rfl rfl ?_
                              refine v_nil ?_
                              refine d_q rfl rfl rfl rfl rfl ?_
                              refine v_move rfl ?_
                              refine v_nil ?_
                              refine d_q rfl rfl rfl rfl rfl ?_
                              refine v_nil_pt rfl ?_
                              refine v_nil ?_
                              refine d_q rfl rfl rfl rfl rfl ?_
                              refine v_fa_pt (off' := _) lay46 rfl rfl rfl ?_
                              refine v_nil ?_
                              refine d_q rfl rfl rfl rfl rfl ?_
                              refine v_load_flat pn 0 (.c (.v _)) pe_len lay2 rfl rfl (by omega) (by first | omega | (simp; omega)) rfl rfl ?_
                              refine v_nil ?_
                              refine d_q rfl rfl rfl rfl rfl ?_
                              refine v_move rfl ?_
                              refine v_nil ?_
                              refine d_q rfl rfl rfl rfl rfl ?_
                              refine v_nil_pt rfl ?_
                              refine v_nil ?_
                              refine d_q rfl rfl rfl rfl rfl ?_
                              refine v_fa_pt (off' := _) lay46 rfl rfl rfl ?_
                              refine v_nil ?_
                              refine d_q rfl rfl rfl rfl rfl ?_
                              refine v_load_flat pn 1 (.c (.v _)) pe_len lay2 rfl rfl (by omega) (by first | omega | (simp; omega)) rfl rfl ?_
                              refine v_nil ?_
                              refine d_q rfl rfl rfl rfl rfl ?_
                              refine v_build [(0, 1), (1, 1), (2, 1), (3, 1)] [.v _, .v _, .v _, .v _] lay101 rfl rfl ?_
                              refine v_nil ?_
                              refine d_z (.c (.sl true 1 4 (flat nce [(true, b.wr[a].2.1, ((b.ps.set pn (b.wr[a].2.2.1, b.wr[a].2.2.2))[pn]'(by simpa using k6)).1, ((b.ps.set pn (b.wr[a].2.2.1, b.wr[a].2.2.2))[pn]'(by simpa using k6)).2)]))) rfl rfl rfl ?_
                              refine d_e rfl rfl rfl ?_
                              refine v_app_flat_sl (H' := [_, _, _, _, _, _, _, _, _, _]) nce_sc nce_len lay62 lay101 rfl rfl (by first | rfl | (simp; done) | (simp; omega) | omega | (rw [bg_l (by omega)])) rfl rfl rfl (by unfold maxLen; simp only []; omega) rfl rfl ?_
                              refine v_nil ⟨again_nil, ?_⟩
                              refine d_q rfl rfl rfl rfl rfl ?_
                              refine v_nil_pt rfl ?_
                              refine v_nil ?_
                              refine d_q rfl rfl rfl rfl rfl ?_
                              refine v_fa_pt (off' := 0) lay94 rfl rfl rfl ?_
                              refine v_nil ?_
                              refine d_q rfl rfl rfl rfl rfl ?_
                              refine v_fa_pt (off' := 4) lay64 rfl rfl rfl ?_
                              refine v_nil ?_
                              refine d_e rfl rfl rfl ?_
                              refine v_store (H' := [⟨[_, _, _, _, _, _, _], 94, true⟩, _, _, _, _, _, _, _, _, _]) lay62 rfl rfl rfl rfl rfl rfl ?_
                              refine v_nil ⟨again_nil, ?_⟩
                              refine d_nil ?_
                              refine r_n rfl ?_
                              exact ⟨rfl, rfl⟩
                            · skip
                              have hnv := h32
                              exact absurd hv1 h32
                        · exact again_nil
                        · skip
                          refine d_nil ?_
                          refine q_bn ?_
                          refine q_n ?_
                          refine w_seq ?_
                          refine w_reg rfl ?_
                          refine v_assign (c := .v (.int .i64 0)) rfl ?_
                          refine v_nil ?_
                          refine q_n ?_
                          refine w_ret ?_
                          refine r_r rfl ?_
                          refine v_eql lay2 rfl rfl (fun h33 => ?_) (fun h33 => ?_)
                          · skip
                            refine v_nil ?_
                            refine q_n ?_
                            refine w_t rfl ?_
                            refine w_reg rfl ?_
                            refine v_move rfl ?_
                            refine v_add lay2 rfl rfl (i64r (by omega)) ?_
                            refine v_assign rfl ?_
                            refine v_nil ?_
                            refine q_bn ?_
                            refine q_n ?_
                            refine w_reg rfl ?_
                            refine v_add lay3 rfl rfl (i64r (by omega)) ?_
                            refine v_move rfl ?_
                            refine v_nil ?_
                            refine q_n ?_
                            have hdo : doB p b ds[i] = ({ b with ps := b.ps.set pn (b.wr[a].2.2.1, b.wr[a].2.2.2), wr := b.wr ++ [(true, b.wr[a].2.1, b.wr[a].2.2.1, b.wr[a].2.2.2)] }, 0) := do_copy hk4 ha k4 e6 (come_new (Bool.eq_false_iff.2 hb1) hpn k6 hv1)
                            refine ⟨_, _, _, ?_, ⟨i + 1, { b with ps := b.ps.set pn (b.wr[a].2.2.1, b.wr[a].2.2.2), wr := b.wr ++ [(true, b.wr[a].2.1, b.wr[a].2.2.1, b.wr[a].2.2.2)] }, cs ++ [0], rfl, by omega, st_step hst hi1 hdo, ok_do hok hd hdo, by simp; omega, rfl, rfl⟩, by omega⟩
                            exact turn [some 0, some 1, some 2, some 3, some 4, some 9] rfl rfl rfl ⟨⟨_, rfl, .cons (tr_mun rfl (by first | rfl | (simp; done) | (simp; omega) | (rw [bg_l (by omega)]))) (.cons (tr_mun rfl (by first | rfl | (simp; done) | (simp; omega) | (rw [bg_l (by omega)]))) (.cons (tr_mun rfl (by first | rfl | (simp; done) | (simp; omega) | (rw [bg_l (by omega)]))) (.cons (tr_mun rfl (by first | rfl | (simp; done) | (simp; omega) | (rw [bg_l (by omega)]))) (.cons (tr_mun rfl (by first | rfl | (simp; done) | (simp; omega) | (rw [bg_l (by omega)]))) (.cons tr_v (.cons tr_sl .nil))))))⟩, ⟨_, rfl, trc_flat pe_sc rfl⟩, ⟨_, rfl, trc_flat pe_sc rfl⟩, ⟨_, rfl, trc_flat pe_sc rfl⟩, ⟨_, rfl, trc_flat int_sc rfl⟩, ⟨_, rfl, trc_flat nce_sc (congrArg (flat nce) (by simp only [List.getElem_set_self]))⟩, trivial⟩ ⟨tr_pt rfl, (tr_i (cz_eq rfl)), tr_sl, tr_v, tr_v, trivial⟩
                          · skip
                            exact absurd (by decide) h33
                      · skip
                        refine d_id ?_
                        refine d_inl (n := 71) (drawD_ok X) (fun _ _ => Go.Proofs.Try.call91 _ _) Go.Proofs.Try.func91 rfl rfl rfl rfl rfl rfl ?_
                        apply Exists.intro
                        apply Exists.intro
                        refine ⟨?_, ?_, ?_⟩
                        · skip
                          refine w_seq ?_
                          refine w_reg rfl ?_
                          refine v_box (m := 8) (H' := [_, _, _, _, _, _, _, _, _]) lay101 rfl rfl rfl ?_
                          refine v_nil ?_
                          refine q_n ?_
                          refine w_seq ?_
                          refine w_seq ?_
                          refine w_reg rfl ?_
                          refine v_fa_pt (off' := 0) lay101 rfl rfl rfl ?_
                          refine v_load_ptb lay4 rfl rfl rfl rfl (fun h34 => ?_) (fun h34 => ?_)
                          · skip
                            have hbk := h34
                            exact absurd ((Bool.eq_false_iff.2 hb1).symm.trans h34) (by decide)
                          · skip
                            have hbk := h34
                            refine v_nil ?_
                            refine q_n ?_
                            refine w_f rfl ?_
                            refine w_skip ?_
                            refine q_n ?_
                            refine w_seq ?_
                            refine w_draw [0, 1, 3, 7, 15, 0, 32, 127, 255] [⟨0, 0, []⟩, ⟨1, 0, []⟩, ⟨2, 0, []⟩, ⟨3, 0, []⟩, ⟨4, 0, []⟩, ⟨5, 0, []⟩, ⟨6, 0, []⟩, ⟨7, 0, []⟩, ⟨8, 0, []⟩] rfl rfl ?_
                            refine d_q rfl rfl rfl rfl rfl ?_
                            refine v_move rfl ?_
                            refine v_nil ?_
                            refine d_q rfl rfl rfl rfl rfl ?_
                            refine v_nil_pt rfl ?_
                            refine v_nil ?_
                            refine d_q rfl rfl rfl rfl rfl ?_
                            refine v_fa_pt (off' := 0) lay94 rfl rfl rfl ?_
                            refine v_nil ?_
                            refine d_q rfl rfl rfl rfl rfl ?_
                            refine v_fa_pt (off' := 1) lay64 rfl rfl rfl ?_
                            refine v_nil ?_
                            refine d_q rfl rfl rfl rfl rfl ?_
                            refine v_load_pt (.c _) lay61 rfl rfl rfl rfl ?_
                            refine v_nil ?_
                            refine d_q rfl rfl rfl rfl rfl ?_
                            refine v_fa_pt (off' := 1) lay101 rfl rfl rfl ?_
                            refine v_nil ?_
                            refine d_q rfl rfl rfl rfl rfl ?_
                            refine v_load_pt (.c _) lay2 rfl rfl rfl rfl ?_
                            refine v_nil ?_
                            refine d_q rfl rfl rfl rfl rfl ?_
                            refine v_idx_mu_e (k := 2) (off := 0) (pn) lay61 lay46 rfl rfl rfl (hpn) (by omega) ?_
                            refine v_nil ?_
                            refine d_q rfl rfl rfl rfl rfl ?_
                            refine v_assign rfl ?_
                            refine v_nil ?_
                            refine d_nil ?_
                            refine q_n ?_
                            refine w_seq ?_
                            refine w_seq ?_
                            refine w_draw [0, 1, 0, 4, 12, 28, 63] [⟨0, 0, []⟩, ⟨1, 0, []⟩, ⟨2, 0, []⟩, ⟨3, 0, []⟩, ⟨4, 0, []⟩, ⟨5, 0, []⟩, ⟨6, 0, []⟩] rfl rfl ?_
                            refine d_q rfl rfl rfl rfl rfl ?_
                            refine v_fa_pt (off' := 3) lay101 rfl rfl rfl ?_
                            refine v_nil ?_
                            refine d_q rfl rfl rfl rfl rfl ?_
                            refine v_load_pt (.c _) lay2 rfl rfl rfl rfl ?_
                            refine v_nil ?_
                            refine d_q rfl rfl rfl rfl rfl ?_
                            refine v_move rfl ?_
                            refine v_nil ?_
                            refine d_q rfl rfl rfl rfl rfl ?_
                            refine v_nil_pt rfl ?_
                            refine v_nil ?_
                            refine d_q rfl rfl rfl rfl rfl ?_
                            refine v_fa_pt (off' := _) lay46 rfl rfl rfl ?_
                            refine v_nil ?_
                            refine d_q rfl rfl rfl rfl rfl ?_
                            refine v_load_flat pn 1 (.c (.v _)) pe_len lay2 rfl rfl (by omega) (by first | omega | (simp; omega)) rfl rfl ?_
                            refine v_nil ?_
                            refine d_q rfl rfl rfl rfl rfl ?_
                            refine v_gtr lay2 rfl rfl (fun h36 => ?_) (fun h36 => ?_)
                            · skip
                              have hnv := h36
                              exact absurd h36 hv1
                            · skip
                              have hnv := h36
                              refine v_nil ?_
                              refine d_nil ?_
                              refine q_n ?_
                              refine w_f rfl ?_
                              refine w_skip ?_
                              refine q_n ?_
                              refine w_draw [0, 0, 2, 6, 14, 30, 0, 64, 0, 256, 768, 1792, 0, 4096, 12288, 28672, 65472, 131008, 262142, 524287, 1048575, 2097151, 4194303] [⟨0, 0, []⟩, ⟨1, 0, []⟩, ⟨2, 0, []⟩, ⟨3, 0, []⟩, ⟨4, 0, []⟩, ⟨5, 0, []⟩, ⟨6, 0, []⟩, ⟨7, 0, []⟩, ⟨8, 0, []⟩, ⟨9, 0, []⟩, ⟨10, 0, []⟩, ⟨11, 0, []⟩, ⟨12, 0, []⟩, ⟨13, 0, []⟩, ⟨14, 0, []⟩, ⟨15, 0, []⟩, ⟨16, 0, []⟩, ⟨17, 2, []⟩, ⟨18, 1, []⟩, ⟨19, 0, []⟩, ⟨20, 0, []⟩, ⟨21, 0, []⟩, ⟨22, 1, []⟩] rfl rfl ?_
                              refine d_q rfl rfl rfl rfl rfl ?_
                              refine v_move rfl ?_
                              refine v_nil ?_
                              refine d_q rfl rfl rfl rfl rfl ?_
                              refine v_move rfl ?_
                              refine v_nil ?_
                              refine d_q rfl rfl rfl rfl rfl ?_
                              refine v_nil_pt rfl ?_
                              refine v_nil ?_
                              refine d_q rfl rfl rfl rfl rfl ?_
                              refine v_fa_pt (off' := 0) lay94 rfl rfl rfl ?_
                              refine v_nil ?_
                              refine d_q rfl rfl rfl rfl rfl ?_
                              refine v_fa_pt (off' := 4) lay64 rfl rfl rfl ?_
                              refine v_nil ?_
                              refine d_q rfl rfl rfl rfl rfl ?_
                              refine v_load_pt (.c _) lay62 rfl rfl rfl rfl ?_
                              refine v_nil ?_
                              refine d_q rfl rfl rfl rfl rfl ?_
                              refine v_fa_pt (off' := 1) lay101 rfl rfl rfl ?_
                              refine v_nil ?_
                              refine d_q rfl rfl rfl rfl rfl ?_
                              refine v_load_pt (.c _) lay2 rfl rfl rfl rfl ?_
                              refine v_nil ?_
                              refine d_q rfl rfl rfl rfl rfl ?_
                              refine v_move rfl ?_
                              refine v_nil ?_
                              refine d_q rfl rfl rfl rfl rfl ?_
                              refine v_nil_pt rfl ?_
                              refine v_nil ?_
                              refine d_q rfl rfl rfl rfl rfl ?_
                              refine v_fa_pt (off' := _) lay46 rfl rfl rfl ?_
                              refine v_nil ?_
                              refine d_q rfl rfl rfl rfl rfl ?_
                              refine v_load_flat pn 0 (.c (.v _)) pe_len lay2 rfl rfl (by omega) (by first | omega | (simp; omega)) rfl rfl ?_
                              refine v_nil ?_
                              refine d_q rfl rfl rfl rfl rfl ?_
                              refine v_move rfl ?_
                              refine v_nil ?_
                              refine d_q rfl rfl rfl rfl rfl ?_
                              refine v_nil_pt rfl ?_
                              refine v_nil ?_
                              refine d_q rfl rfl rfl rfl rfl ?_
                              refine v_fa_pt (off' := _) lay46 rfl rfl rfl ?_
                              refine v_nil ?_
                              refine d_q rfl rfl rfl rfl rfl ?_
                              refine v_load_flat pn 1 (.c (.v _)) pe_len lay2 rfl rfl (by omega) (by first | omega | (simp; omega)) rfl rfl ?_
                              refine v_nil ?_
                              refine d_q rfl rfl rfl rfl rfl ?_
                              refine v_build [(0, 1), (1, 1), (2, 1), (3, 1)] [.v _, .v _, .v _, .v _] lay101 rfl rfl ?_
                              refine v_nil ?_
                              refine d_z (.c (.sl true 1 4 (flat nce [(true, b.wr[a].2.1, b.ps[pn].1, b.ps[pn].2)]))) rfl rfl rfl ?_
                              refine d_e rfl rfl rfl ?_
                              refine v_app_flat_sl (H' := [_, _, _, _, _, _, _, _, _, _]) nce_sc nce_len lay62 lay101 rfl rfl (by first | rfl | (simp; done) | (simp; omega) | omega | (rw [bg_l (by omega)])) rfl rfl rfl (by unfold maxLen; simp only []; omega) rfl rfl ?_
                              refine v_nil ⟨again_nil, ?_⟩
                              refine d_q rfl rfl rfl rfl rfl ?_
                              refine v_nil_pt rfl ?_
                              refine v_nil ?_
                              refine d_q rfl rfl rfl rfl rfl ?_
                              refine v_fa_pt (off' := 0) lay94 rfl rfl rfl ?_
                              refine v_nil ?_
                              refine d_q rfl rfl rfl rfl rfl ?_
                              refine v_fa_pt (off' := 4) lay64 rfl rfl rfl ?_
                              refine v_nil ?_
                              refine d_e rfl rfl rfl ?_
                              refine v_store (H' := [⟨[_, _, _, _, _, _, _], 94, true⟩, _, _, _, _, _, _, _, _, _]) lay62 rfl rfl rfl rfl rfl rfl ?_
                              refine v_nil ⟨again_nil, ?_⟩
                              refine d_nil ?_
                              refine r_n rfl ?_
                              exact ⟨rfl, rfl⟩
                        · exact again_nil
                        · skip
                          refine d_nil ?_
                          refine q_bn ?_
                          refine q_n ?_
                          refine w_seq ?_
                          refine w_reg rfl ?_
                          refine v_assign (c := .v (.int .i64 0)) rfl ?_
                          refine v_nil ?_
                          refine q_n ?_
                          refine w_ret ?_
                          refine r_r rfl ?_
                          refine v_eql lay2 rfl rfl (fun h37 => ?_) (fun h37 => ?_)
                          · skip
                            refine v_nil ?_
                            refine q_n ?_
                            refine w_t rfl ?_
                            refine w_reg rfl ?_
                            refine v_move rfl ?_
                            refine v_add lay2 rfl rfl (i64r (by omega)) ?_
                            refine v_assign rfl ?_
                            refine v_nil ?_
                            refine q_bn ?_
                            refine q_n ?_
                            refine w_reg rfl ?_
                            refine v_add lay3 rfl rfl (i64r (by omega)) ?_
                            refine v_move rfl ?_
                            refine v_nil ?_
                            refine q_n ?_
                            have hdo : doB p b ds[i] = ({ b with wr := b.wr ++ [(true, b.wr[a].2.1, b.ps[pn].1, b.ps[pn].2)] }, 0) := do_copy hk4 ha k4 e6 (come_old (Bool.eq_false_iff.2 hb1) hpn k6 hv1)
                            refine ⟨_, _, _, ?_, ⟨i + 1, { b with wr := b.wr ++ [(true, b.wr[a].2.1, b.ps[pn].1, b.ps[pn].2)] }, cs ++ [0], rfl, by omega, st_step hst hi1 hdo, ok_do hok hd hdo, by simp; omega, rfl, rfl⟩, by omega⟩
                            exact turn [some 0, some 1, some 2, some 3, some 4, some 9] rfl rfl rfl ⟨⟨_, rfl, .cons (tr_mun rfl (by first | rfl | (simp; done) | (simp; omega) | (rw [bg_l (by omega)]))) (.cons (tr_mun rfl (by first | rfl | (simp; done) | (simp; omega) | (rw [bg_l (by omega)]))) (.cons (tr_mun rfl (by first | rfl | (simp; done) | (simp; omega) | (rw [bg_l (by omega)]))) (.cons (tr_mun rfl (by first | rfl | (simp; done) | (simp; omega) | (rw [bg_l (by omega)]))) (.cons (tr_mun rfl (by first | rfl | (simp; done) | (simp; omega) | (rw [bg_l (by omega)]))) (.cons tr_v (.cons tr_sl .nil))))))⟩, ⟨_, rfl, trc_flat pe_sc rfl⟩, ⟨_, rfl, trc_flat pe_sc rfl⟩, ⟨_, rfl, trc_flat pe_sc rfl⟩, ⟨_, rfl, trc_flat int_sc rfl⟩, ⟨_, rfl, trc_flat nce_sc rfl⟩, trivial⟩ ⟨tr_pt rfl, (tr_i (cz_eq rfl)), tr_sl, tr_v, tr_v, trivial⟩
                          · skip
                            exact absurd (by decide) h37
                  · skip
                    refine v_assign rfl ?_
                    refine v_nil ?_
                    refine q_n ?_
                    refine w_f rfl ?_
                    refine w_seq ?_
                    refine w_reg rfl ?_
                    refine v_eql lay2 rfl rfl (fun h38 => ?_) (fun h38 => ?_)
                    · skip
                      have hk5 := h38
                      have k4 : a < b.wr.length := e1 (by omega)
                      refine v_assign rfl ?_
                      refine v_nil ?_
                      refine q_n ?_
                      refine w_t rfl ?_
                      refine w_reg rfl ?_
                      refine v_move rfl ?_
                      refine v_fa_pt (off' := 1) lay25 rfl rfl rfl ?_
                      refine v_load_pt (.c _) lay2 rfl rfl rfl rfl ?_
                      refine v_inl (n := 28) (drawD_ok X) (fun _ _ => Go.Proofs.Try.call92 _ _) Go.Proofs.Try.func92 rfl rfl rfl rfl ?_
                      refine w_seq ?_
                      refine w_reg rfl ?_
                      refine v_alloc (m := 8) (H' := [_, _, _, _, _, _, _, _, ⟨[.v _, .v _, .v _, .v _], 101, true⟩]) lay101 rfl rfl ?_
                      refine v_nil ?_
                      refine q_n ?_
                      refine w_seq ?_
                      refine w_reg rfl ?_
                      refine v_move rfl ?_
                      refine v_nil_pt rfl ?_
                      refine v_fa_pt (off' := 0) lay94 rfl rfl rfl ?_
                      refine v_fa_pt (off' := 4) lay64 rfl rfl rfl ?_
                      refine v_load_pt (.c _) lay62 rfl rfl rfl rfl ?_
                      refine v_move rfl ?_
                      refine v_idx_mu_e (k := 4) (off := 0) (a) lay62 lay101 rfl rfl rfl (ha) (by omega) ?_
                      refine v_load_flat a 0 (.agg [.v _, .v _, .v _, .v _]) nce_len lay101 rfl rfl (by omega) (by first | omega | (simp; omega)) rfl rfl ?_
                      refine v_alloc (m := 9) (H' := [_, _, _, _, _, _, _, _, _, ⟨[.v _, .v _, .v _, .v _], 101, true⟩]) lay101 rfl rfl ?_
                      refine v_store (H' := [_, _, _, _, _, _, _, _, _, ⟨[_, _, _, _], 101, true⟩]) lay101 rfl rfl rfl rfl rfl rfl ?_
                      refine v_nil ?_
                      refine q_n ?_
                      refine w_seq ?_
                      refine w_reg rfl ?_
                      refine v_move rfl ?_
                      refine v_move rfl ?_
                      refine v_nil_pt rfl ?_
                      refine v_fa_pt (off' := 0) lay94 rfl rfl rfl ?_
                      refine v_fa_pt (off' := 4) lay64 rfl rfl rfl ?_
                      refine v_load_pt (.c _) lay62 rfl rfl rfl rfl ?_
                      refine v_move rfl ?_
                      refine v_move rfl ?_
                      refine v_add lay3 rfl rfl (i64r (by omega)) ?_
                      refine v_del (ys := b.wr) (i := a) (H' := [_, _, _, _, _, _, _, _, _, _, _]) rfl rfl (by omega) ha rfl rfl rfl rfl ?_
                      refine v_nil_pt rfl ?_
                      refine v_fa_pt (off' := 0) lay94 rfl rfl rfl ?_
                      refine v_fa_pt (off' := 4) lay64 rfl rfl rfl ?_
                      refine v_store (H' := [⟨[_, _, _, _, _, _, _], 94, true⟩, _, _, _, _, _, _, _, _, _, _]) lay62 rfl rfl rfl rfl rfl rfl ?_
                      refine v_nil ?_
                      refine q_n ?_
                      refine w_seq ?_
                      refine w_reg rfl ?_
                      refine v_load_pt (.agg [_, _, _, _]) lay101 rfl rfl rfl rfl ?_
                      refine v_store (H' := [_, _, _, _, _, _, _, _, ⟨[_, _, _, _], 101, true⟩, _, _]) lay101 rfl rfl rfl rfl rfl rfl ?_
                      refine v_nil ?_
                      refine q_n ?_
                      refine w_ret ?_
                      refine r_r rfl ?_
                      refine v_nil ?_
                      refine q_bn ?_
                      refine q_n ?_
                      refine w_seq ?_
                      refine w_reg rfl ?_
                      refine v_assign (c := .v (.int .i64 0)) rfl ?_
                      refine v_nil ?_
                      refine q_n ?_
                      refine w_ret ?_
                      refine r_r rfl ?_
                      refine v_eql lay2 rfl rfl (fun h40 => ?_) (fun h40 => ?_)
                      · skip
                        refine v_nil ?_
                        refine q_n ?_
                        refine w_t rfl ?_
                        refine w_reg rfl ?_
                        refine v_move rfl ?_
                        refine v_add lay2 rfl rfl (i64r (by omega)) ?_
                        refine v_assign rfl ?_
                        refine v_nil ?_
                        refine q_bn ?_
                        refine q_n ?_
                        refine w_reg rfl ?_
                        refine v_add lay3 rfl rfl (i64r (by omega)) ?_
                        refine v_move rfl ?_
                        refine v_nil ?_
                        refine q_n ?_
                        have hdo : doB p b ds[i] = ({ b with wr := b.wr.take a ++ b.wr.drop (a + 1) }, 0) := do_drop hk5 ha k4
                        refine ⟨_, _, _, ?_, ⟨i + 1, { b with wr := b.wr.take a ++ b.wr.drop (a + 1) }, cs ++ [0], rfl, by omega, st_step hst hi1 hdo, ok_do hok hd hdo, by simp; omega, rfl, rfl⟩, by omega⟩
                        exact turn [some 0, some 1, some 2, some 3, some 4, some 10] rfl rfl rfl ⟨⟨_, rfl, .cons (tr_mun rfl (by first | rfl | (simp; done) | (simp; omega) | (rw [bg_l (by omega)]))) (.cons (tr_mun rfl (by first | rfl | (simp; done) | (simp; omega) | (rw [bg_l (by omega)]))) (.cons (tr_mun rfl (by first | rfl | (simp; done) | (simp; omega) | (rw [bg_l (by omega)]))) (.cons (tr_mun rfl (by first | rfl | (simp; done) | (simp; omega) | (rw [bg_l (by omega)]))) (.cons (tr_mun rfl (by first | rfl | (simp; done) | (simp; omega) | (rw [bg_l (by omega)]))) (.cons tr_v (.cons tr_sl .nil))))))⟩, ⟨_, rfl, trc_flat pe_sc rfl⟩, ⟨_, rfl, trc_flat pe_sc rfl⟩, ⟨_, rfl, trc_flat pe_sc rfl⟩, ⟨_, rfl, trc_flat int_sc rfl⟩, ⟨_, rfl, trc_flat nce_sc rfl⟩, trivial⟩ ⟨tr_pt rfl, (tr_i (cz_eq rfl)), tr_sl, tr_v, tr_v, trivial⟩
                      · skip
                        exact absurd (by decide) h40
                    · skip
                      refine v_assign rfl ?_
                      refine v_nil ?_
                      refine q_n ?_
                      refine w_f rfl ?_
                      refine w_seq ?_
                      refine w_reg rfl ?_
                      refine v_eql lay2 rfl rfl (fun h41 => ?_) (fun h41 => ?_)
                      · skip
                        have hk6 := h41
                        have k2 : a < b.ps.length := e3 (by omega)
                        have k1 : a < b.nw.length := by omega
                        have k3 : a < b.sv.length := by omega
                        have hve := hok.ve _ (List.getElem_mem k1)
                        refine v_assign rfl ?_
                        refine v_nil ?_
                        refine q_n ?_
                        refine w_t rfl ?_
                        refine w_draw [0, 1, 3, 7, 15, 0, 32, 0, 128, 384, 896, 1920, 0, 4096, 16256, 32640, 65535, 131071] [⟨0, 0, []⟩, ⟨1, 0, []⟩, ⟨2, 0, []⟩, ⟨3, 0, []⟩, ⟨4, 0, []⟩, ⟨5, 0, []⟩, ⟨6, 0, []⟩, ⟨7, 0, []⟩, ⟨8, 0, []⟩, ⟨9, 0, []⟩, ⟨10, 0, []⟩, ⟨11, 0, []⟩, ⟨12, 0, []⟩, ⟨13, 0, []⟩, ⟨14, 0, []⟩, ⟨15, 0, []⟩, ⟨16, 0, []⟩, ⟨17, 1, []⟩] rfl rfl ?_
                        refine d_q rfl rfl rfl rfl rfl ?_
                        refine v_move rfl ?_
                        refine v_nil ?_
                        refine d_q rfl rfl rfl rfl rfl ?_
                        refine v_nil_pt rfl ?_
                        refine v_nil ?_
                        refine d_q rfl rfl rfl rfl rfl ?_
                        refine v_fa_pt (off' := 0) lay94 rfl rfl rfl ?_
                        refine v_nil ?_
                        refine d_q rfl rfl rfl rfl rfl ?_
                        refine v_fa_pt (off' := 2) lay64 rfl rfl rfl ?_
                        refine v_nil ?_
                        refine d_q rfl rfl rfl rfl rfl ?_
                        refine v_load_pt (.c _) lay61 rfl rfl rfl rfl ?_
                        refine v_nil ?_
                        refine d_q rfl rfl rfl rfl rfl ?_
                        refine v_fa_pt (off' := 1) lay25 rfl rfl rfl ?_
                        refine v_nil ?_
                        refine d_q rfl rfl rfl rfl rfl ?_
                        refine v_load_pt (.c _) lay2 rfl rfl rfl rfl ?_
                        refine v_nil ?_
                        refine d_q rfl rfl rfl rfl rfl ?_
                        refine v_move rfl ?_
                        refine v_nil ?_
                        refine d_q rfl rfl rfl rfl rfl ?_
                        refine v_nil_pt rfl ?_
                        refine v_nil ?_
                        refine d_q rfl rfl rfl rfl rfl ?_
                        refine v_fa_pt (off' := 0) lay94 rfl rfl rfl ?_
                        refine v_nil ?_
                        refine d_q rfl rfl rfl rfl rfl ?_
                        refine v_fa_pt (off' := 1) lay64 rfl rfl rfl ?_
                        refine v_nil ?_
                        refine d_q rfl rfl rfl rfl rfl ?_
                        refine v_load_pt (.c _) lay61 rfl rfl rfl rfl ?_
                        refine v_nil ?_
                        refine d_q rfl rfl rfl rfl rfl ?_
                        refine v_fa_pt (off' := 1) lay25 rfl rfl rfl ?_
                        refine v_nil ?_
                        refine d_q rfl rfl rfl rfl rfl ?_
                        refine v_load_pt (.c _) lay2 rfl rfl rfl rfl ?_
                        refine v_nil ?_
                        refine d_q rfl rfl rfl rfl rfl ?_
                        refine v_idx_mu_e (k := 2) (off := 0) (a) lay61 lay46 rfl rfl rfl (ha) (by omega) ?_
                        refine v_nil ?_
                        refine d_q rfl rfl rfl rfl rfl ?_
                        refine v_load_flat a 0 (.agg [.v _, .v _]) pe_len lay46 rfl rfl (by omega) (by first | omega | (simp; omega)) rfl rfl ?_
                        refine v_nil ?_
                        refine d_q rfl rfl rfl rfl rfl ?_
                        refine v_idx_mu_e (k := 2) (off := 0) (a) lay61 lay46 rfl rfl rfl (ha) (by omega) ?_
                        refine v_nil ?_
                        refine d_e rfl rfl rfl ?_
                        refine v_store_flat (H' := [_, _, _, _, _, _, _, _]) a 0 (b.ps[a]) pe_len lay46 rfl rfl rfl (by omega) (by first | omega | (simp; omega)) rfl rfl (rfl) rfl ?_
                        refine v_nil ⟨again_nil, ?_⟩
                        refine d_nil ?_
                        refine q_bn ?_
                        refine q_n ?_
                        refine w_seq ?_
                        refine w_reg rfl ?_
                        refine v_assign (c := .v (.int .i64 0)) rfl ?_
                        refine v_nil ?_
                        refine q_n ?_
                        refine w_ret ?_
                        refine r_r rfl ?_
                        refine v_eql lay2 rfl rfl (fun h44 => ?_) (fun h44 => ?_)
                        · skip
                          refine v_nil ?_
                          refine q_n ?_
                          refine w_t rfl ?_
                          refine w_reg rfl ?_
                          refine v_move rfl ?_
                          refine v_add lay2 rfl rfl (i64r (by omega)) ?_
                          refine v_assign rfl ?_
                          refine v_nil ?_
                          refine q_bn ?_
                          refine q_n ?_
                          refine w_reg rfl ?_
                          refine v_add lay3 rfl rfl (i64r (by omega)) ?_
                          refine v_move rfl ?_
                          refine v_nil ?_
                          refine q_n ?_
                          have hdo : doB p b ds[i] = ({ b with sv := b.sv.set a b.ps[a] }, 0) := do_save hk6 ha k2
                          refine ⟨_, _, _, ?_, ⟨i + 1, { b with sv := b.sv.set a b.ps[a] }, cs ++ [0], rfl, by omega, st_step hst hi1 hdo, ok_do hok hd hdo, by simp; omega, rfl, rfl⟩, by omega⟩
                          exact turn [some 0, some 1, some 2, some 3, some 4, some 5] rfl rfl rfl ⟨⟨_, rfl, .cons (tr_mun rfl (by first | rfl | (simp; done) | (simp; omega) | (rw [bg_l (by omega)]))) (.cons (tr_mun rfl (by first | rfl | (simp; done) | (simp; omega) | (rw [bg_l (by omega)]))) (.cons (tr_mun rfl (by first | rfl | (simp; done) | (simp; omega) | (rw [bg_l (by omega)]))) (.cons (tr_mun rfl (by first | rfl | (simp; done) | (simp; omega) | (rw [bg_l (by omega)]))) (.cons (tr_mun rfl (by first | rfl | (simp; done) | (simp; omega) | (rw [bg_l (by omega)]))) (.cons tr_v (.cons tr_sl .nil))))))⟩, ⟨_, rfl, trc_flat pe_sc rfl⟩, ⟨_, rfl, trc_flat pe_sc rfl⟩, ⟨_, rfl, trc_flat pe_sc rfl⟩, ⟨_, rfl, trc_flat int_sc rfl⟩, ⟨_, rfl, trc_flat nce_sc rfl⟩, trivial⟩ ⟨tr_pt rfl, (tr_i (cz_eq rfl)), tr_sl, tr_v, tr_v, trivial⟩
                        · skip
                          exact absurd (by decide) h44
                      · skip
                        refine v_assign rfl ?_
                        refine v_nil ?_
                        refine q_n ?_
                        refine w_f rfl ?_
                        refine w_seq ?_
                        refine w_reg rfl ?_
                        refine v_eql lay2 rfl rfl (fun h45 => ?_) (fun h45 => ?_)
                        · skip
                          have k2 : a < b.ps.length := e3 (by omega)
                          have k1 : a < b.nw.length := by omega
                          have k3 : a < b.sv.length := by omega
                          have hve := hok.ve _ (List.getElem_mem k1)
                          refine v_assign rfl ?_
                          refine v_nil ?_
                          refine q_n ?_
                          refine w_t rfl ?_
                          refine w_draw [0, 1, 3, 7, 15, 0, 32, 0, 128, 384, 896, 1920, 0, 4096, 16256, 32640, 65535, 131071] [⟨0, 0, []⟩, ⟨1, 0, []⟩, ⟨2, 0, []⟩, ⟨3, 0, []⟩, ⟨4, 0, []⟩, ⟨5, 0, []⟩, ⟨6, 0, []⟩, ⟨7, 0, []⟩, ⟨8, 0, []⟩, ⟨9, 0, []⟩, ⟨10, 0, []⟩, ⟨11, 0, []⟩, ⟨12, 0, []⟩, ⟨13, 0, []⟩, ⟨14, 0, []⟩, ⟨15, 0, []⟩, ⟨16, 0, []⟩, ⟨17, 1, []⟩] rfl rfl ?_
                          refine d_q rfl rfl rfl rfl rfl ?_
                          refine v_move rfl ?_
                          refine v_nil ?_
                          refine d_q rfl rfl rfl rfl rfl ?_
                          refine v_nil_pt rfl ?_
                          refine v_nil ?_
                          refine d_q rfl rfl rfl rfl rfl ?_
                          refine v_fa_pt (off' := 0) lay94 rfl rfl rfl ?_
                          refine v_nil ?_
                          refine d_q rfl rfl rfl rfl rfl ?_
                          refine v_fa_pt (off' := 1) lay64 rfl rfl rfl ?_
                          refine v_nil ?_
                          refine d_q rfl rfl rfl rfl rfl ?_
                          refine v_load_pt (.c _) lay61 rfl rfl rfl rfl ?_
                          refine v_nil ?_
                          refine d_q rfl rfl rfl rfl rfl ?_
                          refine v_fa_pt (off' := 1) lay25 rfl rfl rfl ?_
                          refine v_nil ?_
                          refine d_q rfl rfl rfl rfl rfl ?_
                          refine v_load_pt (.c _) lay2 rfl rfl rfl rfl ?_
                          refine v_nil ?_
                          refine d_q rfl rfl rfl rfl rfl ?_
                          refine v_move rfl ?_
                          refine v_nil ?_
                          refine d_q rfl rfl rfl rfl rfl ?_
                          refine v_nil_pt rfl ?_
                          refine v_nil ?_
                          refine d_q rfl rfl rfl rfl rfl ?_
                          refine v_fa_pt (off' := 0) lay94 rfl rfl rfl ?_
                          refine v_nil ?_
                          refine d_q rfl rfl rfl rfl rfl ?_
                          refine v_fa_pt (off' := 2) lay64 rfl rfl rfl ?_
                          refine v_nil ?_
                          refine d_q rfl rfl rfl rfl rfl ?_
                          refine v_load_pt (.c _) lay61 rfl rfl rfl rfl ?_
                          refine v_nil ?_
                          refine d_q rfl rfl rfl rfl rfl ?_
                          refine v_fa_pt (off' := 1) lay25 rfl rfl rfl ?_
                          refine v_nil ?_
                          refine d_q rfl rfl rfl rfl rfl ?_
                          refine v_load_pt (.c _) lay2 rfl rfl rfl rfl ?_
                          refine v_nil ?_
                          refine d_q rfl rfl rfl rfl rfl ?_
                          refine v_idx_mu_e (k := 2) (off := 0) (a) lay61 lay46 rfl rfl rfl (ha) (by omega) ?_
                          refine v_nil ?_
                          refine d_q rfl rfl rfl rfl rfl ?_
                          refine v_load_flat a 0 (.agg [.v _, .v _]) pe_len lay46 rfl rfl (by omega) (by first | omega | (simp; omega)) rfl rfl ?_
                          refine v_nil ?_
                          refine d_q rfl rfl rfl rfl rfl ?_
                          refine v_idx_mu_e (k := 2) (off := 0) (a) lay61 lay46 rfl rfl rfl (ha) (by omega) ?_
                          refine v_nil ?_
                          refine d_e rfl rfl rfl ?_
                          refine v_store_flat (H' := [_, _, _, _, _, _, _, _]) a 0 (b.sv[a]) pe_len lay46 rfl rfl rfl (by omega) (by first | omega | (simp; omega)) rfl rfl (rfl) rfl ?_
                          refine v_nil ⟨again_nil, ?_⟩
                          refine d_nil ?_
                          refine q_bn ?_
                          refine q_n ?_
                          refine w_seq ?_
                          refine w_reg rfl ?_
                          refine v_assign (c := .v (.int .i64 0)) rfl ?_
                          refine v_nil ?_
                          refine q_n ?_
                          refine w_ret ?_
                          refine r_r rfl ?_
                          refine v_eql lay2 rfl rfl (fun h48 => ?_) (fun h48 => ?_)
                          · skip
                            refine v_nil ?_
                            refine q_n ?_
                            refine w_t rfl ?_
                            refine w_reg rfl ?_
                            refine v_move rfl ?_
                            refine v_add lay2 rfl rfl (i64r (by omega)) ?_
                            refine v_assign rfl ?_
                            refine v_nil ?_
                            refine q_bn ?_
                            refine q_n ?_
                            refine w_reg rfl ?_
                            refine v_add lay3 rfl rfl (i64r (by omega)) ?_
                            refine v_move rfl ?_
                            refine v_nil ?_
                            refine q_n ?_
                            have hdo : doB p b ds[i] = ({ b with ps := b.ps.set a b.sv[a] }, 0) := do_crash (by omega) ha k2 k3
                            refine ⟨_, _, _, ?_, ⟨i + 1, { b with ps := b.ps.set a b.sv[a] }, cs ++ [0], rfl, by omega, st_step hst hi1 hdo, ok_do hok hd hdo, by simp; omega, rfl, rfl⟩, by omega⟩
                            exact turn [some 0, some 1, some 2, some 3, some 4, some 5] rfl rfl rfl ⟨⟨_, rfl, .cons (tr_mun rfl (by first | rfl | (simp; done) | (simp; omega) | (rw [bg_l (by omega)]))) (.cons (tr_mun rfl (by first | rfl | (simp; done) | (simp; omega) | (rw [bg_l (by omega)]))) (.cons (tr_mun rfl (by first | rfl | (simp; done) | (simp; omega) | (rw [bg_l (by omega)]))) (.cons (tr_mun rfl (by first | rfl | (simp; done) | (simp; omega) | (rw [bg_l (by omega)]))) (.cons (tr_mun rfl (by first | rfl | (simp; done) | (simp; omega) | (rw [bg_l (by omega)]))) (.cons tr_v (.cons tr_sl .nil))))))⟩, ⟨_, rfl, trc_flat pe_sc rfl⟩, ⟨_, rfl, trc_flat pe_sc rfl⟩, ⟨_, rfl, trc_flat pe_sc rfl⟩, ⟨_, rfl, trc_flat int_sc rfl⟩, ⟨_, rfl, trc_flat nce_sc rfl⟩, trivial⟩ ⟨tr_pt rfl, (tr_i (cz_eq rfl)), tr_sl, tr_v, tr_v, trivial⟩
                          · skip
                            exact absurd (by decide) h48
                        · skip
                          exfalso; omega
        · skip
          refine v_nil ?_
          refine q_n ?_
          refine w_seq ?_
          refine w_f rfl ?_
          refine w_exit ?_
          refine q_e ?_
          refine q_e ?_
          refine q_hit ?_
          refine q_n ?_
          refine w_seq ?_
          refine w_reg rfl ?_
          refine v_move rfl ?_
          refine v_move rfl ?_
          refine v_assign rfl ?_
          refine v_assign rfl ?_
          refine v_nil ?_
          refine q_n ?_
          refine w_ret ?_
          refine r_r rfl ?_
          obtain rfl : i = ds.length := by omega
          rw [hst]
          exact a_tup (.cons (a_dn (dn_pt rfl gone_nil (.cons (dn_flat pe_sc pe_len rfl gone_nil rfl) (.cons (dn_flat pe_sc pe_len rfl gone_nil rfl) (.cons (dn_flat pe_sc pe_len rfl gone_nil rfl) (.cons (dn_flat int_sc int_len rfl gone_nil rfl) (.cons (dn_flat nce_sc nce_len rfl gone_nil rfl) (.cons .any (.cons .any .nil))))))))) (.cons tr_v .nil))
end Go.VL
