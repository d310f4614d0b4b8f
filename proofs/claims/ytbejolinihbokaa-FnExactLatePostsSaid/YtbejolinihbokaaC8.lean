/- The post behind all deeds: both walks, and the law's. -/
import Derived.Test.YtbejolinihbokaaC7
import Derived.Test.YtbejolinihbokaaC6
namespace Go.VL
open Go.RowKit
set_option maxRecDepth 20000
set_option maxHeartbeats 8000000
theorem st_ok {p : Int} {fs : List Int} {ds : List De} (hds : ∀ d ∈ ds, dOk d) : ∀ i, i ≤ ds.length → okB fs.length i (stB p fs ds i).1
  | 0, _ => ok_0 fs
  | i + 1, h => by
    have h1 := st_ok (p := p) (fs := fs) hds i (by omega)
    exact ok_do (p := p) (d := ds[i]) (c := (doB p (stB p fs ds i).1 ds[i]).2) h1 (hds _ (List.getElem_mem (by omega))) (by simp only [stB, gD (show i < ds.length by omega)])
abbrev poV (r : Po × Int) : V := .tup [.agg (pe r.1), cI r.2]
/-- A post behind all deeds. -/
def postR (p : Int) (fs : List Int) (ds : List De) (q : Int) : Po × Int := if dcR p fs ds q ≠ 0 then ((0, 0), dcR p fs ds q) else ((stB p fs ds ds.length).1.ps.getD q.toNat (0, 0), 0)
theorem dc_ok {p : Int} {fs : List Int} {ds : List De} {q : Int} (h : dcR p fs ds q = 0) : gvR p fs ds = 0 ∧ 0 ≤ q ∧ q ≤ fs.length - 1 := by
  unfold dcR gvR at *
  grind
theorem dc_in {p : Int} {fs : List Int} {ds : List De} {q : Int} (h : gvR p fs ds = 0) (hq : 0 ≤ q ∧ q ≤ fs.length - 1) : dcR p fs ds q = 0 := by
  unfold dcR gvR at *
  grind
theorem dc_out {p : Int} {fs : List Int} {ds : List De} {q : Int} (h : gvR p fs ds = 0) (hq : ¬ (0 ≤ q ∧ q ≤ fs.length - 1)) : dcR p fs ds q = 2 := by
  unfold dcR gvR at *
  grind
theorem dc_bad {p : Int} {fs : List Int} {ds : List De} {q : Int} (h : gvR p fs ds ≠ 0) : dcR p fs ds q = gvR p fs ds := by
  unfold dcR gvR at *
  grind
theorem a_po {H : List Ob} {r : Po × Int} {x y z : Int} (h : r = ((x, y), z)) : TrV H [] (.tup [.agg [.v (.int .i64 x), .v (.int .i64 y)], cI z]) (poV r) := by
  subst h
  exact a_tup (.cons (a_agg (.cons tr_v (.cons tr_v .nil))) (.cons tr_v .nil))
theorem po_bad {p : Int} {fs : List Int} {ds : List De} {q c : Int} (h : dcR p fs ds q = c) (hc : c ≠ 0) : postR p fs ds q = ((0, 0), c) := by
  unfold postR
  rw [h, if_pos hc]
theorem po_at {p : Int} {fs : List Int} {ds : List De} {q : Int} {n : Nat} (h : dcR p fs ds q = 0) (hq : q = n) (hn : n < (stB p fs ds ds.length).1.ps.length) : postR p fs ds q = (((stB p fs ds ds.length).1.ps[n].1, (stB p fs ds ds.length).1.ps[n].2), 0) := by
  unfold postR
  rw [h, if_neg (by simp), hq, Int.toNat_natCast, gD hn]
theorem c27 (a b : Po) : PureC X 27 [.agg (pe a), .agg (pe b)] (cB (decide (a = b))) := by
  refine PureC.of_body (drawD_ok X) (fun _ _ => Go.Proofs.Try.call27 _ _) Go.Proofs.Try.func27 rfl (n := 15) rfl ?_
  refine w_seq ?_
  refine w_reg rfl ?_
  refine v_box (m := 0) (H' := [_]) lay46 rfl rfl rfl ?_
  refine v_box (m := 1) (H' := [_, _]) lay46 rfl rfl rfl ?_
  refine v_assign (c := .v (.bool false)) rfl ?_
  refine v_nil ?_
  refine q_n ?_
  refine w_seq ?_
  refine w_seq ?_
  refine w_reg rfl ?_
  refine v_fa_pt (off' := 0) lay46 rfl rfl rfl ?_
  refine v_load_pt (.c _) lay2 rfl rfl rfl rfl ?_
  refine v_fa_pt (off' := 0) lay46 rfl rfl rfl ?_
  refine v_load_pt (.c _) lay2 rfl rfl rfl rfl ?_
  refine v_neq lay2 rfl rfl (fun h1 => ?_) (fun h1 => ?_)
  · skip
    refine v_nil ?_
    refine q_n ?_
    refine w_t rfl ?_
    refine w_seq ?_
    refine w_reg rfl ?_
    refine v_assign (c := .v (.bool false)) rfl ?_
    refine v_nil ?_
    refine q_n ?_
    refine w_ret (q_r ?_)
    refine r_r rfl ?_
    exact a_b (by rw [Prod.ext_iff]; grind)
  · skip
    refine v_nil ?_
    refine q_n ?_
    refine w_f rfl ?_
    refine w_skip ?_
    refine q_n ?_
    refine w_seq ?_
    refine w_seq ?_
    refine w_reg rfl ?_
    refine v_fa_pt (off' := 1) lay46 rfl rfl rfl ?_
    refine v_load_pt (.c _) lay2 rfl rfl rfl rfl ?_
    refine v_fa_pt (off' := 1) lay46 rfl rfl rfl ?_
    refine v_load_pt (.c _) lay2 rfl rfl rfl rfl ?_
    refine v_neq lay2 rfl rfl (fun h2 => ?_) (fun h2 => ?_)
    · skip
      refine v_nil ?_
      refine q_n ?_
      refine w_t rfl ?_
      refine w_seq ?_
      refine w_reg rfl ?_
      refine v_assign (c := .v (.bool false)) rfl ?_
      refine v_nil ?_
      refine q_n ?_
      refine w_ret (q_r ?_)
      refine r_r rfl ?_
      exact a_b (by rw [Prod.ext_iff]; grind)
    · skip
      refine v_nil ?_
      refine q_n ?_
      refine w_f rfl ?_
      refine w_skip ?_
      refine q_n ?_
      refine w_seq ?_
      refine w_reg rfl ?_
      refine v_assign (c := .v (.bool true)) rfl ?_
      refine v_nil ?_
      refine q_n ?_
      refine w_ret ?_
      refine r_r rfl ?_
      exact a_b (by rw [Prod.ext_iff]; grind)

theorem c25 (p : Int) (fs : List Int) (ds : List De) (q : Int) (hx : fs.length ≤ 2 ^ 40) (hd : ds.length ≤ 2 ^ 40) : PureC X 25 [.agg (cen false p fs), .c (dcs false ds), cI q] (poV (postR p fs ds q)) := by
  refine PureC.of_body (drawD_ok X) (fun _ _ => Go.Proofs.Try.call25 _ _) Go.Proofs.Try.func25 rfl (n := 41) rfl ?_
  refine w_seq ?_
  refine w_reg rfl ?_
  refine v_box (m := 0) (H' := [_]) lay33 rfl rfl rfl ?_
  refine v_alloc (m := 1) (H' := [_, ⟨[.v _, .v _], 46, true⟩]) lay46 rfl rfl ?_
  refine v_assign (c := .v (.int .i64 0)) rfl ?_
  refine v_nil ?_
  refine q_n ?_
  refine w_seq ?_
  refine w_reg rfl ?_
  refine v_move rfl ?_
  refine v_call (c58 _ _ _ (by omega) (by omega)) rfl rfl rfl (.cons (vw_pt rfl (.cons .v (.cons (.sl (fun h => by cases h)) .nil))) (.cons vw_sl .nil)) ?_
  refine v_assign rfl ?_
  refine v_nil ?_
  refine q_n ?_
  refine w_seq ?_
  refine w_seq ?_
  refine w_reg rfl ?_
  refine v_move rfl ?_
  refine v_eql lay2 rfl rfl (fun h1 => ?_) (fun h1 => ?_)
  · skip
    refine v_move rfl ?_
    refine v_guard_on rfl rfl ?_
    refine v_move rfl ?_
    refine v_guard_on rfl rfl ?_
    refine v_fa_pt (off' := 1) lay33 rfl rfl rfl ?_
    refine v_guard_on rfl rfl ?_
    refine v_load_pt (.c _) lay28 rfl rfl rfl rfl ?_
    refine v_guard_on rfl rfl ?_
    refine v_len_sl lay28 rfl ?_
    refine v_guard_on rfl rfl ?_
    refine v_sub lay2 rfl rfl (i64r (by omega)) ?_
    refine v_guard_on rfl rfl ?_
    refine v_callb (c64 _ _ _) rfl rfl (.cons vw_v (.cons vw_v (.cons vw_v .nil))) (fun h2 => ?_) (fun h2 => ?_)
    · skip
      refine v_guard_on rfl rfl ?_
      refine v_not false rfl rfl ?_
      refine v_pick_t rfl rfl ?_
      refine v_nil ?_
      refine q_n ?_
      refine w_f rfl ?_
      refine w_skip ?_
      refine q_n ?_
      refine w_seq ?_
      refine w_seq ?_
      refine w_reg rfl ?_
      refine v_move rfl ?_
      refine v_neq lay2 rfl rfl (fun h3 => ?_) (fun h3 => ?_)
      · skip
        exact absurd h1 h3
      · skip
        have hdc := dc_in h1 h2
        obtain ⟨hg, hq0, hq1⟩ := dc_ok hdc
        obtain ⟨hoc, hds, hdl⟩ := gv_ok hg
        have hf : fs.length ≤ 6 := hoc.2.2.2.1
        obtain ⟨n, hn⟩ : ∃ n : Nat, q = n := Int.eq_ofNat_of_zero_le hq0
        have hpl := (st_ok (p := p) (fs := fs) hds ds.length (Nat.le_refl _)).ps
        have hnl : n < (stB p fs ds ds.length).1.ps.length := by omega
        refine v_nil ?_
        refine q_n ?_
        refine w_f rfl ?_
        refine w_skip ?_
        refine q_n ?_
        refine w_seq ?_
        refine w_reg rfl ?_
        refine v_move rfl ?_
        refine v_call (c59 p fs ds (by omega) (by assumption) (by omega)) rfl rfl rfl (.cons (vw_pt rfl (.cons .v (.cons (.sl (fun h => by cases h)) .nil))) (.cons vw_sl .nil)) ?_
        refine v_move_t rfl ?_
        refine v_extract_c rfl rfl ?_
        refine v_extract_c rfl rfl ?_
        refine v_assign rfl ?_
        refine v_assign rfl ?_
        refine v_nil ?_
        refine q_n ?_
        refine w_seq ?_
        refine w_reg rfl ?_
        refine v_move rfl ?_
        refine v_nil_vw rfl ?_
        refine v_fa_vw (off' := 1) lay90 rfl rfl rfl ?_
        refine v_fa_vw (off' := 2) lay64 rfl rfl rfl ?_
        refine v_load_vw (.c (_)) lay61 rfl rfl rfl ?_
        refine v_move rfl ?_
        refine v_idx_e (k := 2) (n) pe_len lay61 lay46 rfl rfl rfl (rfl) rfl (hn) (by omega) ?_
        refine v_load_vw (.agg [.v _, .v _]) lay46 rfl rfl rfl ?_
        refine v_store (H' := [_, ⟨[_, _], 46, true⟩]) lay46 rfl rfl rfl rfl rfl rfl ?_
        refine v_assign (c := .v (.int .i64 0)) rfl ?_
        refine v_nil ?_
        refine q_n ?_
        refine w_ret ?_
        refine r_r rfl ?_
        exact a_po (po_at hdc hn hnl)
    · skip
      refine v_guard_on rfl rfl ?_
      refine v_not true rfl rfl ?_
      refine v_pick_t rfl rfl ?_
      refine v_nil ?_
      refine q_n ?_
      refine w_t rfl ?_
      refine w_reg rfl ?_
      refine v_assign (c := .v (.int .i64 2)) rfl ?_
      refine v_nil ?_
      refine q_n ?_
      refine w_seq ?_
      refine w_seq ?_
      refine w_reg rfl ?_
      refine v_move rfl ?_
      refine v_neq lay2 rfl rfl (fun h5 => ?_) (fun h5 => ?_)
      · skip
        refine v_nil ?_
        refine q_n ?_
        refine w_t rfl ?_
        refine w_seq ?_
        refine w_reg rfl ?_
        refine v_build [(0, 1), (1, 1)] [.v _, .v _] lay46 rfl rfl ?_
        refine v_move rfl ?_
        refine v_store (H' := [_, ⟨[_, _], 46, true⟩]) lay46 rfl rfl rfl rfl rfl rfl ?_
        refine v_assign rfl ?_
        refine v_nil ?_
        refine q_n ?_
        refine w_ret (q_r ?_)
        refine r_r rfl ?_
        exact a_po (po_bad (dc_out h1 h2) (by decide))
      · skip
        exact absurd h5 (by decide)
  · skip
    refine v_move rfl ?_
    refine v_guard_off rfl rfl rfl ?_
    refine v_guard_off rfl rfl rfl ?_
    refine v_guard_off rfl rfl rfl ?_
    refine v_guard_off rfl rfl rfl ?_
    refine v_guard_off rfl rfl rfl ?_
    refine v_guard_off rfl rfl rfl ?_
    refine v_guard_off rfl rfl rfl ?_
    refine v_pick_f (v := .v (.bool false)) rfl rfl ?_
    refine v_nil ?_
    refine q_n ?_
    refine w_f rfl ?_
    refine w_skip ?_
    refine q_n ?_
    refine w_seq ?_
    refine w_seq ?_
    refine w_reg rfl ?_
    refine v_move rfl ?_
    refine v_neq lay2 rfl rfl (fun h6 => ?_) (fun h6 => ?_)
    · skip
      refine v_nil ?_
      refine q_n ?_
      refine w_t rfl ?_
      refine w_seq ?_
      refine w_reg rfl ?_
      refine v_build [(0, 1), (1, 1)] [.v _, .v _] lay46 rfl rfl ?_
      refine v_move rfl ?_
      refine v_store (H' := [_, ⟨[_, _], 46, true⟩]) lay46 rfl rfl rfl rfl rfl rfl ?_
      refine v_assign rfl ?_
      refine v_nil ?_
      refine q_n ?_
      refine w_ret (q_r ?_)
      refine r_r rfl ?_
      exact a_po (po_bad (dc_bad h1) h1)
    · skip
      exact absurd h6 h1

theorem c26 (p : Int) (fs : List Int) (ds : List De) (q : Int) (hx : fs.length ≤ 2 ^ 40) (hd : ds.length ≤ 2 ^ 40) : PureC X 26 [.agg (cen false p fs), .c (dcs false ds), cI q] (poV (postR p fs ds q)) := by
  refine PureC.of_body (drawD_ok X) (fun _ _ => Go.Proofs.Try.call26 _ _) Go.Proofs.Try.func26 rfl (n := 33) rfl ?_
  refine w_seq ?_
  refine w_reg rfl ?_
  refine v_box (m := 0) (H' := [_]) lay33 rfl rfl rfl ?_
  refine v_alloc (m := 1) (H' := [_, ⟨[.v _, .v _], 46, true⟩]) lay46 rfl rfl ?_
  refine v_assign (c := .v (.int .i64 0)) rfl ?_
  refine v_nil ?_
  refine q_n ?_
  refine w_seq ?_
  refine w_seq ?_
  refine w_reg rfl ?_
  refine v_load_pt (.agg [_, _]) lay33 rfl rfl rfl rfl ?_
  refine v_move rfl ?_
  refine v_move rfl ?_
  refine v_call (c60 _ _ _ _ (by omega) (by omega)) rfl rfl rfl (.cons (vw_agg (.cons vw_v (.cons vw_sl .nil))) (.cons vw_sl (.cons vw_v .nil))) ?_
  refine v_assign rfl ?_
  refine v_nil ?_
  refine q_n ?_
  refine w_seq ?_
  refine w_reg rfl ?_
  refine v_move rfl ?_
  refine v_neq lay2 rfl rfl (fun h1 => ?_) (fun h1 => ?_)
  · skip
    refine v_nil ?_
    refine q_n ?_
    refine w_t rfl ?_
    refine w_seq ?_
    refine w_reg rfl ?_
    refine v_build [(0, 1), (1, 1)] [.v _, .v _] lay46 rfl rfl ?_
    refine v_move rfl ?_
    refine v_store (H' := [_, ⟨[_, _], 46, true⟩]) lay46 rfl rfl rfl rfl rfl rfl ?_
    refine v_assign rfl ?_
    refine v_nil ?_
    refine q_n ?_
    refine w_ret (q_r ?_)
    refine r_r rfl ?_
    exact a_po (po_bad rfl h1)
  · skip
    have hdc := h1
    obtain ⟨hg, hq0, hq1⟩ := dc_ok hdc
    obtain ⟨hoc, hds, hdl⟩ := gv_ok hg
    have hf : fs.length ≤ 6 := hoc.2.2.2.1
    obtain ⟨n, hn⟩ : ∃ n : Nat, q = n := Int.eq_ofNat_of_zero_le hq0
    have hpl := (st_ok (p := p) (fs := fs) hds ds.length (Nat.le_refl _)).ps
    have hnl : n < (stB p fs ds ds.length).1.ps.length := by omega
    refine v_nil ?_
    refine q_n ?_
    refine w_f rfl ?_
    refine w_skip ?_
    refine q_n ?_
    refine w_seq ?_
    refine w_reg rfl ?_
    refine v_load_pt (.agg [_, _]) lay33 rfl rfl rfl rfl ?_
    refine v_move rfl ?_
    refine v_call (c65 p fs ds (by omega) (by assumption) (by omega)) rfl rfl rfl (.cons (vw_agg (.cons vw_v (.cons vw_sl .nil))) (.cons vw_sl .nil)) ?_
    refine v_move_t rfl ?_
    refine v_extract_c rfl rfl ?_
    refine v_extract_c rfl rfl ?_
    refine v_assign rfl ?_
    refine v_assign rfl ?_
    refine v_nil ?_
    refine q_n ?_
    refine w_seq ?_
    refine w_reg rfl ?_
    refine v_move rfl ?_
    refine v_nil_vw rfl ?_
    refine v_fa_vw (off' := 0) lay94 rfl rfl rfl ?_
    refine v_fa_vw (off' := 1) lay64 rfl rfl rfl ?_
    refine v_load_vw (.c (_)) lay61 rfl rfl rfl ?_
    refine v_move rfl ?_
    refine v_idx_e (k := 2) (n) pe_len lay61 lay46 rfl rfl rfl (rfl) rfl (hn) (by omega) ?_
    refine v_load_vw (.agg [.v _, .v _]) lay46 rfl rfl rfl ?_
    refine v_store (H' := [_, ⟨[_, _], 46, true⟩]) lay46 rfl rfl rfl rfl rfl rfl ?_
    refine v_assign (c := .v (.int .i64 0)) rfl ?_
    refine v_nil ?_
    refine q_n ?_
    refine w_ret ?_
    refine r_r rfl ?_
    exact a_po (po_at hdc hn hnl)

theorem c6 (p : Int) (fs : List Int) (ds : List De) (q : Int) (hx : fs.length ≤ maxLen) (hd : ds.length ≤ maxLen) : PureC X 6 [.agg (cen false p fs), .c (dcs false ds), cI q] (cB true) := by
  refine PureC.of_body (drawD_ok X) (fun _ _ => Go.Proofs.Try.call6 _ _) Go.Proofs.Try.func6 rfl (n := 63) rfl ?_
  refine w_seq ?_
  refine w_reg rfl ?_
  refine v_box (m := 0) (H' := [_]) lay30 rfl rfl rfl ?_
  refine v_assign (c := .v (.bool false)) rfl ?_
  refine v_nil ?_
  refine q_n ?_
  refine w_seq ?_
  refine w_reg rfl ?_
  refine v_assign (c := .v (.int .i64 1048576)) rfl ?_
  refine v_nil ?_
  refine q_n ?_
  refine w_seq ?_
  refine w_reg rfl ?_
  refine v_load_pt (.agg [_, _]) lay30 rfl rfl rfl rfl ?_
  refine v_move rfl ?_
  refine v_call (c15 _ _ _ (by omega) hx) rfl rfl rfl (.cons (vw_agg (.cons vw_v (.cons vw_sl .nil))) (.cons vw_v .nil)) ?_
  refine v_assign rfl ?_
  refine v_nil ?_
  refine q_n ?_
  refine w_seq ?_
  refine w_seq ?_
  refine w_reg rfl ?_
  refine v_move rfl ?_
  refine v_lss lay3 rfl rfl (fun h1 => ?_) (fun h1 => ?_)
  · skip
    refine v_nil ?_
    refine q_n ?_
    refine w_t rfl ?_
    refine w_seq ?_
    refine w_reg rfl ?_
    refine v_assign (c := .v (.bool true)) rfl ?_
    refine v_nil ?_
    refine q_n ?_
    refine w_ret (q_r ?_)
    refine r_r rfl ?_
    first | exact tr_v | (exfalso; simp_all; done)
  · skip
    have hx2 : fs.length ≤ 2 ^ 40 := by unfold szr at h1; split at h1 <;> omega
    have hl0 : 0 ≤ szr fs.length 1048576 ∧ szr fs.length 1048576 ≤ 2 ^ 20 := ⟨by omega, by unfold szr; split <;> omega⟩
    refine v_nil ?_
    refine q_n ?_
    refine w_f rfl ?_
    refine w_skip ?_
    refine q_n ?_
    refine w_seq ?_
    refine w_reg rfl ?_
    refine v_move rfl ?_
    refine v_move rfl ?_
    refine v_call (c20 _ _ (by omega) (by assumption)) rfl rfl rfl (.cons vw_sl (.cons vw_v .nil)) ?_
    refine v_assign rfl ?_
    refine v_nil ?_
    refine q_n ?_
    refine w_seq ?_
    refine w_seq ?_
    refine w_reg rfl ?_
    refine v_move rfl ?_
    refine v_lss lay3 rfl rfl (fun h2 => ?_) (fun h2 => ?_)
    · skip
      refine v_nil ?_
      refine q_n ?_
      refine w_t rfl ?_
      refine w_seq ?_
      refine w_reg rfl ?_
      refine v_assign (c := .v (.bool true)) rfl ?_
      refine v_nil ?_
      refine q_n ?_
      refine w_ret (q_r ?_)
      refine r_r rfl ?_
      first | exact tr_v | (exfalso; simp_all; done)
    · skip
      have hd2 : ds.length ≤ 2 ^ 40 := by unfold szr at h2 hl0; split at h2 <;> omega
      refine v_nil ?_
      refine q_n ?_
      refine w_f rfl ?_
      refine w_skip ?_
      refine q_n ?_
      refine w_seq ?_
      refine w_reg rfl ?_
      refine v_load_pt (.agg [_, _]) lay30 rfl rfl rfl rfl ?_
      refine v_call (c17 _ _ hx2) rfl rfl rfl (.cons (vw_agg (.cons vw_v (.cons vw_sl .nil))) .nil) ?_
      refine v_move rfl ?_
      refine v_call (c22 _ (by omega)) rfl rfl rfl (.cons vw_sl .nil) ?_
      refine v_move rfl ?_
      refine v_call (c25 _ _ _ _ (by omega) (by omega)) rfl rfl rfl (.cons (vw_agg (.cons vw_v (.cons vw_sl .nil))) (.cons vw_sl (.cons vw_v .nil))) ?_
      refine v_move_t rfl ?_
      refine v_extract_a rfl rfl ?_
      refine v_extract_c rfl rfl ?_
      refine v_alloc (m := 1) (H' := [_, ⟨[.v _, .v _], 46, true⟩]) lay46 rfl rfl ?_
      refine v_store (H' := [_, ⟨[_, _], 46, true⟩]) lay46 rfl rfl rfl rfl rfl rfl ?_
      refine v_assign rfl ?_
      refine v_nil ?_
      refine q_n ?_
      refine w_seq ?_
      refine w_reg rfl ?_
      refine v_load_pt (.agg [_, _]) lay30 rfl rfl rfl rfl ?_
      refine v_call (c17 _ _ hx2) rfl rfl rfl (.cons (vw_agg (.cons vw_v (.cons vw_sl .nil))) .nil) ?_
      refine v_alloc (m := 2) (H' := [_, _, ⟨[.v _, .v _], 33, true⟩]) lay33 rfl rfl ?_
      refine v_store (H' := [_, _, ⟨[_, _], 33, true⟩]) lay33 rfl rfl rfl rfl rfl rfl ?_
      refine v_nil ?_
      refine q_n ?_
      refine w_seq ?_
      refine w_reg rfl ?_
      refine v_move rfl ?_
      refine v_call (c22 _ (by omega)) rfl rfl rfl (.cons vw_sl .nil) ?_
      refine v_assign rfl ?_
      refine v_nil ?_
      refine q_n ?_
      refine w_seq ?_
      refine w_reg rfl ?_
      refine v_load_pt (.agg [_, _]) lay33 rfl rfl rfl rfl ?_
      refine v_move rfl ?_
      refine v_move rfl ?_
      refine v_call (c26 _ _ _ _ (by omega) (by omega)) rfl rfl rfl (.cons (vw_agg (.cons vw_v (.cons vw_sl .nil))) (.cons vw_sl (.cons vw_v .nil))) ?_
      refine v_move_t rfl ?_
      refine v_extract_a rfl rfl ?_
      refine v_extract_c rfl rfl ?_
      refine v_alloc (m := 3) (H' := [_, _, _, ⟨[.v _, .v _], 46, true⟩]) lay46 rfl rfl ?_
      refine v_store (H' := [_, _, _, ⟨[_, _], 46, true⟩]) lay46 rfl rfl rfl rfl rfl rfl ?_
      refine v_assign rfl ?_
      refine v_nil ?_
      refine q_n ?_
      refine w_seq ?_
      refine w_seq ?_
      refine w_reg rfl ?_
      refine v_load_pt (.agg [_, _]) lay46 rfl rfl rfl rfl ?_
      refine v_load_pt (.agg [_, _]) lay46 rfl rfl rfl rfl ?_
      refine v_callb (c27 _ _) rfl rfl (.cons (vw_agg (.cons vw_v (.cons vw_v .nil))) (.cons (vw_agg (.cons vw_v (.cons vw_v .nil))) .nil)) (fun h3 => ?_) (fun h3 => ?_)
      · skip
        refine v_not false rfl rfl ?_
        refine v_move rfl ?_
        refine v_guard_on rfl rfl ?_
        refine v_move rfl ?_
        refine v_guard_on rfl rfl ?_
        refine v_move rfl ?_
        refine v_guard_on rfl rfl ?_
        refine v_neq lay2 rfl rfl (fun h4 => ?_) (fun h4 => ?_)
        · skip
          refine v_pick_f rfl rfl ?_
          refine v_nil ?_
          refine q_n ?_
          refine w_t rfl ?_
          refine w_seq ?_
          refine w_reg rfl ?_
          refine v_assign (c := .v (.bool false)) rfl ?_
          refine v_nil ?_
          refine q_n ?_
          refine w_ret (q_r ?_)
          refine r_r rfl ?_
          first | exact tr_v | (exfalso; simp_all; done)
        · skip
          refine v_pick_f rfl rfl ?_
          refine v_nil ?_
          refine q_n ?_
          refine w_f rfl ?_
          refine w_skip ?_
          refine q_n ?_
          refine w_seq ?_
          refine w_seq ?_
          refine w_draw [0, 0, 2, 7, 15] [⟨0, 0, []⟩, ⟨1, 0, []⟩, ⟨2, 0, []⟩, ⟨3, 0, []⟩, ⟨4, 0, []⟩] rfl rfl ?_
          refine d_q rfl rfl rfl rfl rfl ?_
          refine v_load_pt (.agg [_, _]) lay33 rfl rfl rfl rfl ?_
          refine v_nil ?_
          refine d_q rfl rfl rfl rfl rfl ?_
          refine v_load_pt (.agg [_, _]) lay30 rfl rfl rfl rfl ?_
          refine v_nil ?_
          refine d_call (c17 _ _ hx2) rfl rfl rfl rfl rfl (.cons (vw_agg (.cons vw_v (.cons vw_sl .nil))) .nil) ?_
          refine d_callb (c19 _ _ _ _ hx2) rfl rfl rfl rfl (.cons (vw_agg (.cons vw_v (.cons vw_sl .nil))) (.cons (vw_agg (.cons vw_v (.cons vw_sl .nil))) .nil)) (fun h5 => ?_) (fun h5 => ?_)
          · skip
            refine d_q rfl rfl rfl rfl rfl ?_
            refine v_not false rfl rfl ?_
            refine v_nil ?_
            refine d_nil ?_
            refine q_n ?_
            refine w_f rfl ?_
            refine w_skip ?_
            refine q_n ?_
            refine w_seq ?_
            refine w_seq ?_
            refine w_reg rfl ?_
            refine v_move rfl ?_
            refine v_move rfl ?_
            refine v_call (c22 _ (by omega)) rfl rfl rfl (.cons vw_sl .nil) ?_
            refine v_callb (c24 _ _ (by omega)) rfl rfl (.cons vw_sl (.cons vw_sl .nil)) (fun h6 => ?_) (fun h6 => ?_)
            · skip
              refine v_not false rfl rfl ?_
              refine v_nil ?_
              refine q_n ?_
              refine w_f rfl ?_
              refine w_skip ?_
              refine q_n ?_
              refine w_seq ?_
              refine w_reg rfl ?_
              refine v_assign (c := .v (.bool true)) rfl ?_
              refine v_nil ?_
              refine q_n ?_
              refine w_ret ?_
              refine r_r rfl ?_
              first | exact tr_v | (exfalso; simp_all; done)
            · skip
              refine v_not true rfl rfl ?_
              refine v_nil ?_
              refine q_n ?_
              refine w_t rfl ?_
              refine w_seq ?_
              refine w_reg rfl ?_
              refine v_assign (c := .v (.bool false)) rfl ?_
              refine v_nil ?_
              refine q_n ?_
              refine w_ret (q_r ?_)
              refine r_r rfl ?_
              first | exact tr_v | (exfalso; simp_all; done)
          · skip
            refine d_q rfl rfl rfl rfl rfl ?_
            refine v_not true rfl rfl ?_
            refine v_nil ?_
            refine d_nil ?_
            refine q_n ?_
            refine w_t rfl ?_
            refine w_seq ?_
            refine w_reg rfl ?_
            refine v_assign (c := .v (.bool false)) rfl ?_
            refine v_nil ?_
            refine q_n ?_
            refine w_ret (q_r ?_)
            refine r_r rfl ?_
            first | exact tr_v | (exfalso; simp_all; done)
      · skip
        refine v_not true rfl rfl ?_
        refine v_move rfl ?_
        refine v_guard_off rfl rfl rfl ?_
        refine v_guard_off rfl rfl rfl ?_
        refine v_guard_off rfl rfl rfl ?_
        refine v_pick_t (v := .v (.bool true)) rfl rfl ?_
        refine v_nil ?_
        refine q_n ?_
        refine w_t rfl ?_
        refine w_seq ?_
        refine w_reg rfl ?_
        refine v_assign (c := .v (.bool false)) rfl ?_
        refine v_nil ?_
        refine q_n ?_
        refine w_ret (q_r ?_)
        refine r_r rfl ?_
        first | exact tr_v | (exfalso; simp_all; done)
end Go.VL
