/- What boards behind deeds come to; marks. -/
import Derived.Test.YtbejolinihbokaaC4
import Derived.Test.YtbejolinihbokaaV41
namespace Go.VL
open Go.RowKit
set_option maxRecDepth 20000
set_option maxHeartbeats 8000000
abbrev tri (r : Int × Int × Int) : V := .tup [cI r.1, cI r.2.1, cI r.2.2]
/-- The first of the codes that is no 0: where, and which. -/
def rfR (cs : List Int) : Int × Int × Int := match cs.findIdx? (fun x => decide (x ≠ 0)) with
  | some i => (i, cs.getD i 0, 0)
  | none => (0, 0, 6)
theorem rf_none {cs : List Int} (h : ∀ x ∈ cs, x = 0) : rfR cs = (0, 0, 6) := by
  unfold rfR
  rw [List.findIdx?_eq_none_iff.2 (by simpa using h)]
theorem rf_hit {cs : List Int} {i : Nat} (hi : i < cs.length) (h : ∀ x ∈ cs.take i, x = 0) (h1 : cs[i] ≠ 0) : rfR cs = ((i : Int), cs[i], 0) := by
  unfold rfR
  rw [List.findIdx?_eq_some_iff_getElem.2 ⟨hi, by simpa using h1, fun j hj => by
    simpa using h cs[j] (by rw [List.mem_take_iff_getElem]; exact ⟨j, by omega, rfl⟩)⟩]
  simp only [gD hi]
/-- What the first refused deed is. -/
def refR (p : Int) (fs : List Int) (ds : List De) : Int × Int × Int := if gvR p fs ds ≠ 0 then (0, 0, gvR p fs ds) else rfR (stB p fs ds ds.length).2
theorem st_len (p : Int) (fs : List Int) (ds : List De) : ∀ i, (stB p fs ds i).2.length = i
  | 0 => rfl
  | i + 1 => by simp [stB, st_len p fs ds i]
theorem st_pre (p : Int) (fs : List Int) (ds : List De) (i : Nat) : ∀ j, (stB p fs ds (i + j)).2.take i = (stB p fs ds i).2
  | 0 => by rw [Nat.add_zero, List.take_of_length_le (by rw [st_len]; exact Nat.le_refl _)]
  | j + 1 => by
    rw [← Nat.add_assoc]
    simp only [stB]
    rw [List.take_append_of_le_length (by rw [st_len]; omega), st_pre p fs ds i j]
theorem st_take {p : Int} {fs : List Int} {ds : List De} {i n : Nat} (h : i ≤ n) : (stB p fs ds n).2.take i = (stB p fs ds i).2 := by
  obtain ⟨j, rfl⟩ := Nat.exists_eq_add_of_le h
  exact st_pre p fs ds i j
theorem st_at {p : Int} {fs : List Int} {ds : List De} {i n : Nat} {b : Bd} {cs : List Int} (hi : i < n) (hl : i < ds.length) (hst : stB p fs ds i = (b, cs)) : (stB p fs ds n).2[i]'(by rw [st_len]; exact hi) = (doB p b ds[i]).2 := by
  have h1 := st_take (p := p) (fs := fs) (ds := ds) (show i + 1 ≤ n from hi)
  have h2 : (stB p fs ds n).2[i]? = ((stB p fs ds n).2.take (i + 1))[i]? := by rw [List.getElem?_take_of_lt (Nat.lt_succ_self i)]
  have hcl : cs.length = i := by have := st_len p fs ds i; rw [hst] at this; exact this
  rw [h1] at h2
  simp only [stB, hst, gD hl] at h2
  rw [List.getElem?_eq_getElem (by rw [st_len]; exact hi), List.getElem?_append_right (by omega), hcl, Nat.sub_self] at h2
  simpa using h2
theorem rf_st {p : Int} {fs : List Int} {ds : List De} {i : Nat} {b : Bd} {cs : List Int} (hg : gvR p fs ds = 0) (hi : i < ds.length) (hst : stB p fs ds i = (b, cs)) (hz : ∀ x ∈ cs, x = 0) (hc : (doB p b ds[i]).2 ≠ 0) : refR p fs ds = ((i : Int), (doB p b ds[i]).2, 0) := by
  have hat := st_at hi hi hst
  unfold refR
  rw [if_neg (by simp [hg]), rf_hit (i := i) (by rw [st_len]; exact hi) (by rw [st_take (Nat.le_of_lt hi), hst]; exact hz) (by rw [hat]; exact hc), hat]
theorem rf_end {p : Int} {fs : List Int} {ds : List De} {b : Bd} {cs : List Int} (hg : gvR p fs ds = 0) (hst : stB p fs ds ds.length = (b, cs)) (hz : ∀ x ∈ cs, x = 0) : refR p fs ds = (0, 0, 6) := by
  unfold refR
  rw [if_neg (by simp [hg]), rf_none (by rw [hst]; exact hz)]
theorem rf_bad {p : Int} {fs : List Int} {ds : List De} (hg : gvR p fs ds ≠ 0) : refR p fs ds = (0, 0, gvR p fs ds) := by
  unfold refR
  rw [if_pos hg]
theorem rf_bad2 {p : Int} {fs : List Int} {ds : List De} (hg : dcR p fs ds 0 ≠ 0) : refR p fs ds = (0, 0, dcR p fs ds 0) := by
  rw [dc_gv] at hg ⊢
  exact rf_bad hg
theorem rf_s {p : Int} {fs : List Int} {ds : List De} {i : Nat} (hg : gvR p fs ds = 0) (hi : i < (stB p fs ds ds.length).2.length) (h : ∀ x ∈ (stB p fs ds ds.length).2.take i, x = 0) (h1 : (stB p fs ds ds.length).2[i] ≠ 0) : refR p fs ds = ((i : Int), (stB p fs ds ds.length).2[i], 0) := by
  unfold refR
  rw [if_neg (by simp [hg]), rf_hit hi h h1]
theorem rf_e {p : Int} {fs : List Int} {ds : List De} (hg : gvR p fs ds = 0) (h : ∀ x ∈ (stB p fs ds ds.length).2, x = 0) : refR p fs ds = (0, 0, 6) := by
  unfold refR
  rw [if_neg (by simp [hg]), rf_none h]
theorem z_step {cs : List Int} {c : Int} (h : ∀ x ∈ cs, x = 0) (hc : c = 0) : ∀ x ∈ cs ++ [c], x = 0 := fun x hx => by
  rcases List.mem_append.1 hx with hx | hx
  · exact h x hx
  · simp at hx; rw [hx, hc]
/-- What a code of 0 says of a deed. -/
theorem cd0 {p : Int} {b : Bd} {d : De} {a : Nat} (ha : d.2.1 = a) (h : (doB p b d).2 = 0) : (3 ≤ d.1 ∧ d.1 ≤ 5 → a < b.wr.length) ∧ (d.1 = 4 → (b.wr.getD a (false, 0, 0, 0)).1 = true ∨ ¬ 10 ≤ b.wr.length) ∧
    (¬ (3 ≤ d.1 ∧ d.1 ≤ 5) → a < b.ps.length) ∧ (d.1 = 1 → ¬ p ≤ d.2.2) ∧ (d.1 = 2 → ¬ 10 ≤ b.wr.length) := by
  rw [do_cd] at h
  unfold cdB at h
  rw [ha, Int.toNat_natCast] at h
  grind
theorem do_bad {p : Int} {b : Bd} {d : De} (h : (doB p b d).2 ≠ 0) : (doB p b d).1 = b := by
  revert h
  unfold doB
  grind
theorem a_tri {H : List Ob} {r : Int × Int × Int} {x y z : Int} (h : r = (x, y, z)) : TrV H [] (.tup [cI x, cI y, cI z]) (tri r) := by
  subst h
  exact a_tup (.cons tr_v (.cons tr_v (.cons tr_v .nil)))
section
variable {all r : List Oper} {K : Sl → List Ob → Prop} {sl : Sl} {H : List Ob} {d : Tmp} {ty : TypeId} {ps : String} {af : Array Edge}
/-- A notice, deleted from the wire. -/
theorem v_del {f : Operand} {args : Array Operand} {tys : Array TypeId} {id n i q : Nat} {x : Int} {ys : List No} {H' : List Ob} (ho : H[id]? = some ⟨flat nce ys, 101, true⟩) (hn : n = ys.length) (hi : i < n) (hx : x = i)
    (hq : H.length = q) (hH : H.set id ⟨flat nce ys, 101, false⟩ ++ [⟨flat nce (ys.take i ++ ys.drop (i + 1)), 101, true⟩] = H') (hf : rho X.G sl f = .c (.fn 101 [])) (has : args.toList.map (rho X.G sl) = [.c (.mu id 0 n 4), .c (.v (.int .i64 x)), .c (.v (.int .i64 (x + 1)))])
    (h : vops X all r K (upd sl d (.c (.mu q 0 (n - 1) 4))) H') : vops X all (⟨some d, .call ⟨.value f, args, tys⟩, ty, ps, af, none⟩ :: r) K sl H := by
  subst hH hq hx
  simp only [vops, vguard, vop, callOf, hf, target, putV, has, List.map_nil, List.append_nil]
  exact c101 (Q := fun res H' => vops X all r K (upd sl d res) H') ho hn hi h
end
/-- How many of the codes are 0. -/
def cz (cs : List Int) : Int := (cs.filter (fun c => decide (c = 0))).length
theorem cz_len (cs : List Int) : 0 ≤ cz cs ∧ cz cs ≤ cs.length := ⟨by unfold cz; omega, by unfold cz; have := List.length_filter_le (fun c => decide (c = 0)) cs; omega⟩
theorem cz_ne {cs : List Int} {c : Int} (h : c ≠ 0) : cz cs = cz (cs ++ [c]) := by
  unfold cz
  simp [List.filter_append, h]
theorem cz_eq {cs : List Int} {c : Int} (h : c = 0) : cz cs + 1 = cz (cs ++ [c]) := by
  unfold cz
  simp [List.filter_append, h]
theorem tr_i {H : List Ob} {g : List (Option Nat)} {a b : Int} (h : a = b) : TrV H g (cI a) (cI b) := by rw [h]; exact tr_v
/-- The program's board, looked at by what has asked for it. -/
def bdw (b : Bd) : List C := [.sl true b.nw.length 2 (flat pe b.nw), .sl true b.ps.length 2 (flat pe b.ps), .sl true b.sv.length 2 (flat pe b.sv), .sl true b.kn.length 1 (flat int b.kn), .sl true b.wr.length 4 (flat nce b.wr), .any, .any]
theorem st_ok {p : Int} {fs : List Int} {ds : List De} (hds : ∀ d ∈ ds, dOk d) : ∀ i, i ≤ ds.length → okB fs.length i (stB p fs ds i).1
  | 0, _ => ok_0 fs
  | i + 1, h => by
    have h1 := st_ok (p := p) (fs := fs) hds i (by omega)
    exact ok_do (p := p) (d := ds[i]) (c := (doB p (stB p fs ds i).1 ds[i]).2) h1 (hds _ (List.getElem_mem (by omega))) (by simp only [stB, gD (show i < ds.length by omega)])
abbrev poV (r : Po × Int) : V := .tup [.agg (pe r.1), cI r.2]
/-- A post behind all deeds. -/
def postR (p : Int) (fs : List Int) (ds : List De) (q : Int) : Po × Int := if dcR p fs ds q ≠ 0 then ((0, 0), dcR p fs ds q) else ((stB p fs ds ds.length).1.ps.getD q.toNat (0, 0), 0)
theorem dc_ok {p : Int} {fs : List Int} {ds : List De} {q : Int} (h : dcR p fs ds q = 0) : gvR p fs ds = 0 ∧ 0 ≤ q ∧ q ≤ fs.length - 1 := by
  unfold dcR gvR at *
  grind
theorem dc_in {p : Int} {fs : List Int} {ds : List De} {q : Int} (h : gvR p fs ds = 0) (hq : 0 ≤ q ∧ q ≤ fs.length - 1) : dcR p fs ds q = 0 := by
  unfold dcR gvR at *
  grind
theorem dc_out {p : Int} {fs : List Int} {ds : List De} {q : Int} (h : gvR p fs ds = 0) (hq : ¬ (0 ≤ q ∧ q ≤ fs.length - 1)) : dcR p fs ds q = 2 := by
  unfold dcR gvR at *
  grind
theorem dc_bad {p : Int} {fs : List Int} {ds : List De} {q : Int} (h : gvR p fs ds ≠ 0) : dcR p fs ds q = gvR p fs ds := by
  unfold dcR gvR at *
  grind
theorem a_po {H : List Ob} {r : Po × Int} {x y z : Int} (h : r = ((x, y), z)) : TrV H [] (.tup [.agg [.v (.int .i64 x), .v (.int .i64 y)], cI z]) (poV r) := by
  subst h
  exact a_tup (.cons (a_agg (.cons tr_v (.cons tr_v .nil))) (.cons tr_v .nil))
theorem po_bad {p : Int} {fs : List Int} {ds : List De} {q c : Int} (h : dcR p fs ds q = c) (hc : c ≠ 0) : postR p fs ds q = ((0, 0), c) := by
  unfold postR
  rw [h, if_pos hc]
theorem po_at {p : Int} {fs : List Int} {ds : List De} {q : Int} {n : Nat} (h : dcR p fs ds q = 0) (hq : q = n) (hn : n < (stB p fs ds ds.length).1.ps.length) : postR p fs ds q = (((stB p fs ds ds.length).1.ps[n].1, (stB p fs ds ds.length).1.ps[n].2), 0) := by
  unfold postR
  rw [h, if_neg (by simp), hq, Int.toNat_natCast, gD hn]
theorem c27 (a b : Po) : PureC X 27 [.agg (pe a), .agg (pe b)] (cB (decide (a = b))) := by
  refine PureC.of_body (drawD_ok X) (fun _ _ => Go.Proofs.Try.call27 _ _) Go.Proofs.Try.func27 rfl (n := 15) rfl ?_
  refine w_seq ?_
  refine w_reg rfl ?_
  refine v_box (m := 0) (H' := [_]) lay46 rfl rfl rfl ?_
  refine v_box (m := 1) (H' := [_, _]) lay46 rfl rfl rfl ?_
  refine v_assign (c := .v (.bool false)) rfl ?_
  refine v_nil ?_
  refine q_n ?_
  refine w_seq ?_
  refine w_seq ?_
  refine w_reg rfl ?_
  refine v_fa_pt (off' := 0) lay46 rfl rfl rfl ?_
  refine v_load_pt (.c _) lay2 rfl rfl rfl rfl ?_
  refine v_fa_pt (off' := 0) lay46 rfl rfl rfl ?_
  refine v_load_pt (.c _) lay2 rfl rfl rfl rfl ?_
  refine v_neq lay2 rfl rfl (fun h1 => ?_) (fun h1 => ?_)
  · skip
    refine v_nil ?_
    refine q_n ?_
    refine w_t rfl ?_
    refine w_seq ?_
    refine w_reg rfl ?_
    refine v_assign (c := .v (.bool false)) rfl ?_
    refine v_nil ?_
    refine q_n ?_
    refine w_ret (q_r ?_)
    refine r_r rfl ?_
    exact a_b (by rw [Prod.ext_iff]; grind)
  · skip
    refine v_nil ?_
    refine q_n ?_
    refine w_f rfl ?_
    refine w_skip ?_
    refine q_n ?_
    refine w_seq ?_
    refine w_seq ?_
    refine w_reg rfl ?_
    refine v_fa_pt (off' := 1) lay46 rfl rfl rfl ?_
    refine v_load_pt (.c _) lay2 rfl rfl rfl rfl ?_
    refine v_fa_pt (off' := 1) lay46 rfl rfl rfl ?_
    refine v_load_pt (.c _) lay2 rfl rfl rfl rfl ?_
    refine v_neq lay2 rfl rfl (fun h2 => ?_) (fun h2 => ?_)
    · skip
      refine v_nil ?_
      refine q_n ?_
      refine w_t rfl ?_
      refine w_seq ?_
      refine w_reg rfl ?_
      refine v_assign (c := .v (.bool false)) rfl ?_
      refine v_nil ?_
      refine q_n ?_
      refine w_ret (q_r ?_)
      refine r_r rfl ?_
      exact a_b (by rw [Prod.ext_iff]; grind)
    · skip
      refine v_nil ?_
      refine q_n ?_
      refine w_f rfl ?_
      refine w_skip ?_
      refine q_n ?_
      refine w_seq ?_
      refine w_reg rfl ?_
      refine v_assign (c := .v (.bool true)) rfl ?_
      refine v_nil ?_
      refine q_n ?_
      refine w_ret ?_
      refine r_r rfl ?_
      exact a_b (by rw [Prod.ext_iff]; grind)

theorem rq46 {x y : Operand} {ty2 : TypeId} {ρ : Operand → V} {a b : Po} (hx : ρ x = .agg (pe a)) (hy : ρ y = .agg (pe b)) : RawQ X (.binOp .neq 46 x y ty2) ρ (cB (decide (¬ a = b))) :=
  rq_neq (X := X) (p := a = b) [(2, 0), (2, 1)] (by kernel_rfl) (by kernel_rfl) (by kernel_rfl) (by kernel_rfl)
    (fun q hq => by
      simp only [List.mem_cons, List.not_mem_nil, or_false] at hq
      rcases hq with rfl | rfl
      · exact ⟨.i64, a.1, b.1, by kernel_rfl, rfl, rfl⟩
      · exact ⟨.i64, a.2, b.2, by kernel_rfl, rfl, rfl⟩)
    ⟨fun h q _ => by rw [h], fun h => by
      have h1 := h (2, 0) (by simp)
      have h2 := h (2, 1) (by simp)
      simp [pe] at h1 h2
      exact Prod.ext h1 h2⟩ hx hy
abbrev agV (r : Bool × Int) : V := .tup [cB r.1, cI r.2]
/-- Whether all posts follow their newest plans. -/
def agR (p : Int) (fs : List Int) (ds : List De) : Bool × Int := if gvR p fs ds ≠ 0 then (false, gvR p fs ds) else (decide ((stB p fs ds ds.length).1.ps = (stB p fs ds ds.length).1.nw), 0)
theorem a_ag {H : List Ob} {r : Bool × Int} {x : Bool} {z : Int} (h : r = (x, z)) : TrV H [] (.tup [cB x, cI z]) (agV r) := by
  subst h
  exact a_tup (.cons tr_v (.cons tr_v .nil))
theorem ag_bad {p : Int} {fs : List Int} {ds : List De} (h : gvR p fs ds ≠ 0) : agR p fs ds = (false, gvR p fs ds) := by
  unfold agR
  rw [if_pos h]
theorem ag_bad2 {p : Int} {fs : List Int} {ds : List De} (h : dcR p fs ds 0 ≠ 0) : agR p fs ds = (false, dcR p fs ds 0) := by
  rw [dc_gv] at h ⊢
  exact ag_bad h
theorem ag_of {p : Int} {fs : List Int} {ds : List De} {q : Bool} (h : gvR p fs ds = 0) (hq : q = decide ((stB p fs ds ds.length).1.ps = (stB p fs ds ds.length).1.nw)) : agR p fs ds = (q, 0) := by
  unfold agR
  rw [h, if_neg (by simp), hq]
theorem take_all_eq {α : Type} {xs ys : List α} {i : Nat} (h : xs.take i = ys.take i) (h1 : i = xs.length) (h2 : ys.length = xs.length) : xs = ys := by
  subst h1
  rwa [List.take_length, ← h2, List.take_length] at h
theorem take_step_eq {α : Type} {xs ys : List α} {i : Nat} (h : xs.take i = ys.take i) (h1 : i < xs.length) (h2 : i < ys.length) (he : xs[i] = ys[i]) : xs.take (i + 1) = ys.take (i + 1) := by
  rw [List.take_succ_eq_append_getElem h1, List.take_succ_eq_append_getElem h2, h, he]
theorem ne_at {α : Type} {xs ys : List α} {i : Nat} (h1 : i < xs.length) (h2 : i < ys.length) (he : ¬ xs[i] = ys[i]) : ¬ xs = ys := by
  rintro rfl
  exact he rfl
theorem snoc_eq {α : Type} {enc : α → List C} (f : Nat → α) (i : Nat) {x : α} (h : f i = x) : flat enc ((List.range i).map f ++ [x]) = flat enc ((List.range (i + 1)).map f) := by rw [range_step, h]
/-- Which of the first posts are late. -/
def lt (b : Bd) (i : Nat) : List Int := ((List.range i).filter (fun j => decide ((b.nw.getD j (0, 0)).2 > b.kn.getD j 0))).map (fun (j : Nat) => (j : Int))
theorem lt_yes {b : Bd} {i : Nat} (h1 : i < b.nw.length) (h2 : i < b.kn.length) (h : b.nw[i].2 > b.kn[i]) : lt b i ++ [(i : Int)] = lt b (i + 1) := by
  unfold lt
  rw [List.range_succ, List.filter_append, List.map_append]
  simp [h1, h2, h]
theorem lt_no {b : Bd} {i : Nat} (h1 : i < b.nw.length) (h2 : i < b.kn.length) (h : ¬ b.nw[i].2 > b.kn[i]) : lt b i = lt b (i + 1) := by
  unfold lt
  rw [List.range_succ, List.filter_append, List.map_append]
  simp [h1, h2, h]
theorem lt_len (b : Bd) (i : Nat) : (lt b i).length ≤ i := by
  unfold lt
  rw [List.length_map]
  exact Nat.le_trans (List.length_filter_le _ _) (by simp)
/-- Which posts are late. -/
def lateR (p : Int) (fs : List Int) (ds : List De) : List Int × Int := if gvR p fs ds ≠ 0 then ([], gvR p fs ds) else (lt (stB p fs ds ds.length).1 (stB p fs ds ds.length).1.ps.length, 0)
theorem late_bad {p : Int} {fs : List Int} {ds : List De} (h : gvR p fs ds ≠ 0) : lateR p fs ds = ([], gvR p fs ds) := by
  unfold lateR
  rw [if_pos h]
theorem late_bad2 {p : Int} {fs : List Int} {ds : List De} (h : dcR p fs ds 0 ≠ 0) : lateR p fs ds = ([], dcR p fs ds 0) := by
  rw [dc_gv] at h ⊢
  exact late_bad h
theorem late_of {p : Int} {fs : List Int} {ds : List De} (h : gvR p fs ds = 0) : lateR p fs ds = (lt (stB p fs ds ds.length).1 (stB p fs ds ds.length).1.ps.length, 0) := by
  unfold lateR
  rw [h, if_neg (by simp)]
theorem late_len {p : Int} {fs : List Int} {ds : List De} : (lateR p fs ds).1.length ≤ 2 ^ 40 := by
  unfold lateR
  split
  · simp
  · rename_i h
    have h0 : gvR p fs ds = 0 := Decidable.of_not_not h
    obtain ⟨hoc, hds, hdl⟩ := gv_ok h0
    have := hoc.2.2.2.1
    have h1 := (st_ok (p := p) (fs := fs) hds ds.length (Nat.le_refl _)).ps
    have h2 := lt_len (stB p fs ds ds.length).1 (stB p fs ds ds.length).1.ps.length
    simp only
    omega
def imark (a : Int) (j : Nat) : Int := a + j
def dmark (a : Int) (j : Nat) : De := (a + 3 * j, a + 3 * j + 1, a + 3 * j + 1 + 1)
def dset1 (X : De) (b : Int) : De := (b, X.2.1, X.2.2)
def dset2 (X : De) (b : Int) : De := (X.1, b, X.2.2)
def dset3 (X : De) (b : Int) : De := (X.1, X.2.1, b)
theorem dce1 (X : De) (b : Int) : dce (dset1 X b) = setCells (dce X) 0 [.v (.int .i64 b)] := rfl
theorem dce2 (X : De) (b : Int) : dce (dset2 X b) = setCells (dce X) 1 [.v (.int .i64 b)] := rfl
theorem dce3 (X : De) (b : Int) : dce (dset3 X b) = setCells (dce X) 2 [.v (.int .i64 b)] := rfl
theorem dmark_step {a : Int} {i : Nat} {xs : List De} (h : i < xs.length) {y1 y2 y3 : De} (h3 : y3 = dmark a i) : (((marks (dmark a) i xs).set i y1).set i y2).set i y3 = marks (dmark a) (i + 1) xs := by
  rw [List.set_set, List.set_set, h3]
  exact marks_step h
theorem imark_step {a : Int} {i : Nat} {xs : List Int} (h : i < xs.length) : (marks (imark a) i xs).set i (a + i) = marks (imark a) (i + 1) xs := marks_step (f := imark a) h
theorem c22l (xs : List De) (hx : xs.length ≤ 2 ^ 40) : LiveC X 22 [.c (dcs false xs)] (.c (.mu 0 0 xs.length 3)) [⟨flat dce xs, 25, true⟩] := by
  refine LiveC.of_body (drawD_ok X) (fun _ _ => Go.Proofs.Try.call22 _ _) Go.Proofs.Try.func22 rfl (n := 23) rfl ?_
  refine w_seq ?_
  refine w_reg rfl ?_
  refine v_assign rfl ?_
  refine v_nil ?_
  refine q_n ?_
  refine w_seq ?_
  refine w_reg rfl ?_
  refine v_move rfl ?_
  refine v_len_sl lay37 rfl ?_
  refine v_make (enc := dce) (a0 := ((0, 0, 0) : De)) (m := 0) (H' := [_]) rfl lay41 lay25 rfl rfl rfl rfl (xs.length) (rfl) (by unfold maxLen; simp only []; omega) rfl rfl ?_
  refine v_assign rfl ?_
  refine v_nil ?_
  refine q_n ?_
  refine w_seq ?_
  refine w_seq ?_
  refine w_reg rfl ?_
  refine v_assign (c := .v (.int .i64 0)) rfl ?_
  refine v_nil ?_
  refine q_n ?_
  refine w_block ?_
  refine w_loop (fun k sl H => ∃ i : Nat, k = xs.length - i ∧ i ≤ xs.length ∧ sl = sls [(0, .c (dcs false xs)), (3, .c (.mu 0 0 xs.length 3)), (4, cI i)] ∧ H = [⟨flat dce (xs.take i ++ List.replicate (xs.length - i) (0, 0, 0)), 25, true⟩]) ?_ ?_
  · refine ⟨_, _, _, ?_, 0, rfl, Nat.zero_le _, rfl, rfl⟩
    exact turn [some 0] rfl rfl rfl ⟨⟨_, rfl, .stay (stays_flat dce_sc _)⟩, trivial⟩ ⟨tr_sl, tr_mu rfl, tr_v, trivial⟩
  · rintro k sl H ⟨i, rfl, hi, rfl, rfl⟩
    refine w_seq ?_
    refine w_seq ?_
    refine w_reg rfl ?_
    refine v_move rfl ?_
    refine v_move rfl ?_
    refine v_len_sl lay37 rfl ?_
    refine v_lss lay3 rfl rfl (fun h1 => ?_) (fun h1 => ?_)
    · skip
      refine v_nil ?_
      refine q_n ?_
      refine w_t rfl ?_
      refine w_skip ?_
      refine q_n ?_
      refine w_seq ?_
      refine w_block ?_
      refine w_reg rfl ?_
      refine v_move rfl ?_
      refine v_move rfl ?_
      refine v_move rfl ?_
      refine v_move rfl ?_
      have hq2 : i < _ := (by omega : i < xs.length)
      refine v_idx_n (k := 3) i dce_len lay37 lay23 rfl rfl rfl (rfl) rfl hq2 ?_
      refine v_load_vw (.agg [.v _, .v _, .v _]) lay23 rfl rfl rfl ?_
      refine v_call (c13 _) rfl rfl rfl (.cons (vw_agg (.cons vw_v (.cons vw_v (.cons vw_v .nil)))) .nil) ?_
      have hq3 : i < _ := (by omega : i < xs.length)
      refine v_idx_mu_n (k := 3) (off := 0) i lay41 lay25 rfl rfl rfl hq3 ?_
      refine v_store_flat (H' := [_]) i 0 (xs[i]) dce_len lay25 rfl rfl rfl (by omega) (by simp; omega) rfl rfl (rfl) rfl ?_
      refine v_nil ?_
      refine q_bn ?_
      refine q_n ?_
      refine w_reg rfl ?_
      refine v_move rfl ?_
      refine v_add lay3 rfl rfl (i64r (by omega)) ?_
      refine v_assign rfl ?_
      refine v_nil ?_
      refine q_n ?_
      refine ⟨_, _, _, ?_, ⟨i + 1, rfl, by omega, rfl, rfl⟩, by omega⟩
      exact turn [some 0] rfl rfl rfl ⟨⟨_, rfl, by rw [fill_step hq2]; exact .stay (stays_flat dce_sc _)⟩, trivial⟩ ⟨tr_sl, tr_mu rfl, tr_v, trivial⟩
    · skip
      refine v_nil ?_
      refine q_n ?_
      refine w_f rfl ?_
      refine w_exit ?_
      refine q_e ?_
      refine q_e ?_
      refine q_hit ?_
      refine q_n ?_
      refine w_seq ?_
      refine w_reg rfl ?_
      refine v_move rfl ?_
      refine v_assign rfl ?_
      refine v_nil ?_
      refine q_n ?_
      refine w_ret ?_
      refine r_r rfl ?_
      obtain rfl : i = xs.length := by omega
      exact l_ans [some 0] rfl rfl ⟨⟨_, rfl, trc_flat dce_sc (by simp)⟩, trivial⟩ (tr_mu rfl)

theorem c35 (xs : List Int) (a : Int) (hx : xs.length ≤ 2 ^ 40) (ha : 0 ≤ a ∧ a ≤ 2 ^ 50) : MarkC X 35 xs.length 1 2 (flat int xs) (.int .i64 a) (.int .i64 (a + xs.length)) (flat int ((List.range xs.length).map (imark a))) := by
  refine MarkC.of_body (drawD_ok X) (fun _ _ => Go.Proofs.Try.call35 _ _) Go.Proofs.Try.func35 rfl (sc_flat int_sc _) (q := 19) rfl ?_
  refine w_seq ?_
  refine w_reg rfl ?_
  refine v_assign (c := .v (.int .i64 0)) rfl ?_
  refine v_nil ?_
  refine q_n ?_
  refine w_seq ?_
  refine w_seq ?_
  refine w_reg rfl ?_
  refine v_assign (c := .v (.int .i64 0)) rfl ?_
  refine v_nil ?_
  refine q_n ?_
  refine w_block ?_
  refine w_loop (fun k sl H => ∃ i : Nat, k = xs.length - i ∧ i ≤ xs.length ∧ sl = sls [(0, .c (.mu 0 0 xs.length 1)), (1, cI (a + i)), (5, cI i)] ∧ H = [⟨flat int (marks (imark a) i xs), 2, true⟩]) ?_ ?_
  · refine ⟨_, _, _, ?_, 0, rfl, Nat.zero_le _, rfl, rfl⟩
    exact turn [some 0] rfl rfl rfl ⟨⟨_, rfl, trc_flat int_sc rfl⟩, trivial⟩ ⟨tr_mu rfl, tr_i (by simp), tr_v, trivial⟩
  · rintro k sl H ⟨i, rfl, hi, rfl, rfl⟩
    refine w_seq ?_
    refine w_seq ?_
    refine w_reg rfl ?_
    refine v_move rfl ?_
    refine v_move rfl ?_
    refine v_len_mu lay28 rfl ?_
    refine v_lss lay3 rfl rfl (fun h1 => ?_) (fun h1 => ?_)
    · skip
      refine v_nil ?_
      refine q_n ?_
      refine w_t rfl ?_
      refine w_skip ?_
      refine q_n ?_
      refine w_seq ?_
      refine w_block ?_
      refine w_seq ?_
      refine w_reg rfl ?_
      refine v_move rfl ?_
      refine v_move rfl ?_
      refine v_move rfl ?_
      refine v_idx_mu_e (k := 1) (off := 0) (i) lay28 lay2 rfl rfl rfl (rfl) (by omega) ?_
      refine v_store_flat (H' := [_]) i 0 ((a + i)) int_len lay2 rfl rfl rfl (by omega) (by rw [marks_len (by omega)]; omega) rfl rfl (rfl) rfl ?_
      refine v_nil ?_
      refine q_n ?_
      refine w_reg rfl ?_
      refine v_move rfl ?_
      refine v_add lay3 rfl rfl (i64r (by omega)) ?_
      refine v_assign rfl ?_
      refine v_nil ?_
      refine q_bn ?_
      refine q_n ?_
      refine w_reg rfl ?_
      refine v_move rfl ?_
      refine v_add lay3 rfl rfl (i64r (by omega)) ?_
      refine v_assign rfl ?_
      refine v_nil ?_
      refine q_n ?_
      refine ⟨_, _, _, ?_, ⟨i + 1, rfl, by omega, rfl, rfl⟩, by omega⟩
      exact turn [some 0] rfl rfl rfl ⟨⟨_, rfl, trc_flat int_sc (congrArg (flat int) (imark_step (by omega)))⟩, trivial⟩ ⟨tr_mu rfl, tr_i (by push_cast; omega), tr_v, trivial⟩
    · skip
      refine v_nil ?_
      refine q_n ?_
      refine w_f rfl ?_
      refine w_exit ?_
      refine q_e ?_
      refine q_e ?_
      refine q_hit ?_
      refine q_n ?_
      refine w_seq ?_
      refine w_reg rfl ?_
      refine v_move rfl ?_
      refine v_assign rfl ?_
      refine v_nil ?_
      refine q_n ?_
      refine w_ret ?_
      refine r_r rfl ?_
      obtain rfl : i = xs.length := by omega
      exact ⟨rfl, [], by rw [← marks_all]⟩

theorem c34 (xs : List De) (a : Int) (hx : xs.length ≤ 2 ^ 40) (ha : 0 ≤ a ∧ a ≤ 2 ^ 50) : MarkC X 34 xs.length 3 25 (flat dce xs) (.int .i64 a) (.int .i64 (a + 3 * xs.length)) (flat dce ((List.range xs.length).map (dmark a))) := by
  refine MarkC.of_body (drawD_ok X) (fun _ _ => Go.Proofs.Try.call34 _ _) Go.Proofs.Try.func34 rfl (sc_flat dce_sc _) (q := 34) rfl ?_
  refine w_seq ?_
  refine w_reg rfl ?_
  refine v_assign (c := .v (.int .i64 0)) rfl ?_
  refine v_nil ?_
  refine q_n ?_
  refine w_seq ?_
  refine w_seq ?_
  refine w_reg rfl ?_
  refine v_assign (c := .v (.int .i64 0)) rfl ?_
  refine v_nil ?_
  refine q_n ?_
  refine w_block ?_
  refine w_loop (fun k sl H => ∃ i : Nat, k = xs.length - i ∧ i ≤ xs.length ∧ sl = sls [(0, .c (.mu 0 0 xs.length 3)), (1, cI (a + 3 * i)), (5, cI i)] ∧ H = [⟨flat dce (marks (dmark a) i xs), 25, true⟩]) ?_ ?_
  · refine ⟨_, _, _, ?_, 0, rfl, Nat.zero_le _, rfl, rfl⟩
    exact turn [some 0] rfl rfl rfl ⟨⟨_, rfl, trc_flat dce_sc rfl⟩, trivial⟩ ⟨tr_mu rfl, tr_i (by simp), tr_v, trivial⟩
  · rintro k sl H ⟨i, rfl, hi, rfl, rfl⟩
    refine w_seq ?_
    refine w_seq ?_
    refine w_reg rfl ?_
    refine v_move rfl ?_
    refine v_move rfl ?_
    refine v_len_mu lay41 rfl ?_
    refine v_lss lay3 rfl rfl (fun h1 => ?_) (fun h1 => ?_)
    · skip
      refine v_nil ?_
      refine q_n ?_
      refine w_t rfl ?_
      refine w_skip ?_
      refine q_n ?_
      refine w_seq ?_
      refine w_block ?_
      refine w_seq ?_
      refine w_reg rfl ?_
      refine v_move rfl ?_
      refine v_move rfl ?_
      refine v_move rfl ?_
      refine v_idx_mu_e (k := 3) (off := 0) (i) lay41 lay25 rfl rfl rfl (rfl) (by omega) ?_
      refine v_fa_pt (off' := _) lay25 rfl rfl rfl ?_
      refine v_store_flat (H' := [_]) i 0 (dset1 _ _) dce_len lay2 rfl rfl rfl (by omega) (by (try simp only [List.length_set]); rw [marks_len hi]; omega) rfl rfl (dce1 _ _) rfl ?_
      refine v_nil ?_
      refine q_n ?_
      refine w_seq ?_
      refine w_reg rfl ?_
      refine v_move rfl ?_
      refine v_add lay3 rfl rfl (i64r (by omega)) ?_
      refine v_assign rfl ?_
      refine v_nil ?_
      refine q_n ?_
      refine w_seq ?_
      refine w_reg rfl ?_
      refine v_move rfl ?_
      refine v_move rfl ?_
      refine v_move rfl ?_
      refine v_idx_mu_e (k := 3) (off := 0) (i) lay41 lay25 rfl rfl rfl (rfl) (by omega) ?_
      refine v_fa_pt (off' := _) lay25 rfl rfl rfl ?_
      refine v_store_flat (H' := [_]) i 1 (dset2 _ _) dce_len lay2 rfl rfl rfl (by omega) (by (try simp only [List.length_set]); rw [marks_len hi]; omega) rfl rfl (dce2 _ _) rfl ?_
      refine v_nil ?_
      refine q_n ?_
      refine w_seq ?_
      refine w_reg rfl ?_
      refine v_move rfl ?_
      refine v_add lay3 rfl rfl (i64r (by omega)) ?_
      refine v_assign rfl ?_
      refine v_nil ?_
      refine q_n ?_
      refine w_seq ?_
      refine w_reg rfl ?_
      refine v_move rfl ?_
      refine v_move rfl ?_
      refine v_move rfl ?_
      refine v_idx_mu_e (k := 3) (off := 0) (i) lay41 lay25 rfl rfl rfl (rfl) (by omega) ?_
      refine v_fa_pt (off' := _) lay25 rfl rfl rfl ?_
      refine v_store_flat (H' := [_]) i 2 (dset3 _ _) dce_len lay2 rfl rfl rfl (by omega) (by (try simp only [List.length_set]); rw [marks_len hi]; omega) rfl rfl (dce3 _ _) rfl ?_
      refine v_nil ?_
      refine q_n ?_
      refine w_reg rfl ?_
      refine v_move rfl ?_
      refine v_add lay3 rfl rfl (i64r (by omega)) ?_
      refine v_assign rfl ?_
      refine v_nil ?_
      refine q_bn ?_
      refine q_n ?_
      refine w_reg rfl ?_
      refine v_move rfl ?_
      refine v_add lay3 rfl rfl (i64r (by omega)) ?_
      refine v_assign rfl ?_
      refine v_nil ?_
      refine q_n ?_
      refine ⟨_, _, _, ?_, ⟨i + 1, rfl, by omega, rfl, rfl⟩, by omega⟩
      exact turn [some 0] rfl rfl rfl ⟨⟨_, rfl, trc_flat dce_sc (congrArg (flat dce) (dmark_step (by omega) (by simp only [List.getElem_set_self]; rfl)))⟩, trivial⟩ ⟨tr_mu rfl, tr_i (by push_cast; omega), tr_v, trivial⟩
    · skip
      refine v_nil ?_
      refine q_n ?_
      refine w_f rfl ?_
      refine w_exit ?_
      refine q_e ?_
      refine q_e ?_
      refine q_hit ?_
      refine q_n ?_
      refine w_seq ?_
      refine w_reg rfl ?_
      refine v_move rfl ?_
      refine v_assign rfl ?_
      refine v_nil ?_
      refine q_n ?_
      refine w_ret ?_
      refine r_r rfl ?_
      obtain rfl : i = xs.length := by omega
      exact ⟨rfl, [], by rw [← marks_all]⟩

theorem c36 (n : Nat) (a : Int) (hx : n ≤ 2 ^ 40) (ha : 0 ≤ a ∧ a ≤ 2 ^ 50) : PureC X 36 [.c (.sl false n 1 (flat int ((List.range n).map (imark a)))), cI a] (cI (a + n)) := by
  refine PureC.of_body (drawD_ok X) (fun _ _ => Go.Proofs.Try.call36 _ _) Go.Proofs.Try.func36 rfl (n := 21) rfl ?_
  refine w_seq ?_
  refine w_reg rfl ?_
  refine v_assign (c := .v (.int .i64 0)) rfl ?_
  refine v_nil ?_
  refine q_n ?_
  refine w_seq ?_
  refine w_seq ?_
  refine w_reg rfl ?_
  refine v_assign (c := .v (.int .i64 0)) rfl ?_
  refine v_nil ?_
  refine q_n ?_
  refine w_block ?_
  refine w_loop (fun k sl H => ∃ i : Nat, k = n - i ∧ i ≤ n ∧ sl = sls [(0, .c (.sl false n 1 (flat int ((List.range n).map (imark a))))), (1, cI (a + i)), (5, cI i)] ∧ H = []) ?_ ?_
  · refine ⟨_, _, _, ?_, 0, rfl, Nat.zero_le _, rfl, rfl⟩
    exact turn0 ⟨tr_sl, tr_i (by simp), tr_v, trivial⟩
  · rintro k sl H ⟨i, rfl, hi, rfl, rfl⟩
    refine w_seq ?_
    refine w_seq ?_
    refine w_reg rfl ?_
    refine v_move rfl ?_
    refine v_move rfl ?_
    refine v_len_sl lay28 rfl ?_
    refine v_lss lay3 rfl rfl (fun h1 => ?_) (fun h1 => ?_)
    · skip
      refine v_nil ?_
      refine q_n ?_
      refine w_t rfl ?_
      refine w_skip ?_
      refine q_n ?_
      refine w_seq ?_
      refine w_block ?_
      refine w_seq ?_
      refine w_seq ?_
      refine w_reg rfl ?_
      refine v_move rfl ?_
      refine v_move rfl ?_
      refine v_idx_e (k := 1) (i) int_len lay28 lay2 rfl rfl rfl (by simp) rfl (rfl) (by simp; omega) ?_
      refine v_load_vw (.c (.v _)) lay2 rfl rfl rfl ?_
      refine v_move rfl ?_
      refine v_neq lay2 rfl rfl (fun h3 => ?_) (fun h3 => ?_)
      · skip
        exact absurd (by simp [imark]) h3
      · skip
        refine v_nil ?_
        refine q_n ?_
        refine w_f rfl ?_
        refine w_skip ?_
        refine q_n ?_
        refine w_reg rfl ?_
        refine v_move rfl ?_
        refine v_add lay3 rfl rfl (i64r (by omega)) ?_
        refine v_assign rfl ?_
        refine v_nil ?_
        refine q_bn ?_
        refine q_n ?_
        refine w_reg rfl ?_
        refine v_move rfl ?_
        refine v_add lay3 rfl rfl (i64r (by omega)) ?_
        refine v_assign rfl ?_
        refine v_nil ?_
        refine q_n ?_
        refine ⟨_, _, _, ?_, ⟨i + 1, rfl, by omega, rfl, rfl⟩, by omega⟩
        exact turn0 ⟨tr_sl, tr_i (by push_cast; omega), tr_v, trivial⟩
    · skip
      refine v_nil ?_
      refine q_n ?_
      refine w_f rfl ?_
      refine w_exit ?_
      refine q_e ?_
      refine q_e ?_
      refine q_hit ?_
      refine q_n ?_
      refine w_seq ?_
      refine w_reg rfl ?_
      refine v_move rfl ?_
      refine v_assign rfl ?_
      refine v_nil ?_
      refine q_n ?_
      refine w_ret ?_
      refine r_r rfl ?_
      obtain rfl : i = n := by omega
      exact a_i rfl

theorem c55l (xs : List Int) (hx : xs.length ≤ 2 ^ 40) : LiveC X 55 [.c (ints false xs)] (.c (.mu 0 0 xs.length 1)) [⟨flat int xs, 2, true⟩] := by
  refine LiveC.of_body (drawD_ok X) (fun _ _ => Go.Proofs.Try.call55 _ _) Go.Proofs.Try.func55 rfl (n := 22) rfl ?_
  refine w_seq ?_
  refine w_reg rfl ?_
  refine v_assign rfl ?_
  refine v_nil ?_
  refine q_n ?_
  refine w_seq ?_
  refine w_reg rfl ?_
  refine v_move rfl ?_
  refine v_len_sl lay28 rfl ?_
  refine v_make (enc := int) (a0 := (0 : Int)) (m := 0) (H' := [_]) rfl lay28 lay2 rfl rfl rfl rfl (xs.length) (rfl) (by unfold maxLen; simp only []; omega) rfl rfl ?_
  refine v_assign rfl ?_
  refine v_nil ?_
  refine q_n ?_
  refine w_seq ?_
  refine w_seq ?_
  refine w_reg rfl ?_
  refine v_assign (c := .v (.int .i64 0)) rfl ?_
  refine v_nil ?_
  refine q_n ?_
  refine w_block ?_
  refine w_loop (fun k sl H => ∃ i : Nat, k = xs.length - i ∧ i ≤ xs.length ∧ sl = sls [(0, .c (ints false xs)), (3, .c (.mu 0 0 xs.length 1)), (4, cI i)] ∧ H = [⟨flat int (xs.take i ++ List.replicate (xs.length - i) 0), 2, true⟩]) ?_ ?_
  · refine ⟨_, _, _, ?_, 0, rfl, Nat.zero_le _, rfl, rfl⟩
    exact turn [some 0] rfl rfl rfl ⟨⟨_, rfl, .stay (stays_flat int_sc _)⟩, trivial⟩ ⟨tr_sl, tr_mu rfl, tr_v, trivial⟩
  · rintro k sl H ⟨i, rfl, hi, rfl, rfl⟩
    refine w_seq ?_
    refine w_seq ?_
    refine w_reg rfl ?_
    refine v_move rfl ?_
    refine v_move rfl ?_
    refine v_len_sl lay28 rfl ?_
    refine v_lss lay3 rfl rfl (fun h1 => ?_) (fun h1 => ?_)
    · skip
      refine v_nil ?_
      refine q_n ?_
      refine w_t rfl ?_
      refine w_skip ?_
      refine q_n ?_
      refine w_seq ?_
      refine w_block ?_
      refine w_reg rfl ?_
      refine v_move rfl ?_
      refine v_move rfl ?_
      refine v_move rfl ?_
      refine v_move rfl ?_
      have hq2 : i < _ := (by omega : i < xs.length)
      refine v_idx_n (k := 1) i int_len lay28 lay2 rfl rfl rfl (rfl) rfl hq2 ?_
      refine v_load_vw (.c (.v _)) lay2 rfl rfl rfl ?_
      have hq3 : i < _ := (by omega : i < xs.length)
      refine v_idx_mu_n (k := 1) (off := 0) i lay28 lay2 rfl rfl rfl hq3 ?_
      refine v_store_flat (H' := [_]) i 0 (xs[i]) int_len lay2 rfl rfl rfl (by omega) (by simp; omega) rfl rfl (rfl) rfl ?_
      refine v_nil ?_
      refine q_bn ?_
      refine q_n ?_
      refine w_reg rfl ?_
      refine v_move rfl ?_
      refine v_add lay3 rfl rfl (i64r (by omega)) ?_
      refine v_assign rfl ?_
      refine v_nil ?_
      refine q_n ?_
      refine ⟨_, _, _, ?_, ⟨i + 1, rfl, by omega, rfl, rfl⟩, by omega⟩
      exact turn [some 0] rfl rfl rfl ⟨⟨_, rfl, by rw [fill_step hq2]; exact .stay (stays_flat int_sc _)⟩, trivial⟩ ⟨tr_sl, tr_mu rfl, tr_v, trivial⟩
    · skip
      refine v_nil ?_
      refine q_n ?_
      refine w_f rfl ?_
      refine w_exit ?_
      refine q_e ?_
      refine q_e ?_
      refine q_hit ?_
      refine q_n ?_
      refine w_seq ?_
      refine w_reg rfl ?_
      refine v_move rfl ?_
      refine v_assign rfl ?_
      refine v_nil ?_
      refine q_n ?_
      refine w_ret ?_
      refine r_r rfl ?_
      obtain rfl : i = xs.length := by omega
      exact l_ans [some 0] rfl rfl ⟨⟨_, rfl, trc_flat int_sc (by simp)⟩, trivial⟩ (tr_mu rfl)

theorem c17l (p : Int) (xs : List Int) (hx : xs.length ≤ 2 ^ 40) : LiveC X 17 [.agg (cen false p xs)] (.agg [.v (.int .i64 p), .mu 0 0 xs.length 1]) [⟨flat int xs, 2, true⟩] := by
  refine LiveC.of_body (drawD_ok X) (fun _ _ => Go.Proofs.Try.call17 _ _) Go.Proofs.Try.func17 rfl (n := 12) rfl ?_
  refine w_seq ?_
  refine w_reg rfl ?_
  refine v_box (m := 0) (H' := [_]) lay30 rfl rfl rfl ?_
  refine v_alloc (m := 1) (H' := [_, ⟨[.v _, .v _], 33, true⟩]) lay33 rfl rfl ?_
  refine v_nil ?_
  refine q_n ?_
  refine w_seq ?_
  refine w_reg rfl ?_
  refine v_alloc (m := 2) (H' := [_, _, ⟨[.v _, .v _], 33, true⟩]) lay33 rfl rfl ?_
  refine v_nil ?_
  refine q_n ?_
  refine w_seq ?_
  refine w_reg rfl ?_
  refine v_fa_pt (off' := 0) lay30 rfl rfl rfl ?_
  refine v_load_pt (.c _) lay2 rfl rfl rfl rfl ?_
  refine v_fa_pt (off' := 0) lay33 rfl rfl rfl ?_
  refine v_store (H' := [_, _, ⟨[_, _], 33, true⟩]) lay2 rfl rfl rfl rfl rfl rfl ?_
  refine v_nil ?_
  refine q_n ?_
  refine w_seq ?_
  refine w_reg rfl ?_
  refine v_fa_pt (off' := 1) lay30 rfl rfl rfl ?_
  refine v_load_pt (.c _) lay28 rfl rfl rfl rfl ?_
  refine v_live1 (N := 3) (H' := [_, _, _, _]) (c55l _ (by omega)) (sc_flat int_sc _) rfl rfl rfl rfl rfl rfl (.cons vw_sl .nil) ?_
  refine v_fa_pt (off' := 1) lay33 rfl rfl rfl ?_
  refine v_store (H' := [_, _, ⟨[_, _], 33, true⟩, _]) lay28 rfl rfl rfl rfl rfl rfl ?_
  refine v_nil ?_
  refine q_n ?_
  refine w_seq ?_
  refine w_reg rfl ?_
  refine v_load_pt (.agg [_, _]) lay33 rfl rfl rfl rfl ?_
  refine v_store (H' := [_, ⟨[_, _], 33, true⟩, _, _]) lay33 rfl rfl rfl rfl rfl rfl ?_
  refine v_nil ?_
  refine q_n ?_
  refine w_ret ?_
  refine r_r rfl ?_
  exact l_ans [some 3] rfl rfl ⟨⟨_, rfl, trc_flat int_sc rfl⟩, trivial⟩ (tr_agg (.cons tr_v (.cons (tr_mu rfl) .nil)))
end Go.VL
