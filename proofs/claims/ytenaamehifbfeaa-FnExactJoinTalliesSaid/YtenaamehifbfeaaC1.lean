/- Walks: what the functions behind the law come to, on data. -/
import Derived.Test.YtenaamehifbfeaaX0
import Derived.Test.YtenaamehifbfeaaV26
namespace Go.VL
open Go.RowKit
set_option maxRecDepth 20000
abbrev cI (a : Int) : V := .c (.v (.int .i64 a))
abbrev cB (b : Bool) : V := .c (.v (.bool b))
abbrev tal (t c f : Int) : List C := [.v (.int .i64 t), .v (.int .i16 c), .v (.int .i16 f)]
abbrev det (cell : Int) (carry : Option Nat) (count : Int) (full : Option Nat) (ticks : Int) : List C := [.v (.int .i64 cell), .f .f32 carry, .v (.int .i16 count), .f .f32 full, .v (.int .i64 ticks)]
inductive TrVL (H : List Ob) (g : List (Option Nat)) : List V → List V → Prop
  | nil : TrVL H g [] []
  | cons {v v' : V} {vs vs' : List V} (h : TrV H g v v') (hs : TrVL H g vs vs') : TrVL H g (v :: vs) (v' :: vs')
theorem TrVL.spec {H : List Ob} {g : List (Option Nat)} {vs vs' : List V} (h : TrVL H g vs vs') : vs'.length = vs.length ∧ ∀ (j : Nat) (v v' : V), vs[j]? = some v → vs'[j]? = some v' → TrV H g v v' := by
  induction h with
  | nil => exact ⟨rfl, fun j c c' h => by simp at h⟩
  | cons h hs ih =>
    refine ⟨by simp [ih.1], fun j x x' hj hj' => ?_⟩
    cases j with
    | zero => simp at hj hj'; subst hj hj'; exact h
    | succ j => exact ih.2 j x x' (by simpa using hj) (by simpa using hj')
theorem a_tup {H : List Ob} {g : List (Option Nat)} {vs vs' : List V} (h : TrVL H g vs vs') : TrV H g (.tup vs) (.tup vs') := .tup h.spec.1 h.spec.2
theorem of_in {p : Prop} (h : p) : p := h
def int (a : Int) : List C := [.v (.int .i64 a)]
theorem int_len (a : Int) : (int a).length = 1 := rfl
theorem int_sc (a : Int) : (int a).all sc = true := rfl
abbrev ints (o : Bool) (xs : List Int) : C := .sl o xs.length 1 (flat int xs)
theorem a_i {H : List Ob} {a b : Int} (h : a = b) : TrV H [] (cI a) (cI b) := by rw [h]; exact tr_v
theorem all_step {α : Type} {xs : List α} {i : Nat} {p : α → Prop} (hi : i < xs.length) (h : ∀ x ∈ xs.take i, p x) (h1 : p xs[i]) : ∀ x ∈ xs.take (i + 1), p x := by
  rw [List.take_succ_eq_append_getElem hi]
  intro x hx
  rcases List.mem_append.1 hx with hx | hx
  · exact h x hx
  · simp at hx; subst hx; exact h1
def firstNZ : List Int → Int
  | [] => 0
  | x :: r => if x = 0 then firstNZ r else x
theorem firstNZ_none : ∀ {xs : List Int}, (∀ x ∈ xs, x = 0) → firstNZ xs = 0
  | [], _ => rfl
  | x :: r, h => by
    have h0 := h x (by simp)
    simp only [firstNZ, h0, if_true]
    exact firstNZ_none fun y hy => h y (by simp [hy])
theorem firstNZ_hit : ∀ {xs : List Int} {i : Nat} (hi : i < xs.length), (∀ x ∈ xs.take i, x = 0) → ¬ xs[i] = 0 → firstNZ xs = xs[i]
  | x :: r, 0, _, _, h => by simpa [firstNZ] using fun h0 => absurd h0 h
  | x :: r, i + 1, hi, hp, h => by
    have h0 := hp x (by simp)
    simp only [firstNZ, h0, if_true]
    exact firstNZ_hit (xs := r) (by simpa using hi) (fun y hy => hp y (by simp [hy])) (by simpa using h)
theorem c126 (b : Nat) : PureC X 126 [.c (.f .f64 (some b))] (.c (.v (.int .u64 b))) := pure_f64bits Go.Proofs.Try.func126 (by kernel_rfl) rfl (by kernel_rfl) (by kernel_rfl) b
theorem c110 (b : Nat) : PureC X 110 [.c (.f .f32 (some b))] (.c (.v (.int .u32 b))) := pure_f32bits Go.Proofs.Try.func110 (by kernel_rfl) rfl (by kernel_rfl) (by kernel_rfl) b
theorem i64r {a : Int} (h : -9223372036854775808 ≤ a ∧ a ≤ 9223372036854775807) : IntKind.i64.min ≤ a ∧ a ≤ IntKind.i64.max := h
theorem c104 (a lo hi : Int) : PureC X 104 [cI a, cI lo, cI hi] (cB (decide (lo ≤ a ∧ a ≤ hi))) := by
  refine PureC.of_body (drawD_ok X) (fun _ _ => Go.Proofs.Try.call104 _ _) Go.Proofs.Try.func104 rfl (n := 15) rfl ?_
  refine w_seq ?_
  refine w_reg rfl ?_
  refine v_assign (c := .v (.bool false)) rfl ?_
  refine v_nil ?_
  refine q_n ?_
  refine w_seq ?_
  refine w_reg rfl ?_
  refine v_move rfl ?_
  refine v_move rfl ?_
  refine v_geq lay2 rfl rfl (fun h1 => ?_) (fun h1 => ?_)
  · skip
    refine v_move rfl ?_
    refine v_guard_on rfl rfl ?_
    refine v_move rfl ?_
    refine v_guard_on rfl rfl ?_
    refine v_move rfl ?_
    refine v_guard_on rfl rfl ?_
    refine v_leq lay2 rfl rfl (fun h2 => ?_) (fun h2 => ?_)
    · skip
      refine v_pick_t rfl rfl ?_
      refine v_assign rfl ?_
      refine v_nil ?_
      refine q_n ?_
      refine w_ret ?_
      refine r_r rfl ?_
      exact a_b (by simp only [Bool.false_eq_true, false_iff, true_iff]; omega)
    · skip
      refine v_pick_t rfl rfl ?_
      refine v_assign rfl ?_
      refine v_nil ?_
      refine q_n ?_
      refine w_ret ?_
      refine r_r rfl ?_
      exact a_b (by simp only [Bool.false_eq_true, false_iff, true_iff]; omega)
  · skip
    refine v_move rfl ?_
    refine v_guard_off rfl rfl rfl ?_
    refine v_guard_off rfl rfl rfl ?_
    refine v_guard_off rfl rfl rfl ?_
    refine v_pick_f (v := .v (.bool false)) rfl rfl ?_
    refine v_assign rfl ?_
    refine v_nil ?_
    refine q_n ?_
    refine w_ret ?_
    refine r_r rfl ?_
    exact a_b (by simp only [Bool.false_eq_true, false_iff, true_iff]; omega)

theorem c67 (a lo hi : Int) : PureC X 67 [cI a, cI lo, cI hi] (cB (decide (lo ≤ a ∧ a ≤ hi))) := by
  refine PureC.of_body (drawD_ok X) (fun _ _ => Go.Proofs.Try.call67 _ _) Go.Proofs.Try.func67 rfl (n := 15) rfl ?_
  refine w_seq ?_
  refine w_reg rfl ?_
  refine v_assign (c := .v (.bool false)) rfl ?_
  refine v_nil ?_
  refine q_n ?_
  refine w_seq ?_
  refine w_reg rfl ?_
  refine v_move rfl ?_
  refine v_move rfl ?_
  refine v_leq lay2 rfl rfl (fun h1 => ?_) (fun h1 => ?_)
  · skip
    refine v_move rfl ?_
    refine v_guard_on rfl rfl ?_
    refine v_move rfl ?_
    refine v_guard_on rfl rfl ?_
    refine v_move rfl ?_
    refine v_guard_on rfl rfl ?_
    refine v_leq lay2 rfl rfl (fun h2 => ?_) (fun h2 => ?_)
    · skip
      refine v_pick_t rfl rfl ?_
      refine v_assign rfl ?_
      refine v_nil ?_
      refine q_n ?_
      refine w_ret ?_
      refine r_r rfl ?_
      exact a_b (by simp only [Bool.false_eq_true, false_iff, true_iff]; omega)
    · skip
      refine v_pick_t rfl rfl ?_
      refine v_assign rfl ?_
      refine v_nil ?_
      refine q_n ?_
      refine w_ret ?_
      refine r_r rfl ?_
      exact a_b (by simp only [Bool.false_eq_true, false_iff, true_iff]; omega)
  · skip
    refine v_move rfl ?_
    refine v_guard_off rfl rfl rfl ?_
    refine v_guard_off rfl rfl rfl ?_
    refine v_guard_off rfl rfl rfl ?_
    refine v_pick_f (v := .v (.bool false)) rfl rfl ?_
    refine v_assign rfl ?_
    refine v_nil ?_
    refine q_n ?_
    refine w_ret ?_
    refine r_r rfl ?_
    exact a_b (by simp only [Bool.false_eq_true, false_iff, true_iff]; omega)

theorem c18 (t c f t2 c2 f2 : Int) : PureC X 18 [.agg (tal t c f), .agg (tal t2 c2 f2)] (cB (decide (t = t2 ∧ c = c2 ∧ f = f2))) := by
  refine PureC.of_body (drawD_ok X) (fun _ _ => Go.Proofs.Try.call18 _ _) Go.Proofs.Try.func18 rfl (n := 20) rfl ?_
  refine w_seq ?_
  refine w_reg rfl ?_
  refine v_box (m := 0) (H' := [_]) lay27 rfl rfl rfl ?_
  refine v_box (m := 1) (H' := [_, _]) lay27 rfl rfl rfl ?_
  refine v_assign (c := .v (.bool false)) rfl ?_
  refine v_nil ?_
  refine q_n ?_
  refine w_seq ?_
  refine w_seq ?_
  refine w_reg rfl ?_
  refine v_fa_pt (off' := 0) lay27 rfl rfl rfl ?_
  refine v_load_pt (.c _) lay2 rfl rfl rfl rfl ?_
  refine v_fa_pt (off' := 0) lay27 rfl rfl rfl ?_
  refine v_load_pt (.c _) lay2 rfl rfl rfl rfl ?_
  refine v_neq lay2 rfl rfl (fun h1 => ?_) (fun h1 => ?_)
  · skip
    refine v_nil ?_
    refine q_n ?_
    refine w_t rfl ?_
    refine w_seq ?_
    refine w_reg rfl ?_
    refine v_assign (c := .v (.bool false)) rfl ?_
    refine v_nil ?_
    refine q_n ?_
    refine w_ret (q_r ?_)
    refine r_r rfl ?_
    exact a_b (by simp only [Bool.false_eq_true, false_iff, true_iff]; omega)
  · skip
    refine v_nil ?_
    refine q_n ?_
    refine w_f rfl ?_
    refine w_skip ?_
    refine q_n ?_
    refine w_seq ?_
    refine w_seq ?_
    refine w_reg rfl ?_
    refine v_fa_pt (off' := 1) lay27 rfl rfl rfl ?_
    refine v_load_pt (.c _) lay23 rfl rfl rfl rfl ?_
    refine v_fa_pt (off' := 1) lay27 rfl rfl rfl ?_
    refine v_load_pt (.c _) lay23 rfl rfl rfl rfl ?_
    refine v_neq lay23 rfl rfl (fun h2 => ?_) (fun h2 => ?_)
    · skip
      refine v_nil ?_
      refine q_n ?_
      refine w_t rfl ?_
      refine w_seq ?_
      refine w_reg rfl ?_
      refine v_assign (c := .v (.bool false)) rfl ?_
      refine v_nil ?_
      refine q_n ?_
      refine w_ret (q_r ?_)
      refine r_r rfl ?_
      exact a_b (by simp only [Bool.false_eq_true, false_iff, true_iff]; omega)
    · skip
      refine v_nil ?_
      refine q_n ?_
      refine w_f rfl ?_
      refine w_skip ?_
      refine q_n ?_
      refine w_seq ?_
      refine w_seq ?_
      refine w_reg rfl ?_
      refine v_fa_pt (off' := 2) lay27 rfl rfl rfl ?_
      refine v_load_pt (.c _) lay23 rfl rfl rfl rfl ?_
      refine v_fa_pt (off' := 2) lay27 rfl rfl rfl ?_
      refine v_load_pt (.c _) lay23 rfl rfl rfl rfl ?_
      refine v_neq lay23 rfl rfl (fun h3 => ?_) (fun h3 => ?_)
      · skip
        refine v_nil ?_
        refine q_n ?_
        refine w_t rfl ?_
        refine w_seq ?_
        refine w_reg rfl ?_
        refine v_assign (c := .v (.bool false)) rfl ?_
        refine v_nil ?_
        refine q_n ?_
        refine w_ret (q_r ?_)
        refine r_r rfl ?_
        exact a_b (by simp only [Bool.false_eq_true, false_iff, true_iff]; omega)
      · skip
        refine v_nil ?_
        refine q_n ?_
        refine w_f rfl ?_
        refine w_skip ?_
        refine q_n ?_
        refine w_seq ?_
        refine w_reg rfl ?_
        refine v_assign (c := .v (.bool true)) rfl ?_
        refine v_nil ?_
        refine q_n ?_
        refine w_ret ?_
        refine r_r rfl ?_
        exact a_b (by simp only [Bool.false_eq_true, false_iff, true_iff]; omega)

theorem c62 (a : Int) : PureC X 62 [cI a] (cB (decide (0 ≤ a ∧ a ≤ 65535))) := by
  refine PureC.of_body (drawD_ok X) (fun _ _ => Go.Proofs.Try.call62 _ _) Go.Proofs.Try.func62 rfl (n := 5) rfl ?_
  refine w_seq ?_
  refine w_reg rfl ?_
  refine v_assign (c := .v (.bool false)) rfl ?_
  refine v_nil ?_
  refine q_n ?_
  refine w_seq ?_
  refine w_reg rfl ?_
  refine v_move rfl ?_
  refine v_callb (c104 _ _ _) rfl rfl (.cons vw_v (.cons vw_v (.cons vw_v .nil))) (fun h1 => ?_) (fun h1 => ?_)
  · skip
    refine v_assign rfl ?_
    refine v_nil ?_
    refine q_n ?_
    refine w_ret ?_
    refine r_r rfl ?_
    exact a_b (by simp_all)
  · skip
    refine v_assign rfl ?_
    refine v_nil ?_
    refine q_n ?_
    refine w_ret ?_
    refine r_r rfl ?_
    exact a_b (by simp_all)

theorem c103 (a : Int) : PureC X 103 [cI a] (cB (decide (0 ≤ a ∧ a ≤ 14))) := by
  refine PureC.of_body (drawD_ok X) (fun _ _ => Go.Proofs.Try.call103 _ _) Go.Proofs.Try.func103 rfl (n := 5) rfl ?_
  refine w_seq ?_
  refine w_reg rfl ?_
  refine v_assign (c := .v (.bool false)) rfl ?_
  refine v_nil ?_
  refine q_n ?_
  refine w_seq ?_
  refine w_reg rfl ?_
  refine v_move rfl ?_
  refine v_callb (c104 _ _ _) rfl rfl (.cons vw_v (.cons vw_v (.cons vw_v .nil))) (fun h1 => ?_) (fun h1 => ?_)
  · skip
    refine v_assign rfl ?_
    refine v_nil ?_
    refine q_n ?_
    refine w_ret ?_
    refine r_r rfl ?_
    exact a_b (by simp_all)
  · skip
    refine v_assign rfl ?_
    refine v_nil ?_
    refine q_n ?_
    refine w_ret ?_
    refine r_r rfl ?_
    exact a_b (by simp_all)

theorem c16 (cell count ticks : Int) (carry full : Option Nat) : PureC X 16 [.agg (det cell carry count full ticks)] (.agg (det cell carry count full ticks)) := by
  refine PureC.of_body (drawD_ok X) (fun _ _ => Go.Proofs.Try.call16 _ _) Go.Proofs.Try.func16 rfl (n := 20) rfl ?_
  refine w_seq ?_
  refine w_reg rfl ?_
  refine v_box (m := 0) (H' := [_]) lay25 rfl rfl rfl ?_
  refine v_alloc (m := 1) (H' := [_, ⟨[.v _, .f _ _, .v _, .f _ _, .v _], 28, true⟩]) lay28 rfl rfl ?_
  refine v_nil ?_
  refine q_n ?_
  refine w_seq ?_
  refine w_reg rfl ?_
  refine v_alloc (m := 2) (H' := [_, _, ⟨[.v _, .f _ _, .v _, .f _ _, .v _], 28, true⟩]) lay28 rfl rfl ?_
  refine v_nil ?_
  refine q_n ?_
  refine w_seq ?_
  refine w_reg rfl ?_
  refine v_fa_pt (off' := 0) lay25 rfl rfl rfl ?_
  refine v_load_pt (.c _) lay2 rfl rfl rfl rfl ?_
  refine v_fa_pt (off' := 0) lay28 rfl rfl rfl ?_
  refine v_store (H' := [_, _, ⟨[_, _, _, _, _], 28, true⟩]) lay2 rfl rfl rfl rfl rfl rfl ?_
  refine v_nil ?_
  refine q_n ?_
  refine w_seq ?_
  refine w_reg rfl ?_
  refine v_fa_pt (off' := 1) lay25 rfl rfl rfl ?_
  refine v_load_pt (.c _) lay22 rfl rfl rfl rfl ?_
  refine v_fa_pt (off' := 1) lay28 rfl rfl rfl ?_
  refine v_store (H' := [_, _, ⟨[_, _, _, _, _], 28, true⟩]) lay22 rfl rfl rfl rfl rfl rfl ?_
  refine v_nil ?_
  refine q_n ?_
  refine w_seq ?_
  refine w_reg rfl ?_
  refine v_fa_pt (off' := 2) lay25 rfl rfl rfl ?_
  refine v_load_pt (.c _) lay23 rfl rfl rfl rfl ?_
  refine v_fa_pt (off' := 2) lay28 rfl rfl rfl ?_
  refine v_store (H' := [_, _, ⟨[_, _, _, _, _], 28, true⟩]) lay23 rfl rfl rfl rfl rfl rfl ?_
  refine v_nil ?_
  refine q_n ?_
  refine w_seq ?_
  refine w_reg rfl ?_
  refine v_fa_pt (off' := 3) lay25 rfl rfl rfl ?_
  refine v_load_pt (.c _) lay22 rfl rfl rfl rfl ?_
  refine v_fa_pt (off' := 3) lay28 rfl rfl rfl ?_
  refine v_store (H' := [_, _, ⟨[_, _, _, _, _], 28, true⟩]) lay22 rfl rfl rfl rfl rfl rfl ?_
  refine v_nil ?_
  refine q_n ?_
  refine w_seq ?_
  refine w_reg rfl ?_
  refine v_fa_pt (off' := 4) lay25 rfl rfl rfl ?_
  refine v_load_pt (.c _) lay2 rfl rfl rfl rfl ?_
  refine v_fa_pt (off' := 4) lay28 rfl rfl rfl ?_
  refine v_store (H' := [_, _, ⟨[_, _, _, _, _], 28, true⟩]) lay2 rfl rfl rfl rfl rfl rfl ?_
  refine v_nil ?_
  refine q_n ?_
  refine w_seq ?_
  refine w_reg rfl ?_
  refine v_load_pt (.agg [_, _, _, _, _]) lay28 rfl rfl rfl rfl ?_
  refine v_store (H' := [_, ⟨[_, _, _, _, _], 28, true⟩, _]) lay28 rfl rfl rfl rfl rfl rfl ?_
  refine v_nil ?_
  refine q_n ?_
  refine w_ret ?_
  refine r_r rfl ?_
  exact a_agg (.cons tr_v (.cons tr_f (.cons tr_v (.cons tr_f (.cons tr_v .nil)))))

theorem c65t (x : Int) : PureC X 65 [cB true, cI x] (cI x) := by
  refine PureC.of_body (drawD_ok X) (fun _ _ => Go.Proofs.Try.call65 _ _) Go.Proofs.Try.func65 rfl (n := 7) rfl ?_
  refine w_seq ?_
  refine w_reg rfl ?_
  refine v_assign (c := .v (.int .i64 0)) rfl ?_
  refine v_nil ?_
  refine q_n ?_
  refine w_seq ?_
  refine w_seq ?_
  refine w_reg rfl ?_
  refine v_move rfl ?_
  refine v_nil ?_
  refine q_n ?_
  refine w_t rfl ?_
  refine w_seq ?_
  refine w_reg rfl ?_
  refine v_move rfl ?_
  refine v_assign rfl ?_
  refine v_nil ?_
  refine q_n ?_
  refine w_ret (q_r ?_)
  refine r_r rfl ?_
  exact tr_v

theorem c65f (x : Int) : PureC X 65 [cB false, cI x] (cI 0) := by
  refine PureC.of_body (drawD_ok X) (fun _ _ => Go.Proofs.Try.call65 _ _) Go.Proofs.Try.func65 rfl (n := 7) rfl ?_
  refine w_seq ?_
  refine w_reg rfl ?_
  refine v_assign (c := .v (.int .i64 0)) rfl ?_
  refine v_nil ?_
  refine q_n ?_
  refine w_seq ?_
  refine w_seq ?_
  refine w_reg rfl ?_
  refine v_move rfl ?_
  refine v_nil ?_
  refine q_n ?_
  refine w_f rfl ?_
  refine w_skip ?_
  refine q_n ?_
  refine w_seq ?_
  refine w_reg rfl ?_
  refine v_assign (c := .v (.int .i64 0)) rfl ?_
  refine v_nil ?_
  refine q_n ?_
  refine w_ret ?_
  refine r_r rfl ?_
  exact tr_v

theorem c65 (b : Bool) (x : Int) : PureC X 65 [cB b, cI x] (cI (if b then x else 0)) := by
  cases b
  · exact c65f x
  · exact c65t x

theorem c64 (xs : List Int) (hx : xs.length ≤ 2 ^ 40) : PureC X 64 [.c (ints false xs)] (cI (firstNZ xs)) := by
  refine PureC.of_body (drawD_ok X) (fun _ _ => Go.Proofs.Try.call64 _ _) Go.Proofs.Try.func64 rfl (n := 15) rfl ?_
  refine w_seq ?_
  refine w_reg rfl ?_
  refine v_assign (c := .v (.int .i64 0)) rfl ?_
  refine v_nil ?_
  refine q_n ?_
  refine w_seq ?_
  refine w_seq ?_
  refine w_reg rfl ?_
  refine v_move rfl ?_
  refine v_len_sl lay118 rfl ?_
  refine v_move (c := .v (.int .i64 0)) rfl ?_
  refine v_nil ?_
  refine q_n ?_
  refine w_block ?_
  refine w_loop (fun k sl H => ∃ i : Nat, k = xs.length - i ∧ i ≤ xs.length ∧ (∀ x ∈ xs.take i, x = 0) ∧ sl = sls [(5, .c (ints false xs)), (6, cI xs.length), (7, cI i)] ∧ H = []) ?_ ?_
  · refine ⟨_, _, _, ?_, 0, rfl, Nat.zero_le _, by simp, rfl, rfl⟩
    exact turn0 ⟨tr_sl, tr_v, tr_v, trivial⟩
  · rintro k sl H ⟨i, rfl, hi, hp, rfl, rfl⟩
    refine w_seq ?_
    refine w_reg rfl ?_
    refine v_lss lay3 rfl rfl (fun h1 => ?_) (fun h1 => ?_)
    · skip
      refine v_nil ?_
      refine q_n ?_
      refine w_seq ?_
      refine w_t rfl ?_
      refine w_skip ?_
      refine q_n ?_
      refine w_seq ?_
      refine w_block ?_
      refine w_seq ?_
      refine w_reg rfl ?_
      refine v_idx (k := 1) int_len lay118 lay2 rfl rfl rfl rfl rfl (by omega) (fun q2 hq2 e2 => ?_)
      obtain rfl : i = q2 := by omega
      refine v_load_vw (.c (.v _)) lay2 rfl rfl rfl ?_
      refine v_assign rfl ?_
      refine v_nil ?_
      refine q_n ?_
      refine w_seq ?_
      refine w_reg rfl ?_
      refine v_move rfl ?_
      refine v_neq lay2 rfl rfl (fun h3 => ?_) (fun h3 => ?_)
      · skip
        refine v_nil ?_
        refine q_n ?_
        refine w_t rfl ?_
        refine w_seq ?_
        refine w_reg rfl ?_
        refine v_move rfl ?_
        refine v_assign rfl ?_
        refine v_nil ?_
        refine q_n ?_
        refine w_ret (q_br (q_r (q_r (q_br (q_r ?_)))))
        refine r_r rfl ?_
        exact a_i (firstNZ_hit hq2 hp h3).symm
      · skip
        refine v_nil ?_
        refine q_n ?_
        refine w_f rfl ?_
        refine w_skip ?_
        refine q_bn ?_
        refine q_n ?_
        refine w_reg rfl ?_
        refine v_add lay3 rfl rfl (i64r (by omega)) ?_
        refine v_move rfl ?_
        refine v_nil ?_
        refine q_n ?_
        refine ⟨_, _, _, ?_, ⟨i + 1, rfl, by omega, ?_, rfl, rfl⟩, by omega⟩
        · exact turn0 ⟨tr_sl, tr_v, tr_v, trivial⟩
        · exact all_step hq2 hp h3
    · skip
      refine v_nil ?_
      refine q_n ?_
      refine w_seq ?_
      refine w_f rfl ?_
      refine w_exit ?_
      refine q_e ?_
      refine q_e ?_
      refine q_hit ?_
      refine q_n ?_
      refine w_seq ?_
      refine w_reg rfl ?_
      refine v_assign (c := .v (.int .i64 0)) rfl ?_
      refine v_nil ?_
      refine q_n ?_
      refine w_ret ?_
      refine r_r rfl ?_
      obtain rfl : i = xs.length := by omega
      rw [List.take_length] at hp
      exact a_i (firstNZ_none hp).symm

theorem c109 (x : Option Nat) : PureC X 109 [.c (.f .f32 x)] (cB (decide (fin x = true))) := by
  refine PureC.of_body (drawD_ok X) (fun _ _ => Go.Proofs.Try.call109 _ _) Go.Proofs.Try.func109 rfl (n := 7) rfl ?_
  refine w_seq ?_
  refine w_reg rfl ?_
  refine v_assign (c := .v (.bool false)) rfl ?_
  refine v_nil ?_
  refine q_n ?_
  refine w_seq ?_
  refine w_reg rfl ?_
  refine v_move rfl ?_
  refine v_move rfl ?_
  refine v_bin (c := .f _ _) lay22 rfl rfl rfl ?_
  refine v_binb lay22 rfl rfl rfl (fun h1 => ?_) (fun h1 => ?_)
  · skip
    refine v_assign rfl ?_
    refine v_nil ?_
    refine q_n ?_
    refine w_ret ?_
    refine r_r rfl ?_
    exact a_b ⟨fun _ => h1, fun _ => rfl⟩
  · skip
    refine v_assign rfl ?_
    refine v_nil ?_
    refine q_n ?_
    refine w_ret ?_
    refine r_r rfl ?_
    exact a_b ⟨fun h => (by cases h), fun h => absurd (h1.symm.trans h) (by simp)⟩

theorem c111 (x : Option Nat) : PureC X 111 [.c (.f .f32 x)] (cB (decide (fin x = true))) := by
  refine PureC.of_body (drawD_ok X) (fun _ _ => Go.Proofs.Try.call111 _ _) Go.Proofs.Try.func111 rfl (n := 7) rfl ?_
  refine w_seq ?_
  refine w_reg rfl ?_
  refine v_assign (c := .v (.bool false)) rfl ?_
  refine v_nil ?_
  refine q_n ?_
  refine w_seq ?_
  refine w_reg rfl ?_
  refine v_move rfl ?_
  refine v_move rfl ?_
  refine v_bin (c := .f _ _) lay22 rfl rfl rfl ?_
  refine v_binb lay22 rfl rfl rfl (fun h1 => ?_) (fun h1 => ?_)
  · skip
    refine v_assign rfl ?_
    refine v_nil ?_
    refine q_n ?_
    refine w_ret ?_
    refine r_r rfl ?_
    exact a_b ⟨fun _ => h1, fun _ => rfl⟩
  · skip
    refine v_assign rfl ?_
    refine v_nil ?_
    refine q_n ?_
    refine w_ret ?_
    refine r_r rfl ?_
    exact a_b ⟨fun h => (by cases h), fun h => absurd (h1.symm.trans h) (by simp)⟩

theorem c112 (b : Nat) : PureC X 112 [.c (.f .f64 (some b))] (cB (decide (IntKind.i64.wrap (b : Int) < 0))) := by
  refine PureC.of_body (drawD_ok X) (fun _ _ => Go.Proofs.Try.call112 _ _) Go.Proofs.Try.func112 rfl (n := 7) rfl ?_
  refine w_seq ?_
  refine w_reg rfl ?_
  refine v_assign (c := .v (.bool false)) rfl ?_
  refine v_nil ?_
  refine q_n ?_
  refine w_seq ?_
  refine w_reg rfl ?_
  refine v_move rfl ?_
  refine v_call (c126 _) rfl rfl rfl (.cons vw_f .nil) ?_
  refine v_conv_iw lay136 lay2 rfl ?_
  refine v_lss lay2 rfl rfl (fun h1 => ?_) (fun h1 => ?_)
  · skip
    refine v_assign rfl ?_
    refine v_nil ?_
    refine q_n ?_
    refine w_ret ?_
    refine r_r rfl ?_
    exact a_b (by simp_all)
  · skip
    refine v_assign rfl ?_
    refine v_nil ?_
    refine q_n ?_
    refine w_ret ?_
    refine r_r rfl ?_
    exact a_b (by simp_all)

/-- A single as data. -/
def Sg (x : Option Nat) : Prop := okF .f32 x ∧ ∀ b, x = some b → b < 2 ^ 32
/-- An amount: a number that is greater than nought, or nought with no sign. -/
def amt (b : Nat) : Prop := fin (some b) = true ∧ ((ford .f32 (some b) (fOf .f32 0) == some .gt) = true ∨ b = 0)
instance (b : Nat) : Decidable (amt b) := by unfold amt; infer_instance
def amtB : Option Nat → Bool
  | none => false
  | some b => decide (amt b)
theorem amtB_some {b : Nat} : amtB (some b) = true ↔ amt b := by simp [amtB]
theorem amt_num {b : Nat} (hb : b < 2 ^ 32) {s : Bool} {m : Nat} {e : Int} (h : FloatKind.f32.format.read b = .number s m e) : amt b ↔ s = false := by
  unfold amt
  have hf := fin_num h
  rw [num_some h] at hf
  rw [order_zero h, zero_bits hb h, hf]
  cases s <;> by_cases hm : m = 0 <;> simp [hm]
theorem ge_of_amt {b : Nat} (hb : b < 2 ^ 32) (h : amt b) : (ford .f32 (some b) (fOf .f32 0) == some .gt || ford .f32 (some b) (fOf .f32 0) == some .eq) = true := by
  obtain ⟨s, m, e, hr⟩ := num_of_fin h.1
  have hs := (amt_num hb hr).1 h
  subst hs
  rw [order_zero hr]
  by_cases hm : m = 0 <;> simp [hm]
theorem sign_amt {b w : Nat} (hb : b < 2 ^ 32) (hw : convF .f32 .f64 (some b) = some (some w)) (h : fin (some b) = true) : IntKind.i64.wrap (w : Int) < 0 ↔ ¬ amt b := by
  obtain ⟨s, m, e, hr⟩ := num_of_fin h
  rw [convF_wide hr] at hw
  simp only [Option.some.injEq] at hw
  subst hw
  obtain ⟨hm, he⟩ := read_single hr
  rw [wide_sign hm he, amt_num hb hr]
  cases s <;> simp

theorem c77s (b : Nat) : PureC X 77 [.c (.f .f32 (some b))] (cB (decide (amtB (some b) = true))) := by
  refine PureC.of_body (drawD_ok X) (fun _ _ => Go.Proofs.Try.call77 _ _) Go.Proofs.Try.func77 rfl (n := 14) rfl ?_
  refine w_seq ?_
  refine w_reg rfl ?_
  refine v_assign (c := .v (.bool false)) rfl ?_
  refine v_nil ?_
  refine q_n ?_
  refine w_seq ?_
  refine w_reg rfl ?_
  refine v_move rfl ?_
  refine v_callb (c109 _) rfl rfl (.cons vw_f .nil) (fun h1 => ?_) (fun h1 => ?_)
  · skip
    refine v_move rfl ?_
    refine v_guard_on rfl rfl ?_
    refine v_move rfl ?_
    refine v_guard_on rfl rfl ?_
    refine v_binb lay22 rfl rfl rfl (fun h2 => ?_) (fun h2 => ?_)
    · skip
      refine v_guard_on rfl rfl ?_
      refine v_move rfl ?_
      refine v_guard_off rfl rfl rfl ?_
      refine v_guard_off rfl rfl rfl ?_
      refine v_guard_off rfl rfl rfl ?_
      refine v_guard_on rfl rfl ?_
      refine v_pick_t (v := .v (.bool true)) rfl rfl ?_
      refine v_pick_t rfl rfl ?_
      refine v_assign rfl ?_
      refine v_nil ?_
      refine q_n ?_
      refine w_ret ?_
      refine r_r rfl ?_
      exact a_b ⟨fun _ => amtB_some.2 ⟨h1, .inl h2⟩, fun _ => rfl⟩
    · skip
      refine v_guard_on rfl rfl ?_
      refine v_move rfl ?_
      refine v_guard_on rfl rfl ?_
      refine v_move rfl ?_
      refine v_guard_on rfl rfl ?_
      refine v_call (c110 _) rfl rfl rfl (.cons vw_f .nil) ?_
      refine v_guard_on rfl rfl ?_
      refine v_eql lay122 rfl rfl (fun h3 => ?_) (fun h3 => ?_)
      · skip
        refine v_guard_on rfl rfl ?_
        refine v_pick_f rfl rfl ?_
        refine v_pick_t rfl rfl ?_
        refine v_assign rfl ?_
        refine v_nil ?_
        refine q_n ?_
        refine w_ret ?_
        refine r_r rfl ?_
        exact a_b ⟨fun _ => amtB_some.2 ⟨h1, .inr (by omega)⟩, fun _ => rfl⟩
      · skip
        refine v_guard_on rfl rfl ?_
        refine v_pick_f rfl rfl ?_
        refine v_pick_t rfl rfl ?_
        refine v_assign rfl ?_
        refine v_nil ?_
        refine q_n ?_
        refine w_ret ?_
        refine r_r rfl ?_
        exact a_b ⟨fun h => (by cases h), fun h => by
          rcases (amtB_some.1 h).2 with h | h
          · exact absurd (h2.symm.trans h) (by decide)
          · omega⟩
  · skip
    refine v_move rfl ?_
    refine v_guard_off rfl rfl rfl ?_
    refine v_guard_off rfl rfl rfl ?_
    refine v_guard_off rfl rfl rfl ?_
    refine v_guard_un rfl rfl ?_
    refine v_guard_un rfl rfl ?_
    refine v_guard_un rfl rfl ?_
    refine v_guard_off rfl rfl rfl ?_
    refine v_pick_f (v := .v (.bool false)) rfl rfl ?_
    refine v_assign rfl ?_
    refine v_nil ?_
    refine q_n ?_
    refine w_ret ?_
    refine r_r rfl ?_
    exact a_b ⟨fun h => (by cases h), fun h => absurd (amtB_some.1 h).1 h1⟩

theorem c77n : PureC X 77 [.c (.f .f32 none)] (cB (decide (amtB none = true))) := by
  refine PureC.of_body (drawD_ok X) (fun _ _ => Go.Proofs.Try.call77 _ _) Go.Proofs.Try.func77 rfl (n := 14) rfl ?_
  refine w_seq ?_
  refine w_reg rfl ?_
  refine v_assign (c := .v (.bool false)) rfl ?_
  refine v_nil ?_
  refine q_n ?_
  refine w_seq ?_
  refine w_reg rfl ?_
  refine v_move rfl ?_
  refine v_callb (c109 _) rfl rfl (.cons vw_f .nil) (fun h1 => ?_) (fun h1 => ?_)
  · skip
    exact absurd h1 (by decide)
  · skip
    refine v_move rfl ?_
    refine v_guard_off rfl rfl rfl ?_
    refine v_guard_off rfl rfl rfl ?_
    refine v_guard_off rfl rfl rfl ?_
    refine v_guard_un rfl rfl ?_
    refine v_guard_un rfl rfl ?_
    refine v_guard_un rfl rfl ?_
    refine v_guard_off rfl rfl rfl ?_
    refine v_pick_f (v := .v (.bool false)) rfl rfl ?_
    refine v_assign rfl ?_
    refine v_nil ?_
    refine q_n ?_
    refine w_ret ?_
    refine r_r rfl ?_
    exact a_b ⟨fun h => (by cases h), fun h => (by cases h)⟩

theorem c77 (x : Option Nat) : PureC X 77 [.c (.f .f32 x)] (cB (decide (amtB x = true))) := by
  cases x with
  | none => exact c77n
  | some b => exact c77s b

theorem c80s (b w : Nat) (hb : b < 2 ^ 32) (hw : convF .f32 .f64 (some b) = some (some w)) : PureC X 80 [.c (.f .f32 (some b))] (cB (decide (amtB (some b) = true))) := by
  refine PureC.of_body (drawD_ok X) (fun _ _ => Go.Proofs.Try.call80 _ _) Go.Proofs.Try.func80 rfl (n := 15) rfl ?_
  refine w_seq ?_
  refine w_reg rfl ?_
  refine v_assign (c := .v (.bool false)) rfl ?_
  refine v_nil ?_
  refine q_n ?_
  refine w_seq ?_
  refine w_reg rfl ?_
  refine v_move rfl ?_
  refine v_binb lay22 rfl rfl rfl (fun h1 => ?_) (fun h1 => ?_)
  · skip
    refine v_move rfl ?_
    refine v_guard_on rfl rfl ?_
    refine v_move rfl ?_
    refine v_guard_on rfl rfl ?_
    refine v_callb (c111 _) rfl rfl (.cons vw_f .nil) (fun h2 => ?_) (fun h2 => ?_)
    · skip
      refine v_pick_t rfl rfl ?_
      refine v_move rfl ?_
      refine v_guard_on rfl rfl ?_
      refine v_move rfl ?_
      refine v_guard_on rfl rfl ?_
      refine v_conv_ff _ lay22 lay85 rfl (hw) ?_
      refine v_guard_on rfl rfl ?_
      refine v_callb (c112 _) rfl rfl (.cons vw_f .nil) (fun h3 => ?_) (fun h3 => ?_)
      · skip
        refine v_guard_on rfl rfl ?_
        refine v_not false rfl rfl ?_
        refine v_pick_t rfl rfl ?_
        refine v_assign rfl ?_
        refine v_nil ?_
        refine q_n ?_
        refine w_ret ?_
        refine r_r rfl ?_
        exact a_b ⟨fun h => (by cases h), fun h => absurd (amtB_some.1 h) ((sign_amt hb hw h2).1 h3)⟩
      · skip
        refine v_guard_on rfl rfl ?_
        refine v_not true rfl rfl ?_
        refine v_pick_t rfl rfl ?_
        refine v_assign rfl ?_
        refine v_nil ?_
        refine q_n ?_
        refine w_ret ?_
        refine r_r rfl ?_
        exact a_b ⟨fun _ => amtB_some.2 (Decidable.of_not_not fun h => h3 ((sign_amt hb hw h2).2 h)), fun _ => rfl⟩
    · skip
      refine v_pick_t rfl rfl ?_
      refine v_move rfl ?_
      refine v_guard_off rfl rfl rfl ?_
      refine v_guard_off rfl rfl rfl ?_
      refine v_guard_off rfl rfl rfl ?_
      refine v_guard_off rfl rfl rfl ?_
      refine v_pick_f (v := .v (.bool false)) rfl rfl ?_
      refine v_assign rfl ?_
      refine v_nil ?_
      refine q_n ?_
      refine w_ret ?_
      refine r_r rfl ?_
      exact a_b ⟨fun h => (by cases h), fun h => absurd (amtB_some.1 h).1 h2⟩
  · skip
    refine v_move rfl ?_
    refine v_guard_off rfl rfl rfl ?_
    refine v_guard_off rfl rfl rfl ?_
    refine v_pick_f (v := .v (.bool false)) rfl rfl ?_
    refine v_move rfl ?_
    refine v_guard_off rfl rfl rfl ?_
    refine v_guard_off rfl rfl rfl ?_
    refine v_guard_off rfl rfl rfl ?_
    refine v_guard_off rfl rfl rfl ?_
    refine v_pick_f (v := .v (.bool false)) rfl rfl ?_
    refine v_assign rfl ?_
    refine v_nil ?_
    refine q_n ?_
    refine w_ret ?_
    refine r_r rfl ?_
    exact a_b ⟨fun h => (by cases h), fun h => absurd (h1.symm.trans (ge_of_amt hb (amtB_some.1 h))) (by decide)⟩

theorem c80n : PureC X 80 [.c (.f .f32 none)] (cB (decide (amtB none = true))) := by
  refine PureC.of_body (drawD_ok X) (fun _ _ => Go.Proofs.Try.call80 _ _) Go.Proofs.Try.func80 rfl (n := 15) rfl ?_
  refine w_seq ?_
  refine w_reg rfl ?_
  refine v_assign (c := .v (.bool false)) rfl ?_
  refine v_nil ?_
  refine q_n ?_
  refine w_seq ?_
  refine w_reg rfl ?_
  refine v_move rfl ?_
  refine v_binb lay22 rfl rfl rfl (fun h1 => ?_) (fun h1 => ?_)
  · skip
    exact absurd h1 (by decide)
  · skip
    refine v_move rfl ?_
    refine v_guard_off rfl rfl rfl ?_
    refine v_guard_off rfl rfl rfl ?_
    refine v_pick_f (v := .v (.bool false)) rfl rfl ?_
    refine v_move rfl ?_
    refine v_guard_off rfl rfl rfl ?_
    refine v_guard_off rfl rfl rfl ?_
    refine v_guard_off rfl rfl rfl ?_
    refine v_guard_off rfl rfl rfl ?_
    refine v_pick_f (v := .v (.bool false)) rfl rfl ?_
    refine v_assign rfl ?_
    refine v_nil ?_
    refine q_n ?_
    refine w_ret ?_
    refine r_r rfl ?_
    exact a_b ⟨fun h => (by cases h), fun h => (by cases h)⟩

theorem c80 (x : Option Nat) (hx : Sg x) : PureC X 80 [.c (.f .f32 x)] (cB (decide (amtB x = true))) := by
  cases x with
  | none => exact c80n
  | some b =>
    obtain ⟨w, hw, -⟩ := wide_some hx.1
    exact c80s b w (hx.2 b rfl) hw

/-- A detector that is valid. -/
def dOk (cell : Int) (carry : Option Nat) (count : Int) (full : Option Nat) (ticks : Int) : Prop :=
  (0 ≤ cell ∧ cell ≤ 14) ∧ amtB carry = true ∧ (ford .f32 carry (fOf .f32 1065353216) == some .lt) = true ∧ 0 ≤ count ∧ amtB full = true ∧ 0 ≤ ticks ∧ ticks ≤ 1000000
instance (cell : Int) (carry : Option Nat) (count : Int) (full : Option Nat) (ticks : Int) : Decidable (dOk cell carry count full ticks) := by unfold dOk; infer_instance

theorem c66 (cell count ticks : Int) (carry full : Option Nat) (hc : Sg carry) (hf : Sg full) : PureC X 66 [.agg (det cell carry count full ticks)] (cB (decide (dOk cell carry count full ticks))) := by
  refine PureC.of_body (drawD_ok X) (fun _ _ => Go.Proofs.Try.call66 _ _) Go.Proofs.Try.func66 rfl (n := 31) rfl ?_
  refine w_seq ?_
  refine w_reg rfl ?_
  refine v_box (m := 0) (H' := [_]) lay28 rfl rfl rfl ?_
  refine v_assign (c := .v (.bool false)) rfl ?_
  refine v_nil ?_
  refine q_n ?_
  refine w_seq ?_
  refine w_reg rfl ?_
  refine v_fa_pt (off' := 0) lay28 rfl rfl rfl ?_
  refine v_load_pt (.c _) lay2 rfl rfl rfl rfl ?_
  refine v_callb (c67 _ _ _) rfl rfl (.cons vw_v (.cons vw_v (.cons vw_v .nil))) (fun h1 => ?_) (fun h1 => ?_)
  · skip
    refine v_move rfl ?_
    refine v_guard_on rfl rfl ?_
    refine v_fa_pt (off' := 1) lay28 rfl rfl rfl ?_
    refine v_guard_on rfl rfl ?_
    refine v_load_pt (.c _) lay22 rfl rfl rfl rfl ?_
    refine v_guard_on rfl rfl ?_
    refine v_callb (c80 _ (by assumption)) rfl rfl (.cons vw_f .nil) (fun h2 => ?_) (fun h2 => ?_)
    · skip
      refine v_pick_t rfl rfl ?_
      refine v_move rfl ?_
      refine v_guard_on rfl rfl ?_
      refine v_fa_pt (off' := 1) lay28 rfl rfl rfl ?_
      refine v_guard_on rfl rfl ?_
      refine v_load_pt (.c _) lay22 rfl rfl rfl rfl ?_
      refine v_guard_on rfl rfl ?_
      refine v_binb lay22 rfl rfl rfl (fun h3 => ?_) (fun h3 => ?_)
      · skip
        refine v_pick_t rfl rfl ?_
        refine v_move rfl ?_
        refine v_guard_on rfl rfl ?_
        refine v_fa_pt (off' := 2) lay28 rfl rfl rfl ?_
        refine v_guard_on rfl rfl ?_
        refine v_load_pt (.c _) lay23 rfl rfl rfl rfl ?_
        refine v_guard_on rfl rfl ?_
        refine v_geq lay23 rfl rfl (fun h4 => ?_) (fun h4 => ?_)
        · skip
          refine v_pick_t rfl rfl ?_
          refine v_move rfl ?_
          refine v_guard_on rfl rfl ?_
          refine v_fa_pt (off' := 3) lay28 rfl rfl rfl ?_
          refine v_guard_on rfl rfl ?_
          refine v_load_pt (.c _) lay22 rfl rfl rfl rfl ?_
          refine v_guard_on rfl rfl ?_
          refine v_callb (c80 _ (by assumption)) rfl rfl (.cons vw_f .nil) (fun h5 => ?_) (fun h5 => ?_)
          · skip
            refine v_pick_t rfl rfl ?_
            refine v_move rfl ?_
            refine v_guard_on rfl rfl ?_
            refine v_fa_pt (off' := 4) lay28 rfl rfl rfl ?_
            refine v_guard_on rfl rfl ?_
            refine v_load_pt (.c _) lay2 rfl rfl rfl rfl ?_
            refine v_guard_on rfl rfl ?_
            refine v_callb (c67 _ _ _) rfl rfl (.cons vw_v (.cons vw_v (.cons vw_v .nil))) (fun h6 => ?_) (fun h6 => ?_)
            · skip
              refine v_pick_t rfl rfl ?_
              refine v_assign rfl ?_
              refine v_nil ?_
              refine q_n ?_
              refine w_ret ?_
              refine r_r rfl ?_
              exact a_b ⟨fun _ => ⟨h1, h2, h3, h4, h5, h6⟩, fun _ => rfl⟩
            · skip
              refine v_pick_t rfl rfl ?_
              refine v_assign rfl ?_
              refine v_nil ?_
              refine q_n ?_
              refine w_ret ?_
              refine r_r rfl ?_
              exact a_b ⟨fun h => (by cases h), fun h => absurd h.2.2.2.2.2 h6⟩
          · skip
            refine v_pick_t rfl rfl ?_
            refine v_move rfl ?_
            refine v_guard_off rfl rfl rfl ?_
            refine v_guard_off rfl rfl rfl ?_
            refine v_guard_off rfl rfl rfl ?_
            refine v_pick_f (v := .v (.bool false)) rfl rfl ?_
            refine v_assign rfl ?_
            refine v_nil ?_
            refine q_n ?_
            refine w_ret ?_
            refine r_r rfl ?_
            exact a_b ⟨fun h => (by cases h), fun h => absurd h.2.2.2.2.1 h5⟩
        · skip
          refine v_pick_t rfl rfl ?_
          refine v_move rfl ?_
          refine v_guard_off rfl rfl rfl ?_
          refine v_guard_off rfl rfl rfl ?_
          refine v_guard_off rfl rfl rfl ?_
          refine v_pick_f (v := .v (.bool false)) rfl rfl ?_
          refine v_move rfl ?_
          refine v_guard_off rfl rfl rfl ?_
          refine v_guard_off rfl rfl rfl ?_
          refine v_guard_off rfl rfl rfl ?_
          refine v_pick_f (v := .v (.bool false)) rfl rfl ?_
          refine v_assign rfl ?_
          refine v_nil ?_
          refine q_n ?_
          refine w_ret ?_
          refine r_r rfl ?_
          exact a_b ⟨fun h => (by cases h), fun h => absurd h.2.2.2.1 (by omega)⟩
      · skip
        refine v_pick_t rfl rfl ?_
        refine v_move rfl ?_
        refine v_guard_off rfl rfl rfl ?_
        refine v_guard_off rfl rfl rfl ?_
        refine v_guard_off rfl rfl rfl ?_
        refine v_pick_f (v := .v (.bool false)) rfl rfl ?_
        refine v_move rfl ?_
        refine v_guard_off rfl rfl rfl ?_
        refine v_guard_off rfl rfl rfl ?_
        refine v_guard_off rfl rfl rfl ?_
        refine v_pick_f (v := .v (.bool false)) rfl rfl ?_
        refine v_move rfl ?_
        refine v_guard_off rfl rfl rfl ?_
        refine v_guard_off rfl rfl rfl ?_
        refine v_guard_off rfl rfl rfl ?_
        refine v_pick_f (v := .v (.bool false)) rfl rfl ?_
        refine v_assign rfl ?_
        refine v_nil ?_
        refine q_n ?_
        refine w_ret ?_
        refine r_r rfl ?_
        exact a_b ⟨fun h => (by cases h), fun h => absurd (h3.symm.trans h.2.2.1) (by decide)⟩
    · skip
      refine v_pick_t rfl rfl ?_
      refine v_move rfl ?_
      refine v_guard_off rfl rfl rfl ?_
      refine v_guard_off rfl rfl rfl ?_
      refine v_guard_off rfl rfl rfl ?_
      refine v_pick_f (v := .v (.bool false)) rfl rfl ?_
      refine v_move rfl ?_
      refine v_guard_off rfl rfl rfl ?_
      refine v_guard_off rfl rfl rfl ?_
      refine v_guard_off rfl rfl rfl ?_
      refine v_pick_f (v := .v (.bool false)) rfl rfl ?_
      refine v_move rfl ?_
      refine v_guard_off rfl rfl rfl ?_
      refine v_guard_off rfl rfl rfl ?_
      refine v_guard_off rfl rfl rfl ?_
      refine v_pick_f (v := .v (.bool false)) rfl rfl ?_
      refine v_move rfl ?_
      refine v_guard_off rfl rfl rfl ?_
      refine v_guard_off rfl rfl rfl ?_
      refine v_guard_off rfl rfl rfl ?_
      refine v_pick_f (v := .v (.bool false)) rfl rfl ?_
      refine v_assign rfl ?_
      refine v_nil ?_
      refine q_n ?_
      refine w_ret ?_
      refine r_r rfl ?_
      exact a_b ⟨fun h => (by cases h), fun h => absurd h.2.1 h2⟩
  · skip
    refine v_move rfl ?_
    refine v_guard_off rfl rfl rfl ?_
    refine v_guard_off rfl rfl rfl ?_
    refine v_guard_off rfl rfl rfl ?_
    refine v_pick_f (v := .v (.bool false)) rfl rfl ?_
    refine v_move rfl ?_
    refine v_guard_off rfl rfl rfl ?_
    refine v_guard_off rfl rfl rfl ?_
    refine v_guard_off rfl rfl rfl ?_
    refine v_pick_f (v := .v (.bool false)) rfl rfl ?_
    refine v_move rfl ?_
    refine v_guard_off rfl rfl rfl ?_
    refine v_guard_off rfl rfl rfl ?_
    refine v_guard_off rfl rfl rfl ?_
    refine v_pick_f (v := .v (.bool false)) rfl rfl ?_
    refine v_move rfl ?_
    refine v_guard_off rfl rfl rfl ?_
    refine v_guard_off rfl rfl rfl ?_
    refine v_guard_off rfl rfl rfl ?_
    refine v_pick_f (v := .v (.bool false)) rfl rfl ?_
    refine v_move rfl ?_
    refine v_guard_off rfl rfl rfl ?_
    refine v_guard_off rfl rfl rfl ?_
    refine v_guard_off rfl rfl rfl ?_
    refine v_pick_f (v := .v (.bool false)) rfl rfl ?_
    refine v_assign rfl ?_
    refine v_nil ?_
    refine q_n ?_
    refine w_ret ?_
    refine r_r rfl ?_
    exact a_b ⟨fun h => (by cases h), fun h => absurd h.1 h1⟩

theorem c61 (cell count ticks : Int) (carry full : Option Nat) : PureC X 61 [.c (.vw false (det cell carry count full ticks) 0)] (cB (decide (dOk cell carry count full ticks))) := by
  refine PureC.of_body (drawD_ok X) (fun _ _ => Go.Proofs.Try.call61 _ _) Go.Proofs.Try.func61 rfl (n := 43) rfl ?_
  refine w_seq ?_
  refine w_reg rfl ?_
  refine v_assign (c := .v (.bool false)) rfl ?_
  refine v_nil ?_
  refine q_n ?_
  refine w_seq ?_
  refine w_reg rfl ?_
  refine v_move rfl ?_
  refine v_nil_vw rfl ?_
  refine v_fa_vw (off' := 0) lay28 rfl rfl rfl ?_
  refine v_load_vw (.c (.v _)) lay2 rfl rfl rfl ?_
  refine v_callb (c103 _) rfl rfl (.cons vw_v .nil) (fun h1 => ?_) (fun h1 => ?_)
  · skip
    refine v_move rfl ?_
    refine v_guard_on rfl rfl ?_
    refine v_move rfl ?_
    refine v_guard_on rfl rfl ?_
    refine v_nil_vw rfl ?_
    refine v_guard_on rfl rfl ?_
    refine v_fa_vw (off' := 1) lay28 rfl rfl rfl ?_
    refine v_guard_on rfl rfl ?_
    refine v_load_vw (.c (.f _ _)) lay22 rfl rfl rfl ?_
    refine v_guard_on rfl rfl ?_
    refine v_callb (c77 _) rfl rfl (.cons vw_f .nil) (fun h2 => ?_) (fun h2 => ?_)
    · skip
      refine v_pick_t rfl rfl ?_
      refine v_move rfl ?_
      refine v_guard_on rfl rfl ?_
      refine v_move rfl ?_
      refine v_guard_on rfl rfl ?_
      refine v_nil_vw rfl ?_
      refine v_guard_on rfl rfl ?_
      refine v_fa_vw (off' := 1) lay28 rfl rfl rfl ?_
      refine v_guard_on rfl rfl ?_
      refine v_load_vw (.c (.f _ _)) lay22 rfl rfl rfl ?_
      refine v_guard_on rfl rfl ?_
      refine v_binb lay22 rfl rfl rfl (fun h3 => ?_) (fun h3 => ?_)
      · skip
        refine v_pick_t rfl rfl ?_
        refine v_move rfl ?_
        refine v_guard_on rfl rfl ?_
        refine v_move rfl ?_
        refine v_guard_on rfl rfl ?_
        refine v_nil_vw rfl ?_
        refine v_guard_on rfl rfl ?_
        refine v_fa_vw (off' := 2) lay28 rfl rfl rfl ?_
        refine v_guard_on rfl rfl ?_
        refine v_load_vw (.c (.v _)) lay23 rfl rfl rfl ?_
        refine v_guard_on rfl rfl ?_
        refine v_geq lay23 rfl rfl (fun h4 => ?_) (fun h4 => ?_)
        · skip
          refine v_pick_t rfl rfl ?_
          refine v_move rfl ?_
          refine v_guard_on rfl rfl ?_
          refine v_move rfl ?_
          refine v_guard_on rfl rfl ?_
          refine v_nil_vw rfl ?_
          refine v_guard_on rfl rfl ?_
          refine v_fa_vw (off' := 3) lay28 rfl rfl rfl ?_
          refine v_guard_on rfl rfl ?_
          refine v_load_vw (.c (.f _ _)) lay22 rfl rfl rfl ?_
          refine v_guard_on rfl rfl ?_
          refine v_callb (c77 _) rfl rfl (.cons vw_f .nil) (fun h5 => ?_) (fun h5 => ?_)
          · skip
            refine v_pick_t rfl rfl ?_
            refine v_move rfl ?_
            refine v_guard_on rfl rfl ?_
            refine v_move rfl ?_
            refine v_guard_on rfl rfl ?_
            refine v_nil_vw rfl ?_
            refine v_guard_on rfl rfl ?_
            refine v_fa_vw (off' := 4) lay28 rfl rfl rfl ?_
            refine v_guard_on rfl rfl ?_
            refine v_load_vw (.c (.v _)) lay2 rfl rfl rfl ?_
            refine v_guard_on rfl rfl ?_
            refine v_callb (c104 _ _ _) rfl rfl (.cons vw_v (.cons vw_v (.cons vw_v .nil))) (fun h6 => ?_) (fun h6 => ?_)
            · skip
              refine v_pick_t rfl rfl ?_
              refine v_assign rfl ?_
              refine v_nil ?_
              refine q_n ?_
              refine w_ret ?_
              refine r_r rfl ?_
              exact a_b ⟨fun _ => ⟨h1, h2, h3, h4, h5, h6⟩, fun _ => rfl⟩
            · skip
              refine v_pick_t rfl rfl ?_
              refine v_assign rfl ?_
              refine v_nil ?_
              refine q_n ?_
              refine w_ret ?_
              refine r_r rfl ?_
              exact a_b ⟨fun h => (by cases h), fun h => absurd h.2.2.2.2.2 h6⟩
          · skip
            refine v_pick_t rfl rfl ?_
            refine v_move rfl ?_
            refine v_guard_off rfl rfl rfl ?_
            refine v_guard_off rfl rfl rfl ?_
            refine v_guard_off rfl rfl rfl ?_
            refine v_guard_off rfl rfl rfl ?_
            refine v_guard_off rfl rfl rfl ?_
            refine v_pick_f (v := .v (.bool false)) rfl rfl ?_
            refine v_assign rfl ?_
            refine v_nil ?_
            refine q_n ?_
            refine w_ret ?_
            refine r_r rfl ?_
            exact a_b ⟨fun h => (by cases h), fun h => absurd h.2.2.2.2.1 h5⟩
        · skip
          refine v_pick_t rfl rfl ?_
          refine v_move rfl ?_
          refine v_guard_off rfl rfl rfl ?_
          refine v_guard_off rfl rfl rfl ?_
          refine v_guard_off rfl rfl rfl ?_
          refine v_guard_off rfl rfl rfl ?_
          refine v_guard_off rfl rfl rfl ?_
          refine v_pick_f (v := .v (.bool false)) rfl rfl ?_
          refine v_move rfl ?_
          refine v_guard_off rfl rfl rfl ?_
          refine v_guard_off rfl rfl rfl ?_
          refine v_guard_off rfl rfl rfl ?_
          refine v_guard_off rfl rfl rfl ?_
          refine v_guard_off rfl rfl rfl ?_
          refine v_pick_f (v := .v (.bool false)) rfl rfl ?_
          refine v_assign rfl ?_
          refine v_nil ?_
          refine q_n ?_
          refine w_ret ?_
          refine r_r rfl ?_
          exact a_b ⟨fun h => (by cases h), fun h => absurd h.2.2.2.1 (by omega)⟩
      · skip
        refine v_pick_t rfl rfl ?_
        refine v_move rfl ?_
        refine v_guard_off rfl rfl rfl ?_
        refine v_guard_off rfl rfl rfl ?_
        refine v_guard_off rfl rfl rfl ?_
        refine v_guard_off rfl rfl rfl ?_
        refine v_guard_off rfl rfl rfl ?_
        refine v_pick_f (v := .v (.bool false)) rfl rfl ?_
        refine v_move rfl ?_
        refine v_guard_off rfl rfl rfl ?_
        refine v_guard_off rfl rfl rfl ?_
        refine v_guard_off rfl rfl rfl ?_
        refine v_guard_off rfl rfl rfl ?_
        refine v_guard_off rfl rfl rfl ?_
        refine v_pick_f (v := .v (.bool false)) rfl rfl ?_
        refine v_move rfl ?_
        refine v_guard_off rfl rfl rfl ?_
        refine v_guard_off rfl rfl rfl ?_
        refine v_guard_off rfl rfl rfl ?_
        refine v_guard_off rfl rfl rfl ?_
        refine v_guard_off rfl rfl rfl ?_
        refine v_pick_f (v := .v (.bool false)) rfl rfl ?_
        refine v_assign rfl ?_
        refine v_nil ?_
        refine q_n ?_
        refine w_ret ?_
        refine r_r rfl ?_
        exact a_b ⟨fun h => (by cases h), fun h => absurd (h3.symm.trans h.2.2.1) (by decide)⟩
    · skip
      refine v_pick_t rfl rfl ?_
      refine v_move rfl ?_
      refine v_guard_off rfl rfl rfl ?_
      refine v_guard_off rfl rfl rfl ?_
      refine v_guard_off rfl rfl rfl ?_
      refine v_guard_off rfl rfl rfl ?_
      refine v_guard_off rfl rfl rfl ?_
      refine v_pick_f (v := .v (.bool false)) rfl rfl ?_
      refine v_move rfl ?_
      refine v_guard_off rfl rfl rfl ?_
      refine v_guard_off rfl rfl rfl ?_
      refine v_guard_off rfl rfl rfl ?_
      refine v_guard_off rfl rfl rfl ?_
      refine v_guard_off rfl rfl rfl ?_
      refine v_pick_f (v := .v (.bool false)) rfl rfl ?_
      refine v_move rfl ?_
      refine v_guard_off rfl rfl rfl ?_
      refine v_guard_off rfl rfl rfl ?_
      refine v_guard_off rfl rfl rfl ?_
      refine v_guard_off rfl rfl rfl ?_
      refine v_guard_off rfl rfl rfl ?_
      refine v_pick_f (v := .v (.bool false)) rfl rfl ?_
      refine v_move rfl ?_
      refine v_guard_off rfl rfl rfl ?_
      refine v_guard_off rfl rfl rfl ?_
      refine v_guard_off rfl rfl rfl ?_
      refine v_guard_off rfl rfl rfl ?_
      refine v_guard_off rfl rfl rfl ?_
      refine v_pick_f (v := .v (.bool false)) rfl rfl ?_
      refine v_assign rfl ?_
      refine v_nil ?_
      refine q_n ?_
      refine w_ret ?_
      refine r_r rfl ?_
      exact a_b ⟨fun h => (by cases h), fun h => absurd h.2.1 h2⟩
  · skip
    refine v_move rfl ?_
    refine v_guard_off rfl rfl rfl ?_
    refine v_guard_off rfl rfl rfl ?_
    refine v_guard_off rfl rfl rfl ?_
    refine v_guard_off rfl rfl rfl ?_
    refine v_guard_off rfl rfl rfl ?_
    refine v_pick_f (v := .v (.bool false)) rfl rfl ?_
    refine v_move rfl ?_
    refine v_guard_off rfl rfl rfl ?_
    refine v_guard_off rfl rfl rfl ?_
    refine v_guard_off rfl rfl rfl ?_
    refine v_guard_off rfl rfl rfl ?_
    refine v_guard_off rfl rfl rfl ?_
    refine v_pick_f (v := .v (.bool false)) rfl rfl ?_
    refine v_move rfl ?_
    refine v_guard_off rfl rfl rfl ?_
    refine v_guard_off rfl rfl rfl ?_
    refine v_guard_off rfl rfl rfl ?_
    refine v_guard_off rfl rfl rfl ?_
    refine v_guard_off rfl rfl rfl ?_
    refine v_pick_f (v := .v (.bool false)) rfl rfl ?_
    refine v_move rfl ?_
    refine v_guard_off rfl rfl rfl ?_
    refine v_guard_off rfl rfl rfl ?_
    refine v_guard_off rfl rfl rfl ?_
    refine v_guard_off rfl rfl rfl ?_
    refine v_guard_off rfl rfl rfl ?_
    refine v_pick_f (v := .v (.bool false)) rfl rfl ?_
    refine v_move rfl ?_
    refine v_guard_off rfl rfl rfl ?_
    refine v_guard_off rfl rfl rfl ?_
    refine v_guard_off rfl rfl rfl ?_
    refine v_guard_off rfl rfl rfl ?_
    refine v_guard_off rfl rfl rfl ?_
    refine v_pick_f (v := .v (.bool false)) rfl rfl ?_
    refine v_assign rfl ?_
    refine v_nil ?_
    refine q_n ?_
    refine w_ret ?_
    refine r_r rfl ?_
    exact a_b ⟨fun h => (by cases h), fun h => absurd h.1 h1⟩

/-- A double as a count. -/
def countW (p : Nat) : Int := if (ford .f64 (some p) (fOf .f64 4674736138332667904) == some .gt) = true then 32767 else if (ford .f64 (some p) (fOf .f64 13898108450065350656) == some .lt) = true then -32768 else ((FloatKind.f64.decode p).toInt .zero).getD 0
/-- A single as a count. -/
def countOf (x : Option Nat) : Int := match rte (wide x) with
  | none => 0
  | some p => countW p
theorem countW_in {p : Nat} (hp : okF .f64 (some p)) (h1 : (ford .f64 (some p) (fOf .f64 4674736138332667904) == some .gt) = false) (h2 : (ford .f64 (some p) (fOf .f64 13898108450065350656) == some .lt) = false) : ∃ n : Int, (FloatKind.f64.decode p).toInt .zero = some n ∧ (-32768 ≤ n ∧ n ≤ 32767) ∧ countW p = n := by
  obtain ⟨n, h3, h4⟩ := toInt_within (A := 32767) (B := 32768) (qa := 38) (qb := 37) hp (by rfl) (by rfl) h1 h2
  refine ⟨n, h3, h4, ?_⟩
  unfold countW
  rw [if_neg (by rw [h1]; decide), if_neg (by rw [h2]; decide), h3]; rfl
theorem countW_hi {p : Nat} (h1 : (ford .f64 (some p) (fOf .f64 4674736138332667904) == some .gt) = true) : countW p = 32767 := by unfold countW; rw [if_pos h1]
theorem countW_lo {p : Nat} (h1 : (ford .f64 (some p) (fOf .f64 4674736138332667904) == some .gt) = false) (h2 : (ford .f64 (some p) (fOf .f64 13898108450065350656) == some .lt) = true) : countW p = -32768 := by
  unfold countW
  rw [if_neg (by rw [h1]; decide), if_pos h2]
theorem a_16 {H : List Ob} {a b : Int} (h : a = b) : TrV H [] (.c (.v (.int .i16 a))) (.c (.v (.int .i16 b))) := by rw [h]; exact tr_v
theorem c105 {x : Option Nat} (h : okF .f64 x) : PureC X 105 [.c (.f .f64 x)] (.c (.f .f64 (rte x))) := pure_rte_any Go.Proofs.Try.func105 (by kernel_rfl) rfl (by kernel_rfl) (by kernel_rfl) h

theorem c63s (b w p : Nat) (hx : okF .f32 (some b)) (hw : convF .f32 .f64 (some b) = some (some w)) (h105 : PureC X 105 [.c (.f .f64 (some w))] (.c (.f .f64 (some p)))) (hp : okF .f64 (some p)) : PureC X 63 [.c (.f .f32 (some b))] (.c (.v (.int .i16 (countW p)))) := by
  refine PureC.of_body (drawD_ok X) (fun _ _ => Go.Proofs.Try.call63 _ _) Go.Proofs.Try.func63 rfl (n := 16) rfl ?_
  refine w_seq ?_
  refine w_reg rfl ?_
  refine v_assign (c := .v (.int .i16 0)) rfl ?_
  refine v_nil ?_
  refine q_n ?_
  refine w_seq ?_
  refine w_seq ?_
  refine w_reg rfl ?_
  refine v_move rfl ?_
  refine v_move rfl ?_
  refine v_binb lay22 rfl rfl rfl (fun h1 => ?_) (fun h1 => ?_)
  · skip
    exact absurd h1 (by rw [ford_self hx]; decide)
  · skip
    refine v_nil ?_
    refine q_n ?_
    refine w_f rfl ?_
    refine w_skip ?_
    refine q_n ?_
    refine w_seq ?_
    refine w_reg rfl ?_
    refine v_move rfl ?_
    refine v_conv_ff _ lay22 lay85 rfl (hw) ?_
    refine v_call (h105) rfl rfl rfl (.cons vw_f .nil) ?_
    refine v_assign rfl ?_
    refine v_nil ?_
    refine q_n ?_
    refine w_seq ?_
    refine w_seq ?_
    refine w_reg rfl ?_
    refine v_move rfl ?_
    refine v_binb lay85 rfl rfl rfl (fun h2 => ?_) (fun h2 => ?_)
    · skip
      refine v_nil ?_
      refine q_n ?_
      refine w_t rfl ?_
      refine w_seq ?_
      refine w_reg rfl ?_
      refine v_assign (c := .v (.int .i16 32767)) rfl ?_
      refine v_nil ?_
      refine q_n ?_
      refine w_ret (q_r ?_)
      refine r_r rfl ?_
      exact a_16 (countW_hi h2).symm
    · skip
      refine v_nil ?_
      refine q_n ?_
      refine w_f rfl ?_
      refine w_skip ?_
      refine q_n ?_
      refine w_seq ?_
      refine w_seq ?_
      refine w_reg rfl ?_
      refine v_move rfl ?_
      refine v_binb lay85 rfl rfl rfl (fun h3 => ?_) (fun h3 => ?_)
      · skip
        refine v_nil ?_
        refine q_n ?_
        refine w_t rfl ?_
        refine w_seq ?_
        refine w_reg rfl ?_
        refine v_assign (c := .v (.int .i16 (-32768))) rfl ?_
        refine v_nil ?_
        refine q_n ?_
        refine w_ret (q_r ?_)
        refine r_r rfl ?_
        exact a_16 (countW_lo h2 h3).symm
      · skip
        refine v_nil ?_
        refine q_n ?_
        refine w_f rfl ?_
        refine w_skip ?_
        refine q_n ?_
        refine w_seq ?_
        refine w_reg rfl ?_
        refine v_move rfl ?_
        obtain ⟨n, hn, hr, hcw⟩ := countW_in hp h2 h3
        refine v_conv_fi n lay85 lay23 rfl hn hr ?_
        refine v_assign rfl ?_
        refine v_nil ?_
        refine q_n ?_
        refine w_ret ?_
        refine r_r rfl ?_
        exact a_16 hcw.symm

theorem c63n : PureC X 63 [.c (.f .f32 none)] (.c (.v (.int .i16 0))) := by
  refine PureC.of_body (drawD_ok X) (fun _ _ => Go.Proofs.Try.call63 _ _) Go.Proofs.Try.func63 rfl (n := 16) rfl ?_
  refine w_seq ?_
  refine w_reg rfl ?_
  refine v_assign (c := .v (.int .i16 0)) rfl ?_
  refine v_nil ?_
  refine q_n ?_
  refine w_seq ?_
  refine w_seq ?_
  refine w_reg rfl ?_
  refine v_move rfl ?_
  refine v_move rfl ?_
  refine v_binb lay22 rfl rfl rfl (fun h1 => ?_) (fun h1 => ?_)
  · skip
    refine v_nil ?_
    refine q_n ?_
    refine w_t rfl ?_
    refine w_seq ?_
    refine w_reg rfl ?_
    refine v_assign (c := .v (.int .i16 0)) rfl ?_
    refine v_nil ?_
    refine q_n ?_
    refine w_ret (q_r ?_)
    refine r_r rfl ?_
    exact a_16 rfl
  · skip
    exact absurd h1 (by decide)

theorem c68s (b w p : Nat) (hx : okF .f32 (some b)) (hw : convF .f32 .f64 (some b) = some (some w)) (h105 : PureC X 105 [.c (.f .f64 (some w))] (.c (.f .f64 (some p)))) (hp : okF .f64 (some p)) : PureC X 68 [.c (.f .f32 (some b))] (.c (.v (.int .i16 (countW p)))) := by
  refine PureC.of_body (drawD_ok X) (fun _ _ => Go.Proofs.Try.call68 _ _) Go.Proofs.Try.func68 rfl (n := 19) rfl ?_
  refine w_seq ?_
  refine w_reg rfl ?_
  refine v_assign (c := .v (.int .i16 0)) rfl ?_
  refine v_nil ?_
  refine q_n ?_
  refine w_seq ?_
  refine w_reg rfl ?_
  refine v_move rfl ?_
  refine v_conv_ff _ lay22 lay85 rfl (hw) ?_
  refine v_call (h105) rfl rfl rfl (.cons vw_f .nil) ?_
  refine v_assign rfl ?_
  refine v_nil ?_
  refine q_n ?_
  refine w_seq ?_
  refine w_block ?_
  refine w_seq ?_
  refine w_reg rfl ?_
  refine v_move rfl ?_
  refine v_move rfl ?_
  refine v_binb lay85 rfl rfl rfl (fun h1 => ?_) (fun h1 => ?_)
  · skip
    exact absurd h1 (by rw [ford_self hp]; decide)
  · skip
    refine v_assign rfl ?_
    refine v_nil ?_
    refine q_n ?_
    refine w_f rfl ?_
    refine w_seq ?_
    refine w_reg rfl ?_
    refine v_move rfl ?_
    refine v_binb lay85 rfl rfl rfl (fun h2 => ?_) (fun h2 => ?_)
    · skip
      refine v_assign rfl ?_
      refine v_nil ?_
      refine q_n ?_
      refine w_t rfl ?_
      refine w_seq ?_
      refine w_reg rfl ?_
      refine v_assign (c := .v (.int .i16 32767)) rfl ?_
      refine v_nil ?_
      refine q_n ?_
      refine w_ret (q_br (q_r ?_))
      refine r_r rfl ?_
      exact a_16 (countW_hi h2).symm
    · skip
      refine v_assign rfl ?_
      refine v_nil ?_
      refine q_n ?_
      refine w_f rfl ?_
      refine w_seq ?_
      refine w_reg rfl ?_
      refine v_move rfl ?_
      refine v_binb lay85 rfl rfl rfl (fun h3 => ?_) (fun h3 => ?_)
      · skip
        refine v_assign rfl ?_
        refine v_nil ?_
        refine q_n ?_
        refine w_t rfl ?_
        refine w_seq ?_
        refine w_reg rfl ?_
        refine v_assign (c := .v (.int .i16 (-32768))) rfl ?_
        refine v_nil ?_
        refine q_n ?_
        refine w_ret (q_br (q_r ?_))
        refine r_r rfl ?_
        exact a_16 (countW_lo h2 h3).symm
      · skip
        refine v_assign rfl ?_
        refine v_nil ?_
        refine q_n ?_
        refine w_f rfl ?_
        refine w_skip ?_
        refine q_bn ?_
        refine q_n ?_
        refine w_seq ?_
        refine w_reg rfl ?_
        refine v_move rfl ?_
        obtain ⟨n, hn, hr, hcw⟩ := countW_in hp h2 h3
        refine v_conv_fi n lay85 lay23 rfl hn hr ?_
        refine v_assign rfl ?_
        refine v_nil ?_
        refine q_n ?_
        refine w_ret ?_
        refine r_r rfl ?_
        exact a_16 hcw.symm

theorem c68n : PureC X 68 [.c (.f .f32 none)] (.c (.v (.int .i16 0))) := by
  refine PureC.of_body (drawD_ok X) (fun _ _ => Go.Proofs.Try.call68 _ _) Go.Proofs.Try.func68 rfl (n := 19) rfl ?_
  refine w_seq ?_
  refine w_reg rfl ?_
  refine v_assign (c := .v (.int .i16 0)) rfl ?_
  refine v_nil ?_
  refine q_n ?_
  refine w_seq ?_
  refine w_reg rfl ?_
  refine v_move rfl ?_
  refine v_conv_ff _ lay22 lay85 rfl (rfl) ?_
  refine v_call (c105 okF_none) rfl rfl rfl (.cons vw_f .nil) ?_
  refine v_assign rfl ?_
  refine v_nil ?_
  refine q_n ?_
  refine w_seq ?_
  refine w_block ?_
  refine w_seq ?_
  refine w_reg rfl ?_
  refine v_move rfl ?_
  refine v_move rfl ?_
  refine v_binb lay85 rfl rfl rfl (fun h1 => ?_) (fun h1 => ?_)
  · skip
    refine v_assign rfl ?_
    refine v_nil ?_
    refine q_n ?_
    refine w_t rfl ?_
    refine w_seq ?_
    refine w_reg rfl ?_
    refine v_assign (c := .v (.int .i16 0)) rfl ?_
    refine v_nil ?_
    refine q_n ?_
    refine w_ret (q_br (q_r ?_))
    refine r_r rfl ?_
    exact a_16 rfl
  · skip
    exact absurd h1 (by decide)

theorem c63 (x : Option Nat) (hx : okF .f32 x) : PureC X 63 [.c (.f .f32 x)] (.c (.v (.int .i16 (countOf x)))) := by
  cases x with
  | none => exact c63n
  | some b =>
    obtain ⟨w, hw, hok⟩ := wide_some hx
    have hwd : wide (some b) = some w := by unfold wide; rw [hw]; rfl
    have hr : countOf (some b) = countW (FloatKind.f64.encode ((FloatKind.f64.decode w).integral .even)) := by unfold countOf; rw [hwd]; rfl
    rw [hr]
    exact c63s b w _ hx hw (c105 hok) (rte_ok hok)

theorem c68 (x : Option Nat) (hx : okF .f32 x) : PureC X 68 [.c (.f .f32 x)] (.c (.v (.int .i16 (countOf x)))) := by
  cases x with
  | none => exact c68n
  | some b =>
    obtain ⟨w, hw, hok⟩ := wide_some hx
    have hwd : wide (some b) = some w := by unfold wide; rw [hw]; rfl
    have hr : countOf (some b) = countW (FloatKind.f64.encode ((FloatKind.f64.decode w).integral .even)) := by unfold countOf; rw [hwd]; rfl
    rw [hr]
    exact c68s b w _ hx hw (c105 hok) (rte_ok hok)

theorem c69s (b : Nat) (hx : okF .f64 (some b)) : PureC X 69 [.c (.f .f64 (some b)), .c (.f .f64 (some b))] (cB (decide True)) := by
  refine PureC.of_body (drawD_ok X) (fun _ _ => Go.Proofs.Try.call69 _ _) Go.Proofs.Try.func69 rfl (n := 37) rfl ?_
  refine w_seq ?_
  refine w_reg rfl ?_
  refine v_assign (c := .v (.bool false)) rfl ?_
  refine v_nil ?_
  refine q_n ?_
  refine w_seq ?_
  refine w_seq ?_
  refine w_reg rfl ?_
  refine v_move rfl ?_
  refine v_move rfl ?_
  refine v_binb lay85 rfl rfl rfl (fun h1 => ?_) (fun h1 => ?_)
  · skip
    exact absurd h1 (by rw [ford_self hx]; decide)
  · skip
    refine v_move rfl ?_
    refine v_guard_on rfl rfl ?_
    refine v_move rfl ?_
    refine v_guard_on rfl rfl ?_
    refine v_move rfl ?_
    refine v_guard_on rfl rfl ?_
    refine v_binb lay85 rfl rfl rfl (fun h2 => ?_) (fun h2 => ?_)
    · skip
      exact absurd h2 (by rw [ford_self hx]; decide)
    · skip
      refine v_pick_f rfl rfl ?_
      refine v_nil ?_
      refine q_n ?_
      refine w_f rfl ?_
      refine w_skip ?_
      refine q_n ?_
      refine w_seq ?_
      refine w_seq ?_
      refine w_reg rfl ?_
      refine v_move rfl ?_
      refine v_binb lay85 rfl rfl rfl (fun h3 => ?_) (fun h3 => ?_)
      · skip
        refine v_move rfl ?_
        refine v_guard_on rfl rfl ?_
        refine v_move rfl ?_
        refine v_guard_on rfl rfl ?_
        refine v_binb lay85 rfl rfl rfl (fun h4 => ?_) (fun h4 => ?_)
        · skip
          refine v_pick_t rfl rfl ?_
          refine v_nil ?_
          refine q_n ?_
          refine w_t rfl ?_
          refine w_seq ?_
          refine w_reg rfl ?_
          refine v_move rfl ?_
          refine v_bin (c := .f _ _) lay85 rfl rfl rfl ?_
          refine v_binb lay85 rfl rfl rfl (fun h5 => ?_) (fun h5 => ?_)
          · skip
            refine v_move rfl ?_
            refine v_bin (c := .f _ _) lay85 rfl rfl rfl ?_
            refine v_binb lay85 rfl rfl rfl (fun h6 => ?_) (fun h6 => ?_)
            · skip
              refine v_bin (c := .v (.bool true)) lay4 rfl rfl rfl ?_
              refine v_assign rfl ?_
              refine v_nil ?_
              refine q_n ?_
              refine w_ret (q_r ?_)
              refine r_r rfl ?_
              exact a_b ⟨fun _ => trivial, fun _ => rfl⟩
            · skip
              exact absurd (h5.symm.trans h6) (by decide)
          · skip
            refine v_move rfl ?_
            refine v_bin (c := .f _ _) lay85 rfl rfl rfl ?_
            refine v_binb lay85 rfl rfl rfl (fun h7 => ?_) (fun h7 => ?_)
            · skip
              exact absurd (h7.symm.trans h5) (by decide)
            · skip
              refine v_bin (c := .v (.bool true)) lay4 rfl rfl rfl ?_
              refine v_assign rfl ?_
              refine v_nil ?_
              refine q_n ?_
              refine w_ret (q_r ?_)
              refine r_r rfl ?_
              exact a_b ⟨fun _ => trivial, fun _ => rfl⟩
        · skip
          exact absurd (h3.symm.trans h4) (by decide)
      · skip
        refine v_move rfl ?_
        refine v_guard_off rfl rfl rfl ?_
        refine v_guard_off rfl rfl rfl ?_
        refine v_pick_f (v := .v (.bool false)) rfl rfl ?_
        refine v_nil ?_
        refine q_n ?_
        refine w_f rfl ?_
        refine w_skip ?_
        refine q_n ?_
        refine w_seq ?_
        refine w_reg rfl ?_
        refine v_move rfl ?_
        refine v_move rfl ?_
        refine v_binb lay85 rfl rfl rfl (fun h8 => ?_) (fun h8 => ?_)
        · skip
          refine v_assign rfl ?_
          refine v_nil ?_
          refine q_n ?_
          refine w_ret ?_
          refine r_r rfl ?_
          exact a_b ⟨fun _ => trivial, fun _ => rfl⟩
        · skip
          exact absurd h8 (by rw [ford_self hx]; decide)

theorem c69n : PureC X 69 [.c (.f .f64 none), .c (.f .f64 none)] (cB (decide True)) := by
  refine PureC.of_body (drawD_ok X) (fun _ _ => Go.Proofs.Try.call69 _ _) Go.Proofs.Try.func69 rfl (n := 37) rfl ?_
  refine w_seq ?_
  refine w_reg rfl ?_
  refine v_assign (c := .v (.bool false)) rfl ?_
  refine v_nil ?_
  refine q_n ?_
  refine w_seq ?_
  refine w_seq ?_
  refine w_reg rfl ?_
  refine v_move rfl ?_
  refine v_move rfl ?_
  refine v_binb lay85 rfl rfl rfl (fun h1 => ?_) (fun h1 => ?_)
  · skip
    refine v_move rfl ?_
    refine v_guard_off rfl rfl rfl ?_
    refine v_guard_off rfl rfl rfl ?_
    refine v_guard_off rfl rfl rfl ?_
    refine v_pick_t (v := .v (.bool true)) rfl rfl ?_
    refine v_nil ?_
    refine q_n ?_
    refine w_t rfl ?_
    refine w_seq ?_
    refine w_reg rfl ?_
    refine v_move rfl ?_
    refine v_move rfl ?_
    refine v_binb lay85 rfl rfl rfl (fun h2 => ?_) (fun h2 => ?_)
    · skip
      refine v_move rfl ?_
      refine v_guard_on rfl rfl ?_
      refine v_move rfl ?_
      refine v_guard_on rfl rfl ?_
      refine v_move rfl ?_
      refine v_guard_on rfl rfl ?_
      refine v_binb lay85 rfl rfl rfl (fun h3 => ?_) (fun h3 => ?_)
      · skip
        refine v_pick_t rfl rfl ?_
        refine v_assign rfl ?_
        refine v_nil ?_
        refine q_n ?_
        refine w_ret (q_r ?_)
        refine r_r rfl ?_
        exact a_b ⟨fun _ => trivial, fun _ => rfl⟩
      · skip
        exact absurd h3 (by decide)
    · skip
      exact absurd h2 (by decide)
  · skip
    exact absurd h1 (by decide)

theorem c69 (x : Option Nat) (hx : okF .f64 x) : PureC X 69 [.c (.f .f64 x), .c (.f .f64 x)] (cB (decide True)) := by
  cases x with
  | none => exact c69n
  | some b => exact c69s b hx
theorem fop_ok {op : BinOp} {k : FloatKind} {x y : Option Nat} : okF k (fop op k x y) := fun c h => by
  cases x with
  | none => cases h
  | some a => cases y with
    | none => cases h
    | some b => exact fbin_num (op := op) (a := a) (b := b) (by cases op <;> first | exact h | cases h)
theorem okF_ite {p : Prop} [Decidable p] {x : Option Nat} (h : okF .f32 x) : okF .f32 (if p then x else some 0) := by
  split
  · exact h
  · exact okF_fOf 0
theorem okF_zero : okF .f32 (some 0) := okF_fOf 0

theorem c19 (cell count ticks : Int) (carry full : Option Nat) (hc : okF .f32 carry) (hf : okF .f32 full) : PureC X 19 [.agg (det cell carry count full ticks), .agg (det cell carry count full ticks)] (cB (decide True)) := by
  refine PureC.of_body (drawD_ok X) (fun _ _ => Go.Proofs.Try.call19 _ _) Go.Proofs.Try.func19 rfl (n := 36) rfl ?_
  refine w_seq ?_
  refine w_reg rfl ?_
  refine v_box (m := 0) (H' := [_]) lay28 rfl rfl rfl ?_
  refine v_box (m := 1) (H' := [_, _]) lay28 rfl rfl rfl ?_
  refine v_assign (c := .v (.bool false)) rfl ?_
  refine v_nil ?_
  refine q_n ?_
  refine w_seq ?_
  refine w_seq ?_
  refine w_reg rfl ?_
  refine v_fa_pt (off' := 0) lay28 rfl rfl rfl ?_
  refine v_load_pt (.c _) lay2 rfl rfl rfl rfl ?_
  refine v_fa_pt (off' := 0) lay28 rfl rfl rfl ?_
  refine v_load_pt (.c _) lay2 rfl rfl rfl rfl ?_
  refine v_neq lay2 rfl rfl (fun h1 => ?_) (fun h1 => ?_)
  · skip
    exact absurd rfl h1
  · skip
    refine v_nil ?_
    refine q_n ?_
    refine w_f rfl ?_
    refine w_skip ?_
    refine q_n ?_
    refine w_seq ?_
    refine w_seq ?_
    refine w_reg rfl ?_
    refine v_fa_pt (off' := 1) lay28 rfl rfl rfl ?_
    refine v_load_pt (.c _) lay22 rfl rfl rfl rfl ?_
    refine v_conv_ff _ lay22 lay85 rfl (convF_single (by assumption)) ?_
    refine v_fa_pt (off' := 1) lay28 rfl rfl rfl ?_
    refine v_load_pt (.c _) lay22 rfl rfl rfl rfl ?_
    refine v_conv_ff _ lay22 lay85 rfl (convF_single (by assumption)) ?_
    refine v_callb (c69 _ (wide_ok (by assumption))) rfl rfl (.cons vw_f (.cons vw_f .nil)) (fun h2 => ?_) (fun h2 => ?_)
    · skip
      refine v_not false rfl rfl ?_
      refine v_nil ?_
      refine q_n ?_
      refine w_f rfl ?_
      refine w_skip ?_
      refine q_n ?_
      refine w_seq ?_
      refine w_seq ?_
      refine w_reg rfl ?_
      refine v_fa_pt (off' := 2) lay28 rfl rfl rfl ?_
      refine v_load_pt (.c _) lay23 rfl rfl rfl rfl ?_
      refine v_fa_pt (off' := 2) lay28 rfl rfl rfl ?_
      refine v_load_pt (.c _) lay23 rfl rfl rfl rfl ?_
      refine v_neq lay23 rfl rfl (fun h3 => ?_) (fun h3 => ?_)
      · skip
        exact absurd rfl h3
      · skip
        refine v_nil ?_
        refine q_n ?_
        refine w_f rfl ?_
        refine w_skip ?_
        refine q_n ?_
        refine w_seq ?_
        refine w_seq ?_
        refine w_reg rfl ?_
        refine v_fa_pt (off' := 3) lay28 rfl rfl rfl ?_
        refine v_load_pt (.c _) lay22 rfl rfl rfl rfl ?_
        refine v_conv_ff _ lay22 lay85 rfl (convF_single (by assumption)) ?_
        refine v_fa_pt (off' := 3) lay28 rfl rfl rfl ?_
        refine v_load_pt (.c _) lay22 rfl rfl rfl rfl ?_
        refine v_conv_ff _ lay22 lay85 rfl (convF_single (by assumption)) ?_
        refine v_callb (c69 _ (wide_ok (by assumption))) rfl rfl (.cons vw_f (.cons vw_f .nil)) (fun h4 => ?_) (fun h4 => ?_)
        · skip
          refine v_not false rfl rfl ?_
          refine v_nil ?_
          refine q_n ?_
          refine w_f rfl ?_
          refine w_skip ?_
          refine q_n ?_
          refine w_seq ?_
          refine w_seq ?_
          refine w_reg rfl ?_
          refine v_fa_pt (off' := 4) lay28 rfl rfl rfl ?_
          refine v_load_pt (.c _) lay2 rfl rfl rfl rfl ?_
          refine v_fa_pt (off' := 4) lay28 rfl rfl rfl ?_
          refine v_load_pt (.c _) lay2 rfl rfl rfl rfl ?_
          refine v_neq lay2 rfl rfl (fun h5 => ?_) (fun h5 => ?_)
          · skip
            exact absurd rfl h5
          · skip
            refine v_nil ?_
            refine q_n ?_
            refine w_f rfl ?_
            refine w_skip ?_
            refine q_n ?_
            refine w_seq ?_
            refine w_reg rfl ?_
            refine v_assign (c := .v (.bool true)) rfl ?_
            refine v_nil ?_
            refine q_n ?_
            refine w_ret ?_
            refine r_r rfl ?_
            exact a_b ⟨fun _ => trivial, fun _ => rfl⟩
        · skip
          exact absurd trivial h4
    · skip
      exact absurd trivial h2

def ticksOf (n : Int) : Option Nat := some (FloatKind.f32.nearest n)
/-- How full a cell was, in thousandths. -/
def fullOf (full : Option Nat) (ticks : Int) : Int := if 0 < ticks then countOf (fop .mul .f32 (fOf .f32 1148846080) (fop .quo .f32 full (ticksOf ticks))) else 0
/-- What is read off. -/
def roV (cell count ticks turn : Int) (carry full : Option Nat) : V :=
  .tup [.agg (tal (if dOk cell carry count full ticks ∧ 0 ≤ turn ∧ turn ≤ 65535 then turn else 0) (if dOk cell carry count full ticks ∧ 0 ≤ turn ∧ turn ≤ 65535 then count else 0) (if dOk cell carry count full ticks ∧ 0 ≤ turn ∧ turn ≤ 65535 then fullOf full ticks else 0)),
    .agg (det (if dOk cell carry count full ticks ∧ 0 ≤ turn ∧ turn ≤ 65535 then cell else 0) (if dOk cell carry count full ticks ∧ 0 ≤ turn ∧ turn ≤ 65535 then carry else some 0) 0 (some 0) 0),
    cI (if dOk cell carry count full ticks then if 0 ≤ turn ∧ turn ≤ 65535 then 0 else 2 else 1)]
section
variable {cell count ticks turn : Int} {carry full : Option Nat}
theorem roV_1 (h1 : ¬ dOk cell carry count full ticks) : roV cell count ticks turn carry full = .tup [.agg (tal 0 0 0), .agg (det 0 (some 0) 0 (some 0) 0), cI 1] := by
  unfold roV
  have h : ¬ (dOk cell carry count full ticks ∧ 0 ≤ turn ∧ turn ≤ 65535) := fun h => h1 h.1
  simp only [if_neg h, if_neg h1]
theorem roV_2 (h1 : dOk cell carry count full ticks) (h2 : ¬ (0 ≤ turn ∧ turn ≤ 65535)) : roV cell count ticks turn carry full = .tup [.agg (tal 0 0 0), .agg (det 0 (some 0) 0 (some 0) 0), cI 2] := by
  unfold roV
  have h : ¬ (dOk cell carry count full ticks ∧ 0 ≤ turn ∧ turn ≤ 65535) := fun h => h2 h.2
  simp only [if_neg h, if_pos h1, if_neg h2]
theorem roV_0 (h1 : dOk cell carry count full ticks) (h2 : 0 ≤ turn ∧ turn ≤ 65535) {f : Int} (hf : fullOf full ticks = f) : roV cell count ticks turn carry full = .tup [.agg (tal turn count f), .agg (det cell carry 0 (some 0) 0), cI 0] := by
  subst hf
  unfold roV
  have h : dOk cell carry count full ticks ∧ 0 ≤ turn ∧ turn ≤ 65535 := ⟨h1, h2⟩
  simp only [if_pos h, if_pos h1, if_pos h2]
end
theorem full_pos {full : Option Nat} {ticks : Int} (h : 0 < ticks) : fullOf full ticks = countOf (fop .mul .f32 (fOf .f32 1148846080) (fop .quo .f32 full (ticksOf ticks))) := if_pos h
theorem full_no {full : Option Nat} {ticks : Int} (h : ¬ 0 < ticks) : fullOf full ticks = 0 := if_neg h
theorem a_ro {H : List Ob} {t c f cell count ticks e : Int} {carry full : Option Nat} {v : V} (h : v = .tup [.agg (tal t c f), .agg (det cell carry count full ticks), cI e]) : TrV H [] (.tup [.agg (tal t c f), .agg (det cell carry count full ticks), cI e]) v := by
  rw [h]
  exact a_tup (.cons (a_agg (.cons tr_v (.cons tr_v (.cons tr_v .nil)))) (.cons (a_agg (.cons tr_v (.cons tr_f (.cons tr_v (.cons tr_f (.cons tr_v .nil)))))) (.cons tr_v .nil)))

theorem c15 (cell count ticks turn : Int) (carry full : Option Nat) : PureC X 15 [.agg (det cell carry count full ticks), cI turn] (roV cell count ticks turn carry full) := by
  refine PureC.of_body (drawD_ok X) (fun _ _ => Go.Proofs.Try.call15 _ _) Go.Proofs.Try.func15 rfl (n := 39) rfl ?_
  refine w_seq ?_
  refine w_reg rfl ?_
  refine v_box (m := 0) (H' := [_]) lay28 rfl rfl rfl ?_
  refine v_alloc (m := 1) (H' := [_, ⟨[.v _, .v _, .v _], 27, true⟩]) lay27 rfl rfl ?_
  refine v_alloc (m := 2) (H' := [_, _, ⟨[.v _, .f _ _, .v _, .f _ _, .v _], 28, true⟩]) lay28 rfl rfl ?_
  refine v_assign (c := .v (.int .i64 0)) rfl ?_
  refine v_nil ?_
  refine q_n ?_
  refine w_seq ?_
  refine w_seq ?_
  refine w_reg rfl ?_
  refine v_callb (c61 _ _ _ _ _) rfl rfl (.cons (vw_pt rfl (.cons .v (.cons .f (.cons .v (.cons .f (.cons .v .nil)))))) .nil) (fun h1 => ?_) (fun h1 => ?_)
  · skip
    refine v_not false rfl rfl ?_
    refine v_nil ?_
    refine q_n ?_
    refine w_f rfl ?_
    refine w_skip ?_
    refine q_n ?_
    refine w_seq ?_
    refine w_seq ?_
    refine w_reg rfl ?_
    refine v_move rfl ?_
    refine v_callb (c62 _) rfl rfl (.cons vw_v .nil) (fun h2 => ?_) (fun h2 => ?_)
    · skip
      refine v_not false rfl rfl ?_
      refine v_nil ?_
      refine q_n ?_
      refine w_f rfl ?_
      refine w_skip ?_
      refine q_n ?_
      refine w_seq ?_
      refine w_reg rfl ?_
      refine v_move rfl ?_
      refine v_fa_pt (off' := 2) lay28 rfl rfl rfl ?_
      refine v_load_pt (.c _) lay23 rfl rfl rfl rfl ?_
      refine v_build [(0, 1), (1, 1), (2, 1)] [.v _, .v _, .v _] lay27 rfl rfl ?_
      refine v_alloc (m := 3) (H' := [_, _, _, ⟨[.v _, .v _, .v _], 27, true⟩]) lay27 rfl rfl ?_
      refine v_store (H' := [_, _, _, ⟨[_, _, _], 27, true⟩]) lay27 rfl rfl rfl rfl rfl rfl ?_
      refine v_nil ?_
      refine q_n ?_
      refine w_seq ?_
      refine w_seq ?_
      refine w_reg rfl ?_
      refine v_fa_pt (off' := 4) lay28 rfl rfl rfl ?_
      refine v_load_pt (.c _) lay2 rfl rfl rfl rfl ?_
      refine v_gtr lay2 rfl rfl (fun h3 => ?_) (fun h3 => ?_)
      · skip
        refine v_nil ?_
        refine q_n ?_
        refine w_t rfl ?_
        refine w_reg rfl ?_
        refine v_fa_pt (off' := 3) lay28 rfl rfl rfl ?_
        refine v_load_pt (.c _) lay22 rfl rfl rfl rfl ?_
        refine v_fa_pt (off' := 4) lay28 rfl rfl rfl ?_
        refine v_load_pt (.c _) lay2 rfl rfl rfl rfl ?_
        refine v_conv_if lay2 lay22 rfl ?_
        refine v_bin (c := .f _ _) lay22 rfl rfl rfl ?_
        refine v_bin (c := .f _ _) lay22 rfl rfl rfl ?_
        refine v_call (c63 _ fop_ok) rfl rfl rfl (.cons vw_f .nil) ?_
        refine v_fa_pt (off' := 2) lay27 rfl rfl rfl ?_
        refine v_store (H' := [_, _, _, ⟨[_, _, _], 27, true⟩]) lay23 rfl rfl rfl rfl rfl rfl ?_
        refine v_nil ?_
        refine q_n ?_
        refine w_seq ?_
        refine w_draw [0, 0, 2, 0, 8, 30, 1, 127, 255] [⟨0, 0, []⟩, ⟨1, 0, []⟩, ⟨2, 0, []⟩, ⟨3, 0, []⟩, ⟨4, 0, []⟩, ⟨5, 0, []⟩, ⟨6, 1, [2, 4]⟩, ⟨7, 1, []⟩, ⟨8, 0, []⟩] rfl rfl ?_
        refine d_q rfl rfl rfl rfl rfl ?_
        refine v_load_pt (.agg [_, _, _]) lay27 rfl rfl rfl rfl ?_
        refine v_nil ?_
        refine d_q rfl rfl rfl rfl rfl ?_
        refine v_fa_pt (off' := 0) lay28 rfl rfl rfl ?_
        refine v_nil ?_
        refine d_q rfl rfl rfl rfl rfl ?_
        refine v_load_pt (.c _) lay2 rfl rfl rfl rfl ?_
        refine v_nil ?_
        refine d_q rfl rfl rfl rfl rfl ?_
        refine v_fa_pt (off' := 1) lay28 rfl rfl rfl ?_
        refine v_nil ?_
        refine d_q rfl rfl rfl rfl rfl ?_
        refine v_load_pt (.c _) lay22 rfl rfl rfl rfl ?_
        refine v_nil ?_
        refine d_q rfl rfl rfl rfl rfl ?_
        refine v_build [(0, 1), (1, 1), (2, 1), (3, 1), (4, 1)] [.v _, .f _ _, .v _, .f _ _, .v _] lay28 rfl rfl ?_
        refine v_nil ?_
        refine d_e rfl rfl rfl ?_
        refine v_store (H' := [_, ⟨[_, _, _], 27, true⟩, _, _]) lay27 rfl rfl rfl rfl rfl rfl ?_
        refine v_nil ⟨⟨rfl, ⟨rfl, ⟨trivial, trivial⟩⟩⟩, ?_⟩
        refine d_e rfl rfl rfl ?_
        refine v_store (H' := [_, _, ⟨[_, _, _, _, _], 28, true⟩, _]) lay28 rfl rfl rfl rfl rfl rfl ?_
        refine v_nil ⟨again_nil, ?_⟩
        refine d_q rfl rfl rfl rfl rfl ?_
        refine v_assign (c := .v (.int .i64 0)) rfl ?_
        refine v_nil ?_
        refine d_nil ?_
        refine q_n ?_
        refine w_ret ?_
        refine r_r rfl ?_
        exact a_ro (roV_0 h1 (of_in h2) (full_pos h3))
      · skip
        refine v_nil ?_
        refine q_n ?_
        refine w_f rfl ?_
        refine w_skip ?_
        refine q_n ?_
        refine w_seq ?_
        refine w_draw [0, 0, 2, 0, 8, 30, 1, 127, 255] [⟨0, 0, []⟩, ⟨1, 0, []⟩, ⟨2, 0, []⟩, ⟨3, 0, []⟩, ⟨4, 0, []⟩, ⟨5, 0, []⟩, ⟨6, 1, [2, 4]⟩, ⟨7, 1, []⟩, ⟨8, 0, []⟩] rfl rfl ?_
        refine d_q rfl rfl rfl rfl rfl ?_
        refine v_load_pt (.agg [_, _, _]) lay27 rfl rfl rfl rfl ?_
        refine v_nil ?_
        refine d_q rfl rfl rfl rfl rfl ?_
        refine v_fa_pt (off' := 0) lay28 rfl rfl rfl ?_
        refine v_nil ?_
        refine d_q rfl rfl rfl rfl rfl ?_
        refine v_load_pt (.c _) lay2 rfl rfl rfl rfl ?_
        refine v_nil ?_
        refine d_q rfl rfl rfl rfl rfl ?_
        refine v_fa_pt (off' := 1) lay28 rfl rfl rfl ?_
        refine v_nil ?_
        refine d_q rfl rfl rfl rfl rfl ?_
        refine v_load_pt (.c _) lay22 rfl rfl rfl rfl ?_
        refine v_nil ?_
        refine d_q rfl rfl rfl rfl rfl ?_
        refine v_build [(0, 1), (1, 1), (2, 1), (3, 1), (4, 1)] [.v _, .f _ _, .v _, .f _ _, .v _] lay28 rfl rfl ?_
        refine v_nil ?_
        refine d_e rfl rfl rfl ?_
        refine v_store (H' := [_, ⟨[_, _, _], 27, true⟩, _, _]) lay27 rfl rfl rfl rfl rfl rfl ?_
        refine v_nil ⟨⟨rfl, ⟨rfl, ⟨trivial, trivial⟩⟩⟩, ?_⟩
        refine d_e rfl rfl rfl ?_
        refine v_store (H' := [_, _, ⟨[_, _, _, _, _], 28, true⟩, _]) lay28 rfl rfl rfl rfl rfl rfl ?_
        refine v_nil ⟨again_nil, ?_⟩
        refine d_q rfl rfl rfl rfl rfl ?_
        refine v_assign (c := .v (.int .i64 0)) rfl ?_
        refine v_nil ?_
        refine d_nil ?_
        refine q_n ?_
        refine w_ret ?_
        refine r_r rfl ?_
        exact a_ro (roV_0 h1 (of_in h2) (full_no h3))
    · skip
      refine v_not true rfl rfl ?_
      refine v_nil ?_
      refine q_n ?_
      refine w_t rfl ?_
      refine w_seq ?_
      refine w_reg rfl ?_
      refine v_build [(0, 1), (1, 1), (2, 1)] [.v _, .v _, .v _] lay27 rfl rfl ?_
      refine v_build [(0, 1), (1, 1), (2, 1), (3, 1), (4, 1)] [.v _, .f _ _, .v _, .f _ _, .v _] lay28 rfl rfl ?_
      refine v_store (H' := [_, ⟨[_, _, _], 27, true⟩, _]) lay27 rfl rfl rfl rfl rfl rfl ?_
      refine v_store (H' := [_, _, ⟨[_, _, _, _, _], 28, true⟩]) lay28 rfl rfl rfl rfl rfl rfl ?_
      refine v_assign (c := .v (.int .i64 2)) rfl ?_
      refine v_nil ?_
      refine q_n ?_
      refine w_ret (q_r ?_)
      refine r_r rfl ?_
      exact a_ro (roV_2 h1 h2)
  · skip
    refine v_not true rfl rfl ?_
    refine v_nil ?_
    refine q_n ?_
    refine w_t rfl ?_
    refine w_seq ?_
    refine w_reg rfl ?_
    refine v_build [(0, 1), (1, 1), (2, 1)] [.v _, .v _, .v _] lay27 rfl rfl ?_
    refine v_build [(0, 1), (1, 1), (2, 1), (3, 1), (4, 1)] [.v _, .f _ _, .v _, .f _ _, .v _] lay28 rfl rfl ?_
    refine v_store (H' := [_, ⟨[_, _, _], 27, true⟩, _]) lay27 rfl rfl rfl rfl rfl rfl ?_
    refine v_store (H' := [_, _, ⟨[_, _, _, _, _], 28, true⟩]) lay28 rfl rfl rfl rfl rfl rfl ?_
    refine v_assign (c := .v (.int .i64 1)) rfl ?_
    refine v_nil ?_
    refine q_n ?_
    refine w_ret (q_r ?_)
    refine r_r rfl ?_
    exact a_ro (roV_1 h1)

theorem c17 (cell count ticks turn : Int) (carry full : Option Nat) (hc : Sg carry) (hf : Sg full) : PureC X 17 [.agg (det cell carry count full ticks), cI turn] (roV cell count ticks turn carry full) := by
  refine PureC.of_body (drawD_ok X) (fun _ _ => Go.Proofs.Try.call17 _ _) Go.Proofs.Try.func17 rfl (n := 46) rfl ?_
  refine w_seq ?_
  refine w_reg rfl ?_
  refine v_box (m := 0) (H' := [_]) lay28 rfl rfl rfl ?_
  refine v_alloc (m := 1) (H' := [_, ⟨[.v _, .v _, .v _], 27, true⟩]) lay27 rfl rfl ?_
  refine v_alloc (m := 2) (H' := [_, _, ⟨[.v _, .f _ _, .v _, .f _ _, .v _], 28, true⟩]) lay28 rfl rfl ?_
  refine v_assign (c := .v (.int .i64 0)) rfl ?_
  refine v_nil ?_
  refine q_n ?_
  refine w_seq ?_
  refine w_seq ?_
  refine w_reg rfl ?_
  refine v_load_pt (.agg [_, _, _, _, _]) lay28 rfl rfl rfl rfl ?_
  refine v_callb (c66 _ _ _ _ _ (by assumption) (by assumption)) rfl rfl (.cons (vw_agg (.cons vw_v (.cons vw_f (.cons vw_v (.cons vw_f (.cons vw_v .nil)))))) .nil) (fun h1 => ?_) (fun h1 => ?_)
  · skip
    refine v_not false rfl rfl ?_
    refine v_call (c65 _ _) rfl rfl rfl (.cons vw_v (.cons vw_v .nil)) ?_
    refine v_move rfl ?_
    refine v_callb (c67 _ _ _) rfl rfl (.cons vw_v (.cons vw_v (.cons vw_v .nil))) (fun h2 => ?_) (fun h2 => ?_)
    · skip
      refine v_not false rfl rfl ?_
      refine v_call (c65 _ _) rfl rfl rfl (.cons vw_v (.cons vw_v .nil)) ?_
      refine v_lit (flat int [_, _]) (H' := [_, _, _, _]) lay118 lay2 rfl rfl ⟨by decide, by decide⟩ rfl rfl ?_
      refine v_call (c64 [_, _] (Nat.le_of_ble_eq_true rfl)) rfl rfl rfl (.cons (vw_mu int_sc int_len rfl rfl) .nil) ?_
      refine v_assign rfl ?_
      refine v_nil ?_
      refine q_n ?_
      refine w_seq ?_
      refine w_reg rfl ?_
      refine v_move rfl ?_
      refine v_neq lay2 rfl rfl (fun h3 => ?_) (fun h3 => ?_)
      · skip
        exact absurd (by decide) h3
      · skip
        refine v_nil ?_
        refine q_n ?_
        refine w_f rfl ?_
        refine w_skip ?_
        refine q_n ?_
        refine w_seq ?_
        refine w_reg rfl ?_
        refine v_move rfl ?_
        refine v_fa_pt (off' := 2) lay28 rfl rfl rfl ?_
        refine v_load_pt (.c _) lay23 rfl rfl rfl rfl ?_
        refine v_build [(0, 1), (1, 1), (2, 1)] [.v _, .v _, .v _] lay27 rfl rfl ?_
        refine v_alloc (m := 4) (H' := [_, _, _, _, ⟨[.v _, .v _, .v _], 27, true⟩]) lay27 rfl rfl ?_
        refine v_store (H' := [_, _, _, _, ⟨[_, _, _], 27, true⟩]) lay27 rfl rfl rfl rfl rfl rfl ?_
        refine v_nil ?_
        refine q_n ?_
        refine w_seq ?_
        refine w_seq ?_
        refine w_reg rfl ?_
        refine v_fa_pt (off' := 4) lay28 rfl rfl rfl ?_
        refine v_load_pt (.c _) lay2 rfl rfl rfl rfl ?_
        refine v_gtr lay2 rfl rfl (fun h4 => ?_) (fun h4 => ?_)
        · skip
          refine v_nil ?_
          refine q_n ?_
          refine w_t rfl ?_
          refine w_reg rfl ?_
          refine v_fa_pt (off' := 3) lay28 rfl rfl rfl ?_
          refine v_load_pt (.c _) lay22 rfl rfl rfl rfl ?_
          refine v_fa_pt (off' := 4) lay28 rfl rfl rfl ?_
          refine v_load_pt (.c _) lay2 rfl rfl rfl rfl ?_
          refine v_conv_if lay2 lay22 rfl ?_
          refine v_bin (c := .f _ _) lay22 rfl rfl rfl ?_
          refine v_bin (c := .f _ _) lay22 rfl rfl rfl ?_
          refine v_call (c68 _ fop_ok) rfl rfl rfl (.cons vw_f .nil) ?_
          refine v_fa_pt (off' := 2) lay27 rfl rfl rfl ?_
          refine v_store (H' := [_, _, _, _, ⟨[_, _, _], 27, true⟩]) lay23 rfl rfl rfl rfl rfl rfl ?_
          refine v_nil ?_
          refine q_n ?_
          refine w_seq ?_
          refine w_draw [0, 0, 2, 0, 8, 30, 1, 127, 255] [⟨0, 0, []⟩, ⟨1, 0, []⟩, ⟨2, 0, []⟩, ⟨3, 0, []⟩, ⟨4, 0, []⟩, ⟨5, 0, []⟩, ⟨6, 1, [2, 4]⟩, ⟨7, 1, []⟩, ⟨8, 0, []⟩] rfl rfl ?_
          refine d_q rfl rfl rfl rfl rfl ?_
          refine v_load_pt (.agg [_, _, _]) lay27 rfl rfl rfl rfl ?_
          refine v_nil ?_
          refine d_q rfl rfl rfl rfl rfl ?_
          refine v_fa_pt (off' := 0) lay28 rfl rfl rfl ?_
          refine v_nil ?_
          refine d_q rfl rfl rfl rfl rfl ?_
          refine v_load_pt (.c _) lay2 rfl rfl rfl rfl ?_
          refine v_nil ?_
          refine d_q rfl rfl rfl rfl rfl ?_
          refine v_fa_pt (off' := 1) lay28 rfl rfl rfl ?_
          refine v_nil ?_
          refine d_q rfl rfl rfl rfl rfl ?_
          refine v_load_pt (.c _) lay22 rfl rfl rfl rfl ?_
          refine v_nil ?_
          refine d_q rfl rfl rfl rfl rfl ?_
          refine v_build [(0, 1), (1, 1), (2, 1), (3, 1), (4, 1)] [.v _, .f _ _, .v _, .f _ _, .v _] lay28 rfl rfl ?_
          refine v_nil ?_
          refine d_e rfl rfl rfl ?_
          refine v_store (H' := [_, ⟨[_, _, _], 27, true⟩, _, _, _]) lay27 rfl rfl rfl rfl rfl rfl ?_
          refine v_nil ⟨⟨rfl, ⟨rfl, ⟨trivial, trivial⟩⟩⟩, ?_⟩
          refine d_e rfl rfl rfl ?_
          refine v_store (H' := [_, _, ⟨[_, _, _, _, _], 28, true⟩, _, _]) lay28 rfl rfl rfl rfl rfl rfl ?_
          refine v_nil ⟨again_nil, ?_⟩
          refine d_q rfl rfl rfl rfl rfl ?_
          refine v_assign (c := .v (.int .i64 0)) rfl ?_
          refine v_nil ?_
          refine d_nil ?_
          refine q_n ?_
          refine w_ret ?_
          refine r_r rfl ?_
          exact a_ro (roV_0 h1 (of_in h2) (full_pos h4))
        · skip
          refine v_nil ?_
          refine q_n ?_
          refine w_f rfl ?_
          refine w_skip ?_
          refine q_n ?_
          refine w_seq ?_
          refine w_draw [0, 0, 2, 0, 8, 30, 1, 127, 255] [⟨0, 0, []⟩, ⟨1, 0, []⟩, ⟨2, 0, []⟩, ⟨3, 0, []⟩, ⟨4, 0, []⟩, ⟨5, 0, []⟩, ⟨6, 1, [2, 4]⟩, ⟨7, 1, []⟩, ⟨8, 0, []⟩] rfl rfl ?_
          refine d_q rfl rfl rfl rfl rfl ?_
          refine v_load_pt (.agg [_, _, _]) lay27 rfl rfl rfl rfl ?_
          refine v_nil ?_
          refine d_q rfl rfl rfl rfl rfl ?_
          refine v_fa_pt (off' := 0) lay28 rfl rfl rfl ?_
          refine v_nil ?_
          refine d_q rfl rfl rfl rfl rfl ?_
          refine v_load_pt (.c _) lay2 rfl rfl rfl rfl ?_
          refine v_nil ?_
          refine d_q rfl rfl rfl rfl rfl ?_
          refine v_fa_pt (off' := 1) lay28 rfl rfl rfl ?_
          refine v_nil ?_
          refine d_q rfl rfl rfl rfl rfl ?_
          refine v_load_pt (.c _) lay22 rfl rfl rfl rfl ?_
          refine v_nil ?_
          refine d_q rfl rfl rfl rfl rfl ?_
          refine v_build [(0, 1), (1, 1), (2, 1), (3, 1), (4, 1)] [.v _, .f _ _, .v _, .f _ _, .v _] lay28 rfl rfl ?_
          refine v_nil ?_
          refine d_e rfl rfl rfl ?_
          refine v_store (H' := [_, ⟨[_, _, _], 27, true⟩, _, _, _]) lay27 rfl rfl rfl rfl rfl rfl ?_
          refine v_nil ⟨⟨rfl, ⟨rfl, ⟨trivial, trivial⟩⟩⟩, ?_⟩
          refine d_e rfl rfl rfl ?_
          refine v_store (H' := [_, _, ⟨[_, _, _, _, _], 28, true⟩, _, _]) lay28 rfl rfl rfl rfl rfl rfl ?_
          refine v_nil ⟨again_nil, ?_⟩
          refine d_q rfl rfl rfl rfl rfl ?_
          refine v_assign (c := .v (.int .i64 0)) rfl ?_
          refine v_nil ?_
          refine d_nil ?_
          refine q_n ?_
          refine w_ret ?_
          refine r_r rfl ?_
          exact a_ro (roV_0 h1 (of_in h2) (full_no h4))
    · skip
      refine v_not true rfl rfl ?_
      refine v_call (c65 _ _) rfl rfl rfl (.cons vw_v (.cons vw_v .nil)) ?_
      refine v_lit (flat int [_, _]) (H' := [_, _, _, _]) lay118 lay2 rfl rfl ⟨by decide, by decide⟩ rfl rfl ?_
      refine v_call (c64 [_, _] (Nat.le_of_ble_eq_true rfl)) rfl rfl rfl (.cons (vw_mu int_sc int_len rfl rfl) .nil) ?_
      refine v_assign rfl ?_
      refine v_nil ?_
      refine q_n ?_
      refine w_seq ?_
      refine w_reg rfl ?_
      refine v_move rfl ?_
      refine v_neq lay2 rfl rfl (fun h5 => ?_) (fun h5 => ?_)
      · skip
        refine v_nil ?_
        refine q_n ?_
        refine w_t rfl ?_
        refine w_seq ?_
        refine w_reg rfl ?_
        refine v_build [(0, 1), (1, 1), (2, 1)] [.v _, .v _, .v _] lay27 rfl rfl ?_
        refine v_build [(0, 1), (1, 1), (2, 1), (3, 1), (4, 1)] [.v _, .f _ _, .v _, .f _ _, .v _] lay28 rfl rfl ?_
        refine v_move rfl ?_
        refine v_store (H' := [_, ⟨[_, _, _], 27, true⟩, _, _]) lay27 rfl rfl rfl rfl rfl rfl ?_
        refine v_store (H' := [_, _, ⟨[_, _, _, _, _], 28, true⟩, _]) lay28 rfl rfl rfl rfl rfl rfl ?_
        refine v_assign rfl ?_
        refine v_nil ?_
        refine q_n ?_
        refine w_ret (q_r ?_)
        refine r_r rfl ?_
        exact a_ro (roV_2 h1 h2)
      · skip
        exact absurd h5 (by decide)
  · skip
    refine v_not true rfl rfl ?_
    refine v_call (c65 _ _) rfl rfl rfl (.cons vw_v (.cons vw_v .nil)) ?_
    refine v_move rfl ?_
    refine v_callb (c67 _ _ _) rfl rfl (.cons vw_v (.cons vw_v (.cons vw_v .nil))) (fun h6 => ?_) (fun h6 => ?_)
    · skip
      refine v_not false rfl rfl ?_
      refine v_call (c65 _ _) rfl rfl rfl (.cons vw_v (.cons vw_v .nil)) ?_
      refine v_lit (flat int [_, _]) (H' := [_, _, _, _]) lay118 lay2 rfl rfl ⟨by decide, by decide⟩ rfl rfl ?_
      refine v_call (c64 [_, _] (Nat.le_of_ble_eq_true rfl)) rfl rfl rfl (.cons (vw_mu int_sc int_len rfl rfl) .nil) ?_
      refine v_assign rfl ?_
      refine v_nil ?_
      refine q_n ?_
      refine w_seq ?_
      refine w_reg rfl ?_
      refine v_move rfl ?_
      refine v_neq lay2 rfl rfl (fun h7 => ?_) (fun h7 => ?_)
      · skip
        refine v_nil ?_
        refine q_n ?_
        refine w_t rfl ?_
        refine w_seq ?_
        refine w_reg rfl ?_
        refine v_build [(0, 1), (1, 1), (2, 1)] [.v _, .v _, .v _] lay27 rfl rfl ?_
        refine v_build [(0, 1), (1, 1), (2, 1), (3, 1), (4, 1)] [.v _, .f _ _, .v _, .f _ _, .v _] lay28 rfl rfl ?_
        refine v_move rfl ?_
        refine v_store (H' := [_, ⟨[_, _, _], 27, true⟩, _, _]) lay27 rfl rfl rfl rfl rfl rfl ?_
        refine v_store (H' := [_, _, ⟨[_, _, _, _, _], 28, true⟩, _]) lay28 rfl rfl rfl rfl rfl rfl ?_
        refine v_assign rfl ?_
        refine v_nil ?_
        refine q_n ?_
        refine w_ret (q_r ?_)
        refine r_r rfl ?_
        exact a_ro (roV_1 h1)
      · skip
        exact absurd h7 (by decide)
    · skip
      refine v_not true rfl rfl ?_
      refine v_call (c65 _ _) rfl rfl rfl (.cons vw_v (.cons vw_v .nil)) ?_
      refine v_lit (flat int [_, _]) (H' := [_, _, _, _]) lay118 lay2 rfl rfl ⟨by decide, by decide⟩ rfl rfl ?_
      refine v_call (c64 [_, _] (Nat.le_of_ble_eq_true rfl)) rfl rfl rfl (.cons (vw_mu int_sc int_len rfl rfl) .nil) ?_
      refine v_assign rfl ?_
      refine v_nil ?_
      refine q_n ?_
      refine w_seq ?_
      refine w_reg rfl ?_
      refine v_move rfl ?_
      refine v_neq lay2 rfl rfl (fun h8 => ?_) (fun h8 => ?_)
      · skip
        refine v_nil ?_
        refine q_n ?_
        refine w_t rfl ?_
        refine w_seq ?_
        refine w_reg rfl ?_
        refine v_build [(0, 1), (1, 1), (2, 1)] [.v _, .v _, .v _] lay27 rfl rfl ?_
        refine v_build [(0, 1), (1, 1), (2, 1), (3, 1), (4, 1)] [.v _, .f _ _, .v _, .f _ _, .v _] lay28 rfl rfl ?_
        refine v_move rfl ?_
        refine v_store (H' := [_, ⟨[_, _, _], 27, true⟩, _, _]) lay27 rfl rfl rfl rfl rfl rfl ?_
        refine v_store (H' := [_, _, ⟨[_, _, _, _, _], 28, true⟩, _]) lay28 rfl rfl rfl rfl rfl rfl ?_
        refine v_assign rfl ?_
        refine v_nil ?_
        refine q_n ?_
        refine w_ret (q_r ?_)
        refine r_r rfl ?_
        exact a_ro (roV_1 h1)
      · skip
        exact absurd h8 (by decide)

theorem c3 (cell count ticks turn : Int) (carry full : Option Nat) (hc : Sg carry) (hf : Sg full) (hok : okF .f32 carry) : PureC X 3 [.agg (det cell carry count full ticks), cI turn] (cB true) := by
  refine PureC.of_body (drawD_ok X) (fun _ _ => Go.Proofs.Try.call3 _ _) Go.Proofs.Try.func3 rfl (n := 42) rfl ?_
  refine w_seq ?_
  refine w_reg rfl ?_
  refine v_box (m := 0) (H' := [_]) lay25 rfl rfl rfl ?_
  refine v_assign (c := .v (.bool false)) rfl ?_
  refine v_nil ?_
  refine q_n ?_
  refine w_seq ?_
  refine w_reg rfl ?_
  refine v_load_pt (.agg [_, _, _, _, _]) lay25 rfl rfl rfl rfl ?_
  refine v_call (c16 _ _ _ _ _) rfl rfl rfl (.cons (vw_agg (.cons vw_v (.cons vw_f (.cons vw_v (.cons vw_f (.cons vw_v .nil)))))) .nil) ?_
  refine v_move rfl ?_
  refine v_call (c15 _ _ _ _ _ _) rfl rfl rfl (.cons (vw_agg (.cons vw_v (.cons vw_f (.cons vw_v (.cons vw_f (.cons vw_v .nil)))))) (.cons vw_v .nil)) ?_
  refine v_move_t rfl ?_
  refine v_extract_a rfl rfl ?_
  refine v_extract_a rfl rfl ?_
  refine v_extract_c rfl rfl ?_
  refine v_alloc (m := 1) (H' := [_, ⟨[.v _, .v _, .v _], 27, true⟩]) lay27 rfl rfl ?_
  refine v_alloc (m := 2) (H' := [_, _, ⟨[.v _, .f _ _, .v _, .f _ _, .v _], 28, true⟩]) lay28 rfl rfl ?_
  refine v_store (H' := [_, ⟨[_, _, _], 27, true⟩, _]) lay27 rfl rfl rfl rfl rfl rfl ?_
  refine v_store (H' := [_, _, ⟨[_, _, _, _, _], 28, true⟩]) lay28 rfl rfl rfl rfl rfl rfl ?_
  refine v_assign rfl ?_
  refine v_nil ?_
  refine q_n ?_
  refine w_seq ?_
  refine w_reg rfl ?_
  refine v_load_pt (.agg [_, _, _, _, _]) lay25 rfl rfl rfl rfl ?_
  refine v_call (c16 _ _ _ _ _) rfl rfl rfl (.cons (vw_agg (.cons vw_v (.cons vw_f (.cons vw_v (.cons vw_f (.cons vw_v .nil)))))) .nil) ?_
  refine v_move rfl ?_
  refine v_call (c17 _ _ _ _ _ _ (by assumption) (by assumption)) rfl rfl rfl (.cons (vw_agg (.cons vw_v (.cons vw_f (.cons vw_v (.cons vw_f (.cons vw_v .nil)))))) (.cons vw_v .nil)) ?_
  refine v_move_t rfl ?_
  refine v_extract_a rfl rfl ?_
  refine v_extract_a rfl rfl ?_
  refine v_extract_c rfl rfl ?_
  refine v_alloc (m := 3) (H' := [_, _, _, ⟨[.v _, .v _, .v _], 27, true⟩]) lay27 rfl rfl ?_
  refine v_alloc (m := 4) (H' := [_, _, _, _, ⟨[.v _, .f _ _, .v _, .f _ _, .v _], 28, true⟩]) lay28 rfl rfl ?_
  refine v_store (H' := [_, _, _, ⟨[_, _, _], 27, true⟩, _]) lay27 rfl rfl rfl rfl rfl rfl ?_
  refine v_store (H' := [_, _, _, _, ⟨[_, _, _, _, _], 28, true⟩]) lay28 rfl rfl rfl rfl rfl rfl ?_
  refine v_assign rfl ?_
  refine v_nil ?_
  refine q_n ?_
  refine w_seq ?_
  refine w_seq ?_
  refine w_reg rfl ?_
  refine v_load_pt (.agg [_, _, _]) lay27 rfl rfl rfl rfl ?_
  refine v_load_pt (.agg [_, _, _]) lay27 rfl rfl rfl rfl ?_
  refine v_callb (c18 _ _ _ _ _ _) rfl rfl (.cons (vw_agg (.cons vw_v (.cons vw_v (.cons vw_v .nil)))) (.cons (vw_agg (.cons vw_v (.cons vw_v (.cons vw_v .nil)))) .nil)) (fun h1 => ?_) (fun h1 => ?_)
  · skip
    refine v_not false rfl rfl ?_
    refine v_move rfl ?_
    refine v_guard_on rfl rfl ?_
    refine v_load_pt (.agg [_, _, _, _, _]) lay28 rfl rfl rfl rfl ?_
    refine v_guard_on rfl rfl ?_
    refine v_load_pt (.agg [_, _, _, _, _]) lay28 rfl rfl rfl rfl ?_
    refine v_guard_on rfl rfl ?_
    refine v_callb (c19 _ _ _ _ _ (okF_ite (by assumption)) okF_zero) rfl rfl (.cons (vw_agg (.cons vw_v (.cons vw_f (.cons vw_v (.cons vw_f (.cons vw_v .nil)))))) (.cons (vw_agg (.cons vw_v (.cons vw_f (.cons vw_v (.cons vw_f (.cons vw_v .nil)))))) .nil)) (fun h2 => ?_) (fun h2 => ?_)
    · skip
      refine v_guard_on rfl rfl ?_
      refine v_not false rfl rfl ?_
      refine v_pick_f rfl rfl ?_
      refine v_move rfl ?_
      refine v_guard_on rfl rfl ?_
      refine v_move rfl ?_
      refine v_guard_on rfl rfl ?_
      refine v_move rfl ?_
      refine v_guard_on rfl rfl ?_
      refine v_neq lay2 rfl rfl (fun h3 => ?_) (fun h3 => ?_)
      · skip
        exact absurd rfl h3
      · skip
        refine v_pick_f rfl rfl ?_
        refine v_nil ?_
        refine q_n ?_
        refine w_f rfl ?_
        refine w_skip ?_
        refine q_n ?_
        refine w_seq ?_
        refine w_reg rfl ?_
        refine v_assign (c := .v (.bool true)) rfl ?_
        refine v_nil ?_
        refine q_n ?_
        refine w_ret ?_
        refine r_r rfl ?_
        exact tr_v
    · skip
      exact absurd trivial h2
  · skip
    exact absurd ⟨rfl, rfl, rfl⟩ h1
end Go.VL
