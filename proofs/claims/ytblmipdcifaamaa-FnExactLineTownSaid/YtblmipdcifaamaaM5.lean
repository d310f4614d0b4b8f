/- Texts of one proof, put together: L3, L4, B0. -/
import Derived.Test.YtblmipdcifaamaaM4
import Derived.Test.YtblmipdcifaamaaM3
import Derived.Test.YtblmipdcifaamaaRows
import Derived.ProofKit
import Derived.Below
import Derived.ChangeSame
import Derived.Handed
import Derived.KernelRfl
namespace Go.VL
open Go.RowKit
set_option maxRecDepth 20000
set_option maxHeartbeats 8000000
/-! Towns of roads one behind the other -/
def mr (x b l : Option Nat) : Rd := (fun _ => some 0, x, b, l)
abbrev lr (x : Option Nat) : Rd := mr x (fOf .f32 1056964608) (fOf .f32 1065353216)
def zJn : Jn := (0, 0, fun _ _ => some 0, fun _ => some 0)
def j0 : Jn := (1, 1, fun _ _ => some 0, fun _ => some 0)
def jP : Jn := (1, 1, fun _ _ => some 0, fun i => if i.val = 0 then some 1065353216 else some 0)
def jT : Jn := (1, 1, fun i k => if i.val + k.val = 0 then some 1065353216 else some 0, fun _ => some 0)
/-- The junction of one in and one out. -/
def jE : Jn := (1, 1, fun i k => if i.val + k.val = 0 then some 1065353216 else some 0, fun i => if i.val = 0 then some 1065353216 else some 0)
def je (q : Nat) : Jo := (jE, [(q : Int)], [(q : Int) + 1], -1)
def jl (q : Nat) : List Jo := (List.range q).map je
def lineT (n : Nat) (x : Option Nat) : Tw := (List.replicate n (lr x), List.replicate n (some 0), jl (n - 1), [], 0, some 0, some 0)
def zT : Tw := ([], [], [], [], 0, some 0, some 0)
theorem one1 : fop .quo .f32 (fOf .f32 1065353216) (some (FloatKind.f32.nearest 1)) = some 1065353216 := by decide
theorem sg_b {b : Nat} (h : isNaN .f32 b = false) (h2 : b < 2 ^ 32) : Sg (some b) := ⟨fun c e => by
  obtain rfl := Option.some.inj e
  exact h, fun c e => by
  obtain rfl := Option.some.inj e
  exact h2⟩
theorem sg_0 : Sg (some 0) := sg_b (by decide) (by decide)
theorem sg_1 : Sg (some 1065353216) := sg_b (by decide) (by decide)
theorem fo_half : fOf .f32 1056964608 = some 1056964608 := by decide
theorem fo_one : fOf .f32 1065353216 = some 1065353216 := by decide
theorem lr_w {x : Option Nat} (hx : Sg x) : rW (lr x) := ⟨fun _ _ => sg_0, hx, by show Sg (fOf .f32 1056964608); rw [fo_half]; exact sg_b (by decide) (by decide), by show Sg (fOf .f32 1065353216); rw [fo_one]; exact sg_1⟩
theorem jE_w : jW jE := ⟨fun i hi k hk => by
  show Sg (if i + k = 0 then some 1065353216 else some 0)
  split
  · exact sg_1
  · exact sg_0, fun i hi => by
  show Sg (if i = 0 then some 1065353216 else some 0)
  split
  · exact sg_1
  · exact sg_0⟩
theorem jl_mem {q : Nat} {j : Jo} (h : j ∈ jl q) : ∃ i, j = je i := by
  obtain ⟨i, -, rfl⟩ := List.mem_map.1 h
  exact ⟨i, rfl⟩
theorem jl_len (q : Nat) : (jl q).length = q := by simp [jl]
theorem lineT_B {n : Nat} (h : n ≤ 5) (x : Option Nat) : tB (2 ^ 20) (lineT n x) := by
  refine ⟨?_, ?_, ?_, fun j hj => ?_, Nat.zero_le _, fun p hp => by cases hp⟩
  · show (List.replicate n _).length ≤ _
    rw [List.length_replicate]; omega
  · show (List.replicate n _).length ≤ _
    rw [List.length_replicate]; omega
  · show (jl (n - 1)).length ≤ _
    rw [jl_len]; omega
  · obtain ⟨i, rfl⟩ := jl_mem hj
    exact ⟨Nat.le_of_ble_eq_true rfl, Nat.le_of_ble_eq_true rfl⟩
theorem lineT_F {n : Nat} {x : Option Nat} (hx : Sg x) : tF (lineT n x) := by
  refine ⟨fun r hr => ?_, fun y hy => ?_, fun j hj => ?_, sg_0, sg_0, fun p hp => by cases hp⟩
  · obtain ⟨-, rfl⟩ := List.mem_replicate.1 hr
    exact lr_w hx
  · obtain ⟨-, rfl⟩ := List.mem_replicate.1 hy
    exact sg_0
  · obtain ⟨i, rfl⟩ := jl_mem hj
    exact jE_w
theorem zT_B : tB (2 ^ 20) zT := ⟨Nat.zero_le _, Nat.zero_le _, Nat.zero_le _, (fun j hj => by cases hj), Nat.zero_le _, (fun p hp => by cases hp)⟩
theorem zT_F : tF zT := ⟨(fun r hr => by cases hr), (fun y hy => by cases hy), (fun j hj => by cases hj), sg_0, sg_0, (fun p hp => by cases hp)⟩
theorem end_1 (x : Option Nat) : (endT (lineT 1 x)).2.2 = true := rfl
theorem end_2 (x : Option Nat) : (endT (lineT 2 x)).2.2 = true := by kernel_rfl
theorem end_3 (x : Option Nat) : (endT (lineT 3 x)).2.2 = true := by kernel_rfl
theorem end_4 (x : Option Nat) : (endT (lineT 4 x)).2.2 = true := by kernel_rfl
theorem end_5 (x : Option Nat) : (endT (lineT 5 x)).2.2 = true := by kernel_rfl
theorem rep_gd {α : Type} {n i : Nat} {a d : α} (h : i < n) : (List.replicate n a).getD i d = a := by
  rw [List.getD_eq_getElem?_getD, List.getElem?_replicate, if_pos h]
  rfl
theorem line_ok {n : Nat} (hn : 1 ≤ n ∧ n ≤ 5) (x : Option Nat) : townOk (lineT n x) ↔ roadOk (lr x) := by
  have hl : (lineT n x).1.length = n := List.length_replicate
  constructor
  · intro ho
    have := (ho.2.1.2.1 0 (by rw [hl]; omega)).1
    have e : (lineT n x).1.getD 0 zR = lr x := rep_gd (by omega)
    rwa [e] at this
  · intro hr
    have he : (endT (lineT n x)).2.2 = true := by
      rcases (by omega : n = 1 ∨ n = 2 ∨ n = 3 ∨ n = 4 ∨ n = 5) with rfl | rfl | rfl | rfl | rfl
      · exact end_1 x
      · exact end_2 x
      · exact end_3 x
      · exact end_4 x
      · exact end_5 x
    refine ⟨⟨by rw [hl]; omega, ?_, ?_, Nat.zero_le _⟩, ⟨he, fun i hi => ?_, fun p hp => by cases hp⟩, (by show (0 : Int) ≤ 0 ∧ (0 : Int) ≤ 1000000000; decide), (by show amtB (some 0) = true; decide), (by show amtB (some 0) = true; decide)⟩
    · show (List.replicate n _).length = (List.replicate n _).length
      simp
    · show (jl (n - 1)).length ≤ 4
      rw [jl_len]; omega
    · rw [hl] at hi
      have e : (lineT n x).1.getD i zR = lr x := rep_gd hi
      have e2 : (lineT n x).2.1.getD i none = some 0 := rep_gd hi
      refine ⟨by rw [e]; exact hr, by rw [e2]; decide, fun _ => by rw [e2]; decide⟩
theorem ft_dn {o b : Bool} {gone : Nat → Prop} (hg : ∀ i, gone i) (rs : List Rd) (os : List (Option Nat)) (js : List Jo) : Dn o (FT rs os js) gone (.mu 3 0 js.length 25) (.sl b js.length 25 (flat joc js)) := by
  have h := Dn.seg (A := [⟨flat rdc rs, 41, true⟩, ⟨flat fe os, 22, true⟩, ⟨[], 74, true⟩]) (B := []) (gone' := gone) (fun i _ => hg _) (rowN_dn (o := o) (b := b) (gone := fun _ => True) (t := 53) JN_ok (fun _ => trivial) js rfl)
  rw [List.append_nil] at h
  exact h
theorem ft_pure (rs : List Rd) (os : List (Option Nat)) (js : List Jo) (tk : Int) (x y : Option Nat) : TrV (FT rs os js) [] (.agg (fta rs.length os.length js.length tk x y)) (.agg (twf true (rs, os, js, [], tk, x, y))) :=
  a_agg (.cons (a_flat2 rdc_sc rdc_len rfl rfl rfl rfl) (.cons (a_flat2 fe_sc fe_len rfl rfl rfl rfl) (.cons (a_dn (ft_dn (fun _ => gone_nil) rs os js)) (.cons (a_flatz (xs := []) plc_sc plc_len rfl rfl rfl rfl) (.cons tr_v (.cons tr_f (.cons tr_f .nil)))))))
theorem cEvI : PureC X 14 [cI 1, cI 1] (.agg (jnc jE)) := by
  refine PureC.of_body (drawD_ok X) (fun _ _ => Go.Proofs.Try.call14 _ _) Go.Proofs.Try.func14 rfl (n := 33) rfl ?_
  refine w_seq ?_
  refine w_reg rfl ?_
  refine v_alloc (m := 0) (H' := [⟨[.v _, .v _, .f _ _, .f _ _, .f _ _, .f _ _, .f _ _, .f _ _, .f _ _, .f _ _, .f _ _, .f _ _, .f _ _, .f _ _, .f _ _, .f _ _, .f _ _, .f _ _, .f _ _, .f _ _, .f _ _, .f _ _], 49, true⟩]) lay49 rfl rfl ?_
  refine v_nil ?_
  refine q_n ?_
  refine w_seq ?_
  refine w_reg rfl ?_
  refine v_move rfl ?_
  refine v_move rfl ?_
  refine v_build [(0, 1), (1, 1), (2, 16), (18, 4)] [.v _, .v _, .f _ _, .f _ _, .f _ _, .f _ _, .f _ _, .f _ _, .f _ _, .f _ _, .f _ _, .f _ _, .f _ _, .f _ _, .f _ _, .f _ _, .f _ _, .f _ _, .f _ _, .f _ _, .f _ _, .f _ _] lay49 rfl rfl ?_
  refine v_alloc (m := 1) (H' := [_, ⟨[.v _, .v _, .f _ _, .f _ _, .f _ _, .f _ _, .f _ _, .f _ _, .f _ _, .f _ _, .f _ _, .f _ _, .f _ _, .f _ _, .f _ _, .f _ _, .f _ _, .f _ _, .f _ _, .f _ _, .f _ _, .f _ _], 49, true⟩]) lay49 rfl rfl ?_
  refine v_store (H' := [_, ⟨[_, _, _, _, _, _, _, _, _, _, _, _, _, _, _, _, _, _, _, _, _, _], 49, true⟩]) lay49 rfl rfl rfl rfl rfl rfl ?_
  refine v_nil ?_
  refine q_n ?_
  refine w_seq ?_
  refine w_seq ?_
  refine w_reg rfl ?_
  refine v_move rfl ?_
  refine v_move (c := .v (.int .i64 0)) rfl ?_
  refine v_nil ?_
  refine q_n ?_
  refine w_block ?_
  refine w_loop (fun k sl H => ∃ i : Nat, k = 1 - i ∧ i ≤ 1 ∧ sl = sls [(1, cI 1), (4, .c (.pt 0 0)), (5, .c (.pt 1 0)), (11, cI 1), (12, cI i)] ∧ H = [⟨jnc zJn, 49, true⟩, ⟨jnc (if i = 0 then j0 else jE), 49, true⟩]) ?_ ?_
  · refine ⟨_, _, _, ?_, 0, rfl, Nat.zero_le _, rfl, rfl⟩
    exact turn [some 0, some 1] rfl rfl rfl ⟨⟨_, rfl, (show TrC _ _ (jnc zJn) (jnc zJn) from .stay (fun c hc => stays_fz (fz_sc (List.all_eq_true.1 (jnc_sc _) c hc))))⟩, ⟨_, rfl, (show TrC _ _ (jnc j0) (jnc j0) from .stay (fun c hc => stays_fz (fz_sc (List.all_eq_true.1 (jnc_sc _) c hc))))⟩, trivial⟩ ⟨tr_v, tr_pt rfl, tr_pt rfl, tr_v, tr_v, trivial⟩
  rintro k sl H ⟨i, rfl, hi, rfl, rfl⟩
  rcases (by omega : i = 0 ∨ i = 1) with rfl | rfl
  · skip
    refine w_seq ?_
    refine w_reg rfl ?_
    refine v_lss lay2 rfl rfl (fun h1 => ?_) (fun h1 => ?_)
    rotate_left
    · exact absurd (by decide) h1
    refine v_nil ?_
    refine q_n ?_
    refine w_seq ?_
    refine w_t rfl ?_
    refine w_skip ?_
    refine q_n ?_
    refine w_seq ?_
    refine w_block ?_
    refine w_seq ?_
    refine w_reg rfl ?_
    refine v_move rfl ?_
    refine v_assign rfl ?_
    refine v_nil ?_
    refine q_n ?_
    refine w_seq ?_
    refine w_reg rfl ?_
    refine v_move rfl ?_
    refine v_fa_pt (off' := 18) lay49 rfl rfl rfl ?_
    refine v_idx_arr_e (k := 1) (0) lay47 lay22 rfl rfl rfl (rfl) (by decide) ?_
    refine v_store (H' := [_, ⟨[_, _, _, _, _, _, _, _, _, _, _, _, _, _, _, _, _, _, _, _, _, _], 49, true⟩]) lay22 rfl rfl rfl rfl rfl rfl ?_
    refine v_nil ?_
    refine q_n ?_
    refine w_seq ?_
    refine w_reg rfl ?_
    refine v_move rfl ?_
    refine v_move (c := .v (.int .i64 0)) rfl ?_
    refine v_nil ?_
    refine q_n ?_
    refine w_block ?_
    refine w_loop (fun k sl H => ∃ q : Nat, k = 1 - q ∧ q ≤ 1 ∧ sl = sls [(1, cI 1), (4, .c (.pt 0 0)), (5, .c (.pt 1 0)), (6, cI 0), (11, cI 1), (12, cI 0), (18, cI 1), (19, cI q)] ∧ H = [⟨jnc zJn, 49, true⟩, ⟨jnc (if q = 0 then jP else jE), 49, true⟩]) ?_ ?_
    · refine ⟨_, _, _, ?_, 0, rfl, Nat.zero_le _, rfl, rfl⟩
      exact turn [some 0, some 1] rfl rfl rfl ⟨⟨_, rfl, (show TrC _ _ (jnc zJn) (jnc zJn) from .stay (fun c hc => stays_fz (fz_sc (List.all_eq_true.1 (jnc_sc _) c hc))))⟩, ⟨_, rfl, (show TrC _ _ (jnc jP) (jnc jP) from .stay (fun c hc => stays_fz (fz_sc (List.all_eq_true.1 (jnc_sc _) c hc))))⟩, trivial⟩ ⟨tr_v, tr_pt rfl, tr_pt rfl, tr_v, tr_v, tr_v, tr_v, tr_v, trivial⟩
    rintro k sl H ⟨q, rfl, hq, rfl, rfl⟩
    rcases (by omega : q = 0 ∨ q = 1) with rfl | rfl
    · skip
      refine w_seq ?_
      refine w_reg rfl ?_
      refine v_lss lay2 rfl rfl (fun h2 => ?_) (fun h2 => ?_)
      rotate_left
      · exact absurd (by decide) h2
      refine v_nil ?_
      refine q_n ?_
      refine w_seq ?_
      refine w_t rfl ?_
      refine w_skip ?_
      refine q_n ?_
      refine w_seq ?_
      refine w_block ?_
      refine w_seq ?_
      refine w_reg rfl ?_
      refine v_move rfl ?_
      refine v_assign rfl ?_
      refine v_nil ?_
      refine q_n ?_
      refine w_reg rfl ?_
      refine v_move rfl ?_
      refine v_move rfl ?_
      refine v_move rfl ?_
      refine v_conv_if lay2 lay22 rfl ?_
      refine v_bin (c := .f .f32 (some 1065353216)) lay22 rfl rfl (congrArg (fun z => some (C.f .f32 z)) one1) ?_
      refine v_fa_pt (off' := 2) lay49 rfl rfl rfl ?_
      refine v_idx_arr_e (k := 4) (0) lay46 lay44 rfl rfl rfl (rfl) (by decide) ?_
      refine v_idx_arr_e (k := 1) (0) lay44 lay22 rfl rfl rfl (rfl) (by decide) ?_
      refine v_store (H' := [_, ⟨[_, _, _, _, _, _, _, _, _, _, _, _, _, _, _, _, _, _, _, _, _, _], 49, true⟩]) lay22 rfl rfl rfl rfl rfl rfl ?_
      refine v_nil ?_
      refine q_bn ?_
      refine q_n ?_
      refine w_reg rfl ?_
      refine v_add lay2 rfl rfl (i64r (by decide)) ?_
      refine v_move rfl ?_
      refine v_nil ?_
      refine q_n ?_
      refine ⟨_, _, _, ?_, ⟨1, rfl, Nat.le_refl _, rfl, rfl⟩, by omega⟩
      exact turn [some 0, some 1] rfl rfl rfl ⟨⟨_, rfl, (show TrC _ _ (jnc zJn) (jnc zJn) from .stay (fun c hc => stays_fz (fz_sc (List.all_eq_true.1 (jnc_sc _) c hc))))⟩, ⟨_, rfl, (show TrC _ _ (jnc jE) (jnc jE) from .stay (fun c hc => stays_fz (fz_sc (List.all_eq_true.1 (jnc_sc _) c hc))))⟩, trivial⟩ ⟨tr_v, tr_pt rfl, tr_pt rfl, tr_v, tr_v, tr_v, tr_v, tr_v, trivial⟩
    · skip
      refine w_seq ?_
      refine w_reg rfl ?_
      refine v_lss lay2 rfl rfl (fun h3 => ?_) (fun h3 => ?_)
      · exact absurd h3 (by decide)
      refine v_nil ?_
      refine q_n ?_
      refine w_seq ?_
      refine w_f rfl ?_
      refine w_exit ?_
      refine q_e ?_
      refine q_e ?_
      refine q_hit ?_
      refine q_bn ?_
      refine q_n ?_
      refine w_reg rfl ?_
      refine v_add lay2 rfl rfl (i64r (by decide)) ?_
      refine v_move rfl ?_
      refine v_nil ?_
      refine q_n ?_
      refine ⟨_, _, _, ?_, ⟨1, rfl, Nat.le_refl _, rfl, rfl⟩, by omega⟩
      exact turn [some 0, some 1] rfl rfl rfl ⟨⟨_, rfl, (show TrC _ _ (jnc zJn) (jnc zJn) from .stay (fun c hc => stays_fz (fz_sc (List.all_eq_true.1 (jnc_sc _) c hc))))⟩, ⟨_, rfl, (show TrC _ _ (jnc jE) (jnc jE) from .stay (fun c hc => stays_fz (fz_sc (List.all_eq_true.1 (jnc_sc _) c hc))))⟩, trivial⟩ ⟨tr_v, tr_pt rfl, tr_pt rfl, tr_v, tr_v, trivial⟩
  · skip
    refine w_seq ?_
    refine w_reg rfl ?_
    refine v_lss lay2 rfl rfl (fun h4 => ?_) (fun h4 => ?_)
    · exact absurd h4 (by decide)
    refine v_nil ?_
    refine q_n ?_
    refine w_seq ?_
    refine w_f rfl ?_
    refine w_exit ?_
    refine q_e ?_
    refine q_e ?_
    refine q_hit ?_
    refine q_n ?_
    refine w_seq ?_
    refine w_reg rfl ?_
    refine v_load_pt (.agg [_, _, _, _, _, _, _, _, _, _, _, _, _, _, _, _, _, _, _, _, _, _]) lay49 rfl rfl rfl rfl ?_
    refine v_store (H' := [⟨[_, _, _, _, _, _, _, _, _, _, _, _, _, _, _, _, _, _, _, _, _, _], 49, true⟩, _]) lay49 rfl rfl rfl rfl rfl rfl ?_
    refine v_nil ?_
    refine q_n ?_
    refine w_ret ?_
    refine r_r rfl ?_
    exact a_agg (show TrC _ _ _ (jnc jE) from .stay (fun c hc => stays_fz (fz_sc (List.all_eq_true.1 (jnc_sc jE) c hc))))
theorem cEvS : PureC X 28 [cI 1, cI 1] (.agg (jnc jE)) := by
  refine PureC.of_body (drawD_ok X) (fun _ _ => Go.Proofs.Try.call28 _ _) Go.Proofs.Try.func28 rfl (n := 33) rfl ?_
  refine w_seq ?_
  refine w_reg rfl ?_
  refine v_alloc (m := 0) (H' := [⟨[.v _, .v _, .f _ _, .f _ _, .f _ _, .f _ _, .f _ _, .f _ _, .f _ _, .f _ _, .f _ _, .f _ _, .f _ _, .f _ _, .f _ _, .f _ _, .f _ _, .f _ _, .f _ _, .f _ _, .f _ _, .f _ _], 49, true⟩]) lay49 rfl rfl ?_
  refine v_nil ?_
  refine q_n ?_
  refine w_seq ?_
  refine w_reg rfl ?_
  refine v_move rfl ?_
  refine v_move rfl ?_
  refine v_build [(0, 1), (1, 1), (2, 16), (18, 4)] [.v _, .v _, .f _ _, .f _ _, .f _ _, .f _ _, .f _ _, .f _ _, .f _ _, .f _ _, .f _ _, .f _ _, .f _ _, .f _ _, .f _ _, .f _ _, .f _ _, .f _ _, .f _ _, .f _ _, .f _ _, .f _ _] lay49 rfl rfl ?_
  refine v_alloc (m := 1) (H' := [_, ⟨[.v _, .v _, .f _ _, .f _ _, .f _ _, .f _ _, .f _ _, .f _ _, .f _ _, .f _ _, .f _ _, .f _ _, .f _ _, .f _ _, .f _ _, .f _ _, .f _ _, .f _ _, .f _ _, .f _ _, .f _ _, .f _ _], 49, true⟩]) lay49 rfl rfl ?_
  refine v_store (H' := [_, ⟨[_, _, _, _, _, _, _, _, _, _, _, _, _, _, _, _, _, _, _, _, _, _], 49, true⟩]) lay49 rfl rfl rfl rfl rfl rfl ?_
  refine v_nil ?_
  refine q_n ?_
  refine w_seq ?_
  refine w_seq ?_
  refine w_reg rfl ?_
  refine v_assign (c := .v (.int .i64 0)) rfl ?_
  refine v_nil ?_
  refine q_n ?_
  refine w_block ?_
  refine w_loop (fun k sl H => ∃ i : Nat, k = 1 - i ∧ i ≤ 1 ∧ sl = sls [(0, cI 1), (1, cI 1), (4, .c (.pt 0 0)), (5, .c (.pt 1 0)), (6, cI i)] ∧ H = [⟨jnc zJn, 49, true⟩, ⟨jnc (if i = 0 then j0 else jE), 49, true⟩]) ?_ ?_
  · refine ⟨_, _, _, ?_, 0, rfl, Nat.zero_le _, rfl, rfl⟩
    exact turn [some 0, some 1] rfl rfl rfl ⟨⟨_, rfl, (show TrC _ _ (jnc zJn) (jnc zJn) from .stay (fun c hc => stays_fz (fz_sc (List.all_eq_true.1 (jnc_sc _) c hc))))⟩, ⟨_, rfl, (show TrC _ _ (jnc j0) (jnc j0) from .stay (fun c hc => stays_fz (fz_sc (List.all_eq_true.1 (jnc_sc _) c hc))))⟩, trivial⟩ ⟨tr_v, tr_v, tr_pt rfl, tr_pt rfl, tr_v, trivial⟩
  rintro k sl H ⟨i, rfl, hi, rfl, rfl⟩
  rcases (by omega : i = 0 ∨ i = 1) with rfl | rfl
  · skip
    refine w_seq ?_
    refine w_seq ?_
    refine w_reg rfl ?_
    refine v_move rfl ?_
    refine v_move rfl ?_
    refine v_lss lay2 rfl rfl (fun h1 => ?_) (fun h1 => ?_)
    rotate_left
    · exact absurd (by decide) h1
    refine v_nil ?_
    refine q_n ?_
    refine w_t rfl ?_
    refine w_skip ?_
    refine q_n ?_
    refine w_seq ?_
    refine w_block ?_
    refine w_seq ?_
    refine w_seq ?_
    refine w_reg rfl ?_
    refine v_assign (c := .v (.int .i64 0)) rfl ?_
    refine v_nil ?_
    refine q_n ?_
    refine w_block ?_
    refine w_loop (fun k sl H => ∃ q : Nat, k = 1 - q ∧ q ≤ 1 ∧ sl = sls [(0, cI 1), (1, cI 1), (4, .c (.pt 0 0)), (5, .c (.pt 1 0)), (6, cI 0), (7, cI q)] ∧ H = [⟨jnc zJn, 49, true⟩, ⟨jnc (if q = 0 then j0 else jT), 49, true⟩]) ?_ ?_
    · refine ⟨_, _, _, ?_, 0, rfl, Nat.zero_le _, rfl, rfl⟩
      exact turn [some 0, some 1] rfl rfl rfl ⟨⟨_, rfl, (show TrC _ _ (jnc zJn) (jnc zJn) from .stay (fun c hc => stays_fz (fz_sc (List.all_eq_true.1 (jnc_sc _) c hc))))⟩, ⟨_, rfl, (show TrC _ _ (jnc j0) (jnc j0) from .stay (fun c hc => stays_fz (fz_sc (List.all_eq_true.1 (jnc_sc _) c hc))))⟩, trivial⟩ ⟨tr_v, tr_v, tr_pt rfl, tr_pt rfl, tr_v, tr_v, trivial⟩
    rintro k sl H ⟨q, rfl, hq, rfl, rfl⟩
    rcases (by omega : q = 0 ∨ q = 1) with rfl | rfl
    · skip
      refine w_seq ?_
      refine w_seq ?_
      refine w_reg rfl ?_
      refine v_move rfl ?_
      refine v_move rfl ?_
      refine v_lss lay2 rfl rfl (fun h2 => ?_) (fun h2 => ?_)
      rotate_left
      · exact absurd (by decide) h2
      refine v_nil ?_
      refine q_n ?_
      refine w_t rfl ?_
      refine w_skip ?_
      refine q_n ?_
      refine w_seq ?_
      refine w_block ?_
      refine w_reg rfl ?_
      refine v_move rfl ?_
      refine v_move rfl ?_
      refine v_move rfl ?_
      refine v_conv_if lay2 lay22 rfl ?_
      refine v_bin (c := .f .f32 (some 1065353216)) lay22 rfl rfl (congrArg (fun z => some (C.f .f32 z)) one1) ?_
      refine v_fa_pt (off' := 2) lay49 rfl rfl rfl ?_
      refine v_idx_arr_e (k := 4) (0) lay46 lay44 rfl rfl rfl (rfl) (by decide) ?_
      refine v_idx_arr_e (k := 1) (0) lay44 lay22 rfl rfl rfl (rfl) (by decide) ?_
      refine v_store (H' := [_, ⟨[_, _, _, _, _, _, _, _, _, _, _, _, _, _, _, _, _, _, _, _, _, _], 49, true⟩]) lay22 rfl rfl rfl rfl rfl rfl ?_
      refine v_nil ?_
      refine q_bn ?_
      refine q_n ?_
      refine w_reg rfl ?_
      refine v_move rfl ?_
      refine v_add lay2 rfl rfl (i64r (by decide)) ?_
      refine v_assign rfl ?_
      refine v_nil ?_
      refine q_n ?_
      refine ⟨_, _, _, ?_, ⟨1, rfl, Nat.le_refl _, rfl, rfl⟩, by omega⟩
      exact turn [some 0, some 1] rfl rfl rfl ⟨⟨_, rfl, (show TrC _ _ (jnc zJn) (jnc zJn) from .stay (fun c hc => stays_fz (fz_sc (List.all_eq_true.1 (jnc_sc _) c hc))))⟩, ⟨_, rfl, (show TrC _ _ (jnc jT) (jnc jT) from .stay (fun c hc => stays_fz (fz_sc (List.all_eq_true.1 (jnc_sc _) c hc))))⟩, trivial⟩ ⟨tr_v, tr_v, tr_pt rfl, tr_pt rfl, tr_v, tr_v, trivial⟩
    · skip
      refine w_seq ?_
      refine w_seq ?_
      refine w_reg rfl ?_
      refine v_move rfl ?_
      refine v_move rfl ?_
      refine v_lss lay2 rfl rfl (fun h3 => ?_) (fun h3 => ?_)
      · exact absurd h3 (by decide)
      refine v_nil ?_
      refine q_n ?_
      refine w_f rfl ?_
      refine w_exit ?_
      refine q_e ?_
      refine q_e ?_
      refine q_hit ?_
      refine q_n ?_
      refine w_reg rfl ?_
      refine v_move rfl ?_
      refine v_fa_pt (off' := 18) lay49 rfl rfl rfl ?_
      refine v_idx_arr_e (k := 1) (0) lay47 lay22 rfl rfl rfl (rfl) (by decide) ?_
      refine v_store (H' := [_, ⟨[_, _, _, _, _, _, _, _, _, _, _, _, _, _, _, _, _, _, _, _, _, _], 49, true⟩]) lay22 rfl rfl rfl rfl rfl rfl ?_
      refine v_nil ?_
      refine q_bn ?_
      refine q_n ?_
      refine w_reg rfl ?_
      refine v_move rfl ?_
      refine v_add lay2 rfl rfl (i64r (by decide)) ?_
      refine v_assign rfl ?_
      refine v_nil ?_
      refine q_n ?_
      refine ⟨_, _, _, ?_, ⟨1, rfl, Nat.le_refl _, rfl, rfl⟩, by omega⟩
      exact turn [some 0, some 1] rfl rfl rfl ⟨⟨_, rfl, (show TrC _ _ (jnc zJn) (jnc zJn) from .stay (fun c hc => stays_fz (fz_sc (List.all_eq_true.1 (jnc_sc _) c hc))))⟩, ⟨_, rfl, (show TrC _ _ (jnc jE) (jnc jE) from .stay (fun c hc => stays_fz (fz_sc (List.all_eq_true.1 (jnc_sc _) c hc))))⟩, trivial⟩ ⟨tr_v, tr_v, tr_pt rfl, tr_pt rfl, tr_v, trivial⟩
  · skip
    refine w_seq ?_
    refine w_seq ?_
    refine w_reg rfl ?_
    refine v_move rfl ?_
    refine v_move rfl ?_
    refine v_lss lay2 rfl rfl (fun h4 => ?_) (fun h4 => ?_)
    · exact absurd h4 (by decide)
    refine v_nil ?_
    refine q_n ?_
    refine w_f rfl ?_
    refine w_exit ?_
    refine q_e ?_
    refine q_e ?_
    refine q_hit ?_
    refine q_n ?_
    refine w_seq ?_
    refine w_reg rfl ?_
    refine v_load_pt (.agg [_, _, _, _, _, _, _, _, _, _, _, _, _, _, _, _, _, _, _, _, _, _]) lay49 rfl rfl rfl rfl ?_
    refine v_store (H' := [⟨[_, _, _, _, _, _, _, _, _, _, _, _, _, _, _, _, _, _, _, _, _, _], 49, true⟩, _]) lay49 rfl rfl rfl rfl rfl rfl ?_
    refine v_nil ?_
    refine q_n ?_
    refine w_ret ?_
    refine r_r rfl ?_
    exact a_agg (show TrC _ _ _ (jnc jE) from .stay (fun c hc => stays_fz (fz_sc (List.all_eq_true.1 (jnc_sc jE) c hc))))
theorem cMrT (x b l : Option Nat) (hr : rW (mr x b l)) (ho : roadOk (mr x b l)) : PureC X 12 [.c (.f .f32 x), .c (.f .f32 b), .c (.f .f32 l)] (.tup [.agg (rdc (mr x b l)), cI 0]) := by
  refine PureC.of_body (drawD_ok X) (fun _ _ => Go.Proofs.Try.call12 _ _) Go.Proofs.Try.func12 rfl (n := 18) rfl ?_
  refine w_seq ?_
  refine w_reg rfl ?_
  refine v_alloc (m := 0) (H' := [⟨[.f _ _, .f _ _, .f _ _, .f _ _, .f _ _, .f _ _, .f _ _, .f _ _, .f _ _, .f _ _, .f _ _, .f _ _, .f _ _, .f _ _, .f _ _, .f _ _, .f _ _, .f _ _, .f _ _], 41, true⟩]) lay41 rfl rfl ?_
  refine v_assign (c := .v (.int .i64 0)) rfl ?_
  refine v_nil ?_
  refine q_n ?_
  refine w_seq ?_
  refine w_reg rfl ?_
  refine v_move rfl ?_
  refine v_move rfl ?_
  refine v_move rfl ?_
  refine v_build [(0, 16), (16, 1), (17, 1), (18, 1)] [.f _ _, .f _ _, .f _ _, .f _ _, .f _ _, .f _ _, .f _ _, .f _ _, .f _ _, .f _ _, .f _ _, .f _ _, .f _ _, .f _ _, .f _ _, .f _ _, .f _ _, .f _ _, .f _ _] lay41 rfl rfl ?_
  refine v_alloc (m := 1) (H' := [_, ⟨[.f _ _, .f _ _, .f _ _, .f _ _, .f _ _, .f _ _, .f _ _, .f _ _, .f _ _, .f _ _, .f _ _, .f _ _, .f _ _, .f _ _, .f _ _, .f _ _, .f _ _, .f _ _, .f _ _], 41, true⟩]) lay41 rfl rfl ?_
  refine v_store (H' := [_, ⟨[_, _, _, _, _, _, _, _, _, _, _, _, _, _, _, _, _, _, _], 41, true⟩]) lay41 rfl rfl rfl rfl rfl rfl ?_
  refine v_nil ?_
  refine q_n ?_
  refine w_seq ?_
  refine w_seq ?_
  refine w_reg rfl ?_
  refine v_load_pt (.agg [_, _, _, _, _, _, _, _, _, _, _, _, _, _, _, _, _, _, _]) lay41 rfl rfl rfl rfl ?_
  refine v_callb (cRdI (mr x b l) hr) rfl rfl (.cons (vw_agg (.cons vw_f (.cons vw_f (.cons vw_f (.cons vw_f (.cons vw_f (.cons vw_f (.cons vw_f (.cons vw_f (.cons vw_f (.cons vw_f (.cons vw_f (.cons vw_f (.cons vw_f (.cons vw_f (.cons vw_f (.cons vw_f (.cons vw_f (.cons vw_f (.cons vw_f .nil)))))))))))))))))))) .nil) (fun h1 => ?_) (fun h1 => ?_)
  rotate_left
  · exact absurd ho h1
  refine v_not false rfl rfl ?_
  refine v_nil ?_
  refine q_n ?_
  refine w_f rfl ?_
  refine w_skip ?_
  refine q_n ?_
  refine w_seq ?_
  refine w_reg rfl ?_
  refine v_load_pt (.agg [_, _, _, _, _, _, _, _, _, _, _, _, _, _, _, _, _, _, _]) lay41 rfl rfl rfl rfl ?_
  refine v_store (H' := [⟨[_, _, _, _, _, _, _, _, _, _, _, _, _, _, _, _, _, _, _], 41, true⟩, _]) lay41 rfl rfl rfl rfl rfl rfl ?_
  refine v_assign (c := .v (.int .i64 0)) rfl ?_
  refine v_nil ?_
  refine q_n ?_
  refine w_ret ?_
  refine r_r rfl ?_
  exact a_tup (.cons (show TrV _ _ _ (.agg (rdc (mr x b l))) from a_agg (show TrC _ _ (rdc (mr x b l)) (rdc (mr x b l)) from .stay (fun c hc => stays_fz (fz_sc (List.all_eq_true.1 (rdc_sc _) c hc))))) (.cons tr_v .nil))
theorem cMrF (x b l : Option Nat) (hr : rW (mr x b l)) (ho : ¬ roadOk (mr x b l)) : PureC X 12 [.c (.f .f32 x), .c (.f .f32 b), .c (.f .f32 l)] (.tup [.agg (rdc zR), cI 1]) := by
  refine PureC.of_body (drawD_ok X) (fun _ _ => Go.Proofs.Try.call12 _ _) Go.Proofs.Try.func12 rfl (n := 18) rfl ?_
  refine w_seq ?_
  refine w_reg rfl ?_
  refine v_alloc (m := 0) (H' := [⟨[.f _ _, .f _ _, .f _ _, .f _ _, .f _ _, .f _ _, .f _ _, .f _ _, .f _ _, .f _ _, .f _ _, .f _ _, .f _ _, .f _ _, .f _ _, .f _ _, .f _ _, .f _ _, .f _ _], 41, true⟩]) lay41 rfl rfl ?_
  refine v_assign (c := .v (.int .i64 0)) rfl ?_
  refine v_nil ?_
  refine q_n ?_
  refine w_seq ?_
  refine w_reg rfl ?_
  refine v_move rfl ?_
  refine v_move rfl ?_
  refine v_move rfl ?_
  refine v_build [(0, 16), (16, 1), (17, 1), (18, 1)] [.f _ _, .f _ _, .f _ _, .f _ _, .f _ _, .f _ _, .f _ _, .f _ _, .f _ _, .f _ _, .f _ _, .f _ _, .f _ _, .f _ _, .f _ _, .f _ _, .f _ _, .f _ _, .f _ _] lay41 rfl rfl ?_
  refine v_alloc (m := 1) (H' := [_, ⟨[.f _ _, .f _ _, .f _ _, .f _ _, .f _ _, .f _ _, .f _ _, .f _ _, .f _ _, .f _ _, .f _ _, .f _ _, .f _ _, .f _ _, .f _ _, .f _ _, .f _ _, .f _ _, .f _ _], 41, true⟩]) lay41 rfl rfl ?_
  refine v_store (H' := [_, ⟨[_, _, _, _, _, _, _, _, _, _, _, _, _, _, _, _, _, _, _], 41, true⟩]) lay41 rfl rfl rfl rfl rfl rfl ?_
  refine v_nil ?_
  refine q_n ?_
  refine w_seq ?_
  refine w_seq ?_
  refine w_reg rfl ?_
  refine v_load_pt (.agg [_, _, _, _, _, _, _, _, _, _, _, _, _, _, _, _, _, _, _]) lay41 rfl rfl rfl rfl ?_
  refine v_callb (cRdI (mr x b l) hr) rfl rfl (.cons (vw_agg (.cons vw_f (.cons vw_f (.cons vw_f (.cons vw_f (.cons vw_f (.cons vw_f (.cons vw_f (.cons vw_f (.cons vw_f (.cons vw_f (.cons vw_f (.cons vw_f (.cons vw_f (.cons vw_f (.cons vw_f (.cons vw_f (.cons vw_f (.cons vw_f (.cons vw_f .nil)))))))))))))))))))) .nil) (fun h1 => ?_) (fun h1 => ?_)
  · exact absurd h1 ho
  refine v_not true rfl rfl ?_
  refine v_nil ?_
  refine q_n ?_
  refine w_t rfl ?_
  refine w_seq ?_
  refine w_reg rfl ?_
  refine v_build [(0, 16), (16, 1), (17, 1), (18, 1)] [.f _ _, .f _ _, .f _ _, .f _ _, .f _ _, .f _ _, .f _ _, .f _ _, .f _ _, .f _ _, .f _ _, .f _ _, .f _ _, .f _ _, .f _ _, .f _ _, .f _ _, .f _ _, .f _ _] lay41 rfl rfl ?_
  refine v_store (H' := [⟨[_, _, _, _, _, _, _, _, _, _, _, _, _, _, _, _, _, _, _], 41, true⟩, _]) lay41 rfl rfl rfl rfl rfl rfl ?_
  refine v_assign (c := .v (.int .i64 1)) rfl ?_
  refine v_nil ?_
  refine q_n ?_
  refine w_ret (q_r ?_)
  refine r_r rfl ?_
  exact a_tup (.cons (show TrV _ _ _ (.agg (rdc zR)) from a_agg (show TrC _ _ (rdc zR) (rdc zR) from .stay (fun c hc => stays_fz (fz_sc (List.all_eq_true.1 (rdc_sc _) c hc))))) (.cons tr_v .nil))
def LHi (x : Option Nat) : Nat → List Ob
  | 0 => [⟨[.v (.slice none 0 0), .v (.slice none 0 0), .v (.slice none 0 0), .v (.slice none 0 0), .v (.int .i64 0), .f .f32 (some 0), .f .f32 (some 0)], 28, true⟩, ⟨rdc (lr x), 41, true⟩, ⟨[.mu 3 0 0 19, .mu 4 0 0 1, .mu 6 0 0 25, .mu 5 0 0 3, .v (.int .i64 0), .f .f32 (some 0), .f .f32 (some 0)], 28, true⟩, ⟨flat rdc (List.replicate 0 (lr x)), 41, true⟩, ⟨flat fe (List.replicate 0 (some 0)), 22, true⟩, ⟨[], 74, true⟩, ⟨refsN JN 7 (jl 0), 53, true⟩]
  | 1 => [⟨[.v (.slice none 0 0), .v (.slice none 0 0), .v (.slice none 0 0), .v (.slice none 0 0), .v (.int .i64 0), .f .f32 (some 0), .f .f32 (some 0)], 28, true⟩, ⟨rdc (lr x), 41, true⟩, ⟨[.mu 3 0 1 19, .mu 4 0 1 1, .mu 6 0 0 25, .mu 5 0 0 3, .v (.int .i64 0), .f .f32 (some 0), .f .f32 (some 0)], 28, true⟩, ⟨flat rdc (List.replicate 1 (lr x)), 41, true⟩, ⟨flat fe (List.replicate 1 (some 0)), 22, true⟩, ⟨[], 74, true⟩, ⟨refsN JN 7 (jl 0), 53, true⟩]
  | 2 => [⟨[.v (.slice none 0 0), .v (.slice none 0 0), .v (.slice none 0 0), .v (.slice none 0 0), .v (.int .i64 0), .f .f32 (some 0), .f .f32 (some 0)], 28, true⟩, ⟨rdc (lr x), 41, true⟩, ⟨[.mu 3 0 2 19, .mu 4 0 2 1, .mu 6 0 1 25, .mu 5 0 0 3, .v (.int .i64 0), .f .f32 (some 0), .f .f32 (some 0)], 28, true⟩, ⟨flat rdc (List.replicate 2 (lr x)), 41, true⟩, ⟨flat fe (List.replicate 2 (some 0)), 22, true⟩, ⟨[], 74, true⟩, ⟨refsN JN 7 (jl 1), 53, true⟩, ⟨flat int [0], 2, true⟩, ⟨flat int [1], 2, true⟩]
  | 3 => [⟨[.v (.slice none 0 0), .v (.slice none 0 0), .v (.slice none 0 0), .v (.slice none 0 0), .v (.int .i64 0), .f .f32 (some 0), .f .f32 (some 0)], 28, true⟩, ⟨rdc (lr x), 41, true⟩, ⟨[.mu 3 0 3 19, .mu 4 0 3 1, .mu 6 0 2 25, .mu 5 0 0 3, .v (.int .i64 0), .f .f32 (some 0), .f .f32 (some 0)], 28, true⟩, ⟨flat rdc (List.replicate 3 (lr x)), 41, true⟩, ⟨flat fe (List.replicate 3 (some 0)), 22, true⟩, ⟨[], 74, true⟩, ⟨refsN JN 7 (jl 2), 53, true⟩, ⟨flat int [0], 2, true⟩, ⟨flat int [1], 2, true⟩, ⟨flat int [1], 2, true⟩, ⟨flat int [2], 2, true⟩]
  | 4 => [⟨[.v (.slice none 0 0), .v (.slice none 0 0), .v (.slice none 0 0), .v (.slice none 0 0), .v (.int .i64 0), .f .f32 (some 0), .f .f32 (some 0)], 28, true⟩, ⟨rdc (lr x), 41, true⟩, ⟨[.mu 3 0 4 19, .mu 4 0 4 1, .mu 6 0 3 25, .mu 5 0 0 3, .v (.int .i64 0), .f .f32 (some 0), .f .f32 (some 0)], 28, true⟩, ⟨flat rdc (List.replicate 4 (lr x)), 41, true⟩, ⟨flat fe (List.replicate 4 (some 0)), 22, true⟩, ⟨[], 74, true⟩, ⟨refsN JN 7 (jl 3), 53, true⟩, ⟨flat int [0], 2, true⟩, ⟨flat int [1], 2, true⟩, ⟨flat int [1], 2, true⟩, ⟨flat int [2], 2, true⟩, ⟨flat int [2], 2, true⟩, ⟨flat int [3], 2, true⟩]
  | 5 => [⟨[.v (.slice none 0 0), .v (.slice none 0 0), .v (.slice none 0 0), .v (.slice none 0 0), .v (.int .i64 0), .f .f32 (some 0), .f .f32 (some 0)], 28, true⟩, ⟨rdc (lr x), 41, true⟩, ⟨[.mu 3 0 5 19, .mu 4 0 5 1, .mu 6 0 4 25, .mu 5 0 0 3, .v (.int .i64 0), .f .f32 (some 0), .f .f32 (some 0)], 28, true⟩, ⟨flat rdc (List.replicate 5 (lr x)), 41, true⟩, ⟨flat fe (List.replicate 5 (some 0)), 22, true⟩, ⟨[], 74, true⟩, ⟨refsN JN 7 (jl 4), 53, true⟩, ⟨flat int [0], 2, true⟩, ⟨flat int [1], 2, true⟩, ⟨flat int [1], 2, true⟩, ⟨flat int [2], 2, true⟩, ⟨flat int [2], 2, true⟩, ⟨flat int [3], 2, true⟩, ⟨flat int [3], 2, true⟩, ⟨flat int [4], 2, true⟩]
  | _ + 6 => []
theorem cLnI (n : Nat) (x : Option Nat) (hn : 1 ≤ n ∧ n ≤ 5) (hx : Sg x) (ho : roadOk (lr x)) : LiveC X 5 [cI n, .c (.f .f32 x)] (.tup [.agg (fta n n (n - 1) 0 (some 0) (some 0)), cI 0]) (FT (List.replicate n (lr x)) (List.replicate n (some 0)) (jl (n - 1))) := by
  refine LiveC.of_body (drawD2_ok X) (fun _ _ => Go.Proofs.Try.call5 _ _) Go.Proofs.Try.func5 rfl (n := 55) rfl ?_
  refine w_seq ?_
  refine w_reg rfl ?_
  refine v_alloc (m := 0) (H' := [⟨[.v _, .v _, .v _, .v _, .v _, .f _ _, .f _ _], 28, true⟩]) lay28 rfl rfl ?_
  refine v_assign (c := .v (.int .i64 0)) rfl ?_
  refine v_nil ?_
  refine q_n ?_
  refine w_seq ?_
  refine w_reg rfl ?_
  refine v_move rfl ?_
  refine v_call (cMrT _ _ _ (lr_w hx) ho) rfl rfl rfl (.cons vw_f (.cons vw_f (.cons vw_f .nil))) ?_
  refine v_move_t rfl ?_
  refine v_extract_a rfl rfl ?_
  refine v_extract_c rfl rfl ?_
  refine v_alloc (m := 1) (H' := [_, ⟨[.f _ _, .f _ _, .f _ _, .f _ _, .f _ _, .f _ _, .f _ _, .f _ _, .f _ _, .f _ _, .f _ _, .f _ _, .f _ _, .f _ _, .f _ _, .f _ _, .f _ _, .f _ _, .f _ _], 41, true⟩]) lay41 rfl rfl ?_
  refine v_store (H' := [_, ⟨[_, _, _, _, _, _, _, _, _, _, _, _, _, _, _, _, _, _, _], 41, true⟩]) lay41 rfl rfl rfl rfl rfl rfl ?_
  refine v_assign rfl ?_
  refine v_nil ?_
  refine q_n ?_
  refine w_seq ?_
  refine w_seq ?_
  refine w_reg rfl ?_
  refine v_move rfl ?_
  refine v_callb (cInR _ _ _) rfl rfl (.cons vw_v (.cons vw_v (.cons vw_v .nil))) (fun h1 => ?_) (fun h1 => ?_)
  rotate_left
  · exact absurd (by omega) h1
  refine v_not false rfl rfl ?_
  refine v_move rfl ?_
  refine v_guard_on rfl rfl ?_
  refine v_move rfl ?_
  refine v_guard_on rfl rfl ?_
  refine v_neq lay2 rfl rfl (fun h2 => ?_) (fun h2 => ?_)
  · exact absurd (by decide) h2
  refine v_pick_f rfl rfl ?_
  refine v_nil ?_
  refine q_n ?_
  refine w_f rfl ?_
  refine w_skip ?_
  refine q_n ?_
  refine w_seq ?_
  refine w_reg rfl ?_
  refine v_build [(0, 1), (1, 1), (2, 1), (3, 1), (4, 1), (5, 1), (6, 1)] [.v _, .v _, .v _, .v _, .v _, .f _ _, .f _ _] lay28 rfl rfl ?_
  refine v_alloc (m := 2) (H' := [_, _, ⟨[.v _, .v _, .v _, .v _, .v _, .f _ _, .f _ _], 28, true⟩]) lay28 rfl rfl ?_
  refine v_store (H' := [_, _, ⟨[_, _, _, _, _, _, _], 28, true⟩]) lay28 rfl rfl rfl rfl rfl rfl ?_
  refine v_nil ?_
  refine q_n ?_
  refine w_seq ?_
  refine w_seq ?_
  refine w_reg rfl ?_
  refine v_move rfl ?_
  refine v_move (c := .v (.int .i64 0)) rfl ?_
  refine v_nil ?_
  refine q_n ?_
  refine w_block ?_
  refine w_loop (fun k sl H => ∃ i : Nat, k = n - i ∧ i ≤ n ∧ sl = sls [(4, .c (.pt 0 0)), (6, .c (.pt 1 0)), (8, .c (.pt 2 0)), (24, cI n), (25, cI i)] ∧ H = LHi x i) ?_ ?_
  · refine ⟨_, _, _, ?_, 0, rfl, Nat.zero_le _, rfl, rfl⟩
    exact turn [some 0, some 1, some 2, none, none, none, none] rfl rfl rfl (show TurnO _ _ _ [⟨[.v (.slice none 0 0), .v (.slice none 0 0), .v (.slice none 0 0), .v (.slice none 0 0), .v (.int .i64 0), .f .f32 (some 0), .f .f32 (some 0)], 28, true⟩, ⟨rdc (lr x), 41, true⟩, ⟨[.mu 3 0 0 19, .mu 4 0 0 1, .mu 6 0 0 25, .mu 5 0 0 3, .v (.int .i64 0), .f .f32 (some 0), .f .f32 (some 0)], 28, true⟩, ⟨flat rdc (List.replicate 0 (lr x)), 41, true⟩, ⟨flat fe (List.replicate 0 (some 0)), 22, true⟩, ⟨[], 74, true⟩, ⟨refsN JN 7 (jl 0), 53, true⟩] from ⟨⟨_, rfl, (show TrC _ _ [.v (.slice none 0 0), .v (.slice none 0 0), .v (.slice none 0 0), .v (.slice none 0 0), .v (.int .i64 0), .f .f32 (some 0), .f .f32 (some 0)] [.v (.slice none 0 0), .v (.slice none 0 0), .v (.slice none 0 0), .v (.slice none 0 0), .v (.int .i64 0), .f .f32 (some 0), .f .f32 (some 0)] from .cons tr_v (.cons tr_v (.cons tr_v (.cons tr_v (.cons tr_v (.cons tr_f (.cons tr_f .nil)))))))⟩, ⟨_, rfl, (show TrC _ _ (rdc (lr x)) (rdc (lr x)) from .stay (fun c hc => stays_fz (fz_sc (List.all_eq_true.1 (rdc_sc _) c hc))))⟩, ⟨_, rfl, .cons (tr_nil rfl) (.cons (tr_nil rfl) (.cons (tr_nil rfl) (.cons (tr_nil rfl) (.cons tr_v (.cons tr_f (.cons tr_f .nil))))))⟩, rfl, rfl, rfl, rfl, trivial⟩) ⟨tr_pt rfl, tr_pt rfl, tr_pt rfl, tr_v, tr_v, trivial⟩
  rintro k sl H ⟨i, rfl, hi, rfl, hH⟩
  rcases (by omega : i = 0 ∨ i = 1 ∨ i = 2 ∨ i = 3 ∨ i = 4 ∨ i = 5) with rfl | rfl | rfl | rfl | rfl | rfl
  · skip
    obtain rfl : H = [⟨[.v (.slice none 0 0), .v (.slice none 0 0), .v (.slice none 0 0), .v (.slice none 0 0), .v (.int .i64 0), .f .f32 (some 0), .f .f32 (some 0)], 28, true⟩, ⟨rdc (lr x), 41, true⟩, ⟨[.mu 3 0 0 19, .mu 4 0 0 1, .mu 6 0 0 25, .mu 5 0 0 3, .v (.int .i64 0), .f .f32 (some 0), .f .f32 (some 0)], 28, true⟩, ⟨flat rdc (List.replicate 0 (lr x)), 41, true⟩, ⟨flat fe (List.replicate 0 (some 0)), 22, true⟩, ⟨[], 74, true⟩, ⟨refsN JN 7 (jl 0), 53, true⟩] := hH
    refine w_seq ?_
    refine w_reg rfl ?_
    refine v_lss lay2 rfl rfl (fun h3 => ?_) (fun h3 => ?_)
    rotate_left
    · exact absurd hn.1 (by omega)
    refine v_nil ?_
    refine q_n ?_
    refine w_seq ?_
    refine w_t rfl ?_
    refine w_skip ?_
    refine q_n ?_
    refine w_seq ?_
    refine w_block ?_
    refine w_seq ?_
    refine w_reg rfl ?_
    refine v_move rfl ?_
    refine v_assign rfl ?_
    refine v_nil ?_
    refine q_n ?_
    refine w_seq ?_
    refine w_draw1 [0, 1, 0, 4, 15, 0, 32, 0, 255, 127, 1023, 2047, 4095] [⟨0, 0, []⟩, ⟨1, 0, []⟩, ⟨2, 0, []⟩, ⟨3, 2, []⟩, ⟨5, 0, []⟩, ⟨6, 0, []⟩, ⟨7, 2, []⟩, ⟨4, 1, [6]⟩, ⟨9, 0, []⟩, ⟨8, 1, []⟩, ⟨10, 1, []⟩, ⟨11, 0, []⟩, ⟨12, 1, []⟩] rfl rfl ?_
    refine d_q rfl rfl rfl rfl rfl ?_
    refine v_fa_pt (off' := 0) lay28 rfl rfl rfl ?_
    refine v_nil ?_
    refine d_q rfl rfl rfl rfl rfl ?_
    refine v_load_pt (.c _) lay23 rfl rfl rfl rfl ?_
    refine v_nil ?_
    refine d_q rfl rfl rfl rfl rfl ?_
    refine v_load_pt (.agg [_, _, _, _, _, _, _, _, _, _, _, _, _, _, _, _, _, _, _]) lay41 rfl rfl rfl rfl ?_
    refine v_nil ?_
    refine d_z (.c (.sl true 1 19 (flat rdc [lr x]))) rfl rfl rfl ?_
    refine d_q rfl rfl rfl rfl rfl ?_
    refine v_fa_pt (off' := 1) lay28 rfl rfl rfl ?_
    refine v_nil ?_
    refine d_q rfl rfl rfl rfl rfl ?_
    refine v_load_pt (.c _) lay24 rfl rfl rfl rfl ?_
    refine v_nil ?_
    refine d_z (.c (.sl true 1 1 (flat fe [some 0]))) rfl rfl rfl ?_
    refine d_e rfl rfl rfl ?_
    refine v_app_flat_sl (H' := [_, _, _, _, _, _, _, _]) rdc_sc rdc_len lay23 lay41 rfl rfl (by first | rfl | (simp; done)) rfl rfl rfl (⟨Nat.le_of_ble_eq_true rfl, Nat.le_of_ble_eq_true rfl⟩) rfl rfl ?_
    refine v_nil ⟨⟨ag_load_pt (.c _) lay24 rfl rfl rfl rfl, ⟨trivial, ⟨trivial, trivial⟩⟩⟩, ?_⟩
    refine d_q rfl rfl rfl rfl rfl ?_
    refine v_fa_pt (off' := 0) lay28 rfl rfl rfl ?_
    refine v_nil ?_
    refine d_e rfl rfl rfl ?_
    refine v_app_flat_sl (H' := [_, _, _, _, _, _, _, _, _]) fe_sc fe_len lay24 lay22 rfl rfl (by first | rfl | (simp; done)) rfl rfl rfl (⟨Nat.le_of_ble_eq_true rfl, Nat.le_of_ble_eq_true rfl⟩) rfl rfl ?_
    refine v_nil ⟨again_nil, ?_⟩
    refine d_e rfl rfl rfl ?_
    refine v_store (H' := [_, _, ⟨[_, _, _, _, _, _, _], 28, true⟩, _, _, _, _, _, _]) lay23 rfl rfl rfl rfl rfl rfl ?_
    refine v_nil ⟨again_nil, ?_⟩
    refine d_q rfl rfl rfl rfl rfl ?_
    refine v_fa_pt (off' := 1) lay28 rfl rfl rfl ?_
    refine v_nil ?_
    refine d_e rfl rfl rfl ?_
    refine v_store (H' := [_, _, ⟨[_, _, _, _, _, _, _], 28, true⟩, _, _, _, _, _, _]) lay24 rfl rfl rfl rfl rfl rfl ?_
    refine v_nil ⟨again_nil, ?_⟩
    refine d_nil ?_
    refine q_n ?_
    refine w_seq ?_
    refine w_reg rfl ?_
    refine v_move rfl ?_
    refine v_gtr lay2 rfl rfl (fun h4 => ?_) (fun h4 => ?_)
    · exact absurd h4 (by decide)
    refine v_nil ?_
    refine q_n ?_
    refine w_f rfl ?_
    refine w_skip ?_
    refine q_bn ?_
    refine q_n ?_
    refine w_reg rfl ?_
    refine v_add lay2 rfl rfl (i64r (by omega)) ?_
    refine v_move rfl ?_
    refine v_nil ?_
    refine q_n ?_
    refine ⟨_, _, _, ?_, ⟨1, rfl, by omega, rfl, rfl⟩, by omega⟩
    exact turn [some 0, some 1, some 2, some 7, some 8, some 5, some 6] rfl rfl rfl (show TurnO _ _ _ [⟨[.v (.slice none 0 0), .v (.slice none 0 0), .v (.slice none 0 0), .v (.slice none 0 0), .v (.int .i64 0), .f .f32 (some 0), .f .f32 (some 0)], 28, true⟩, ⟨rdc (lr x), 41, true⟩, ⟨[.mu 3 0 1 19, .mu 4 0 1 1, .mu 6 0 0 25, .mu 5 0 0 3, .v (.int .i64 0), .f .f32 (some 0), .f .f32 (some 0)], 28, true⟩, ⟨flat rdc (List.replicate 1 (lr x)), 41, true⟩, ⟨flat fe (List.replicate 1 (some 0)), 22, true⟩, ⟨[], 74, true⟩, ⟨refsN JN 7 (jl 0), 53, true⟩] from ⟨⟨_, rfl, (show TrC _ _ [.v (.slice none 0 0), .v (.slice none 0 0), .v (.slice none 0 0), .v (.slice none 0 0), .v (.int .i64 0), .f .f32 (some 0), .f .f32 (some 0)] [.v (.slice none 0 0), .v (.slice none 0 0), .v (.slice none 0 0), .v (.slice none 0 0), .v (.int .i64 0), .f .f32 (some 0), .f .f32 (some 0)] from .cons tr_v (.cons tr_v (.cons tr_v (.cons tr_v (.cons tr_v (.cons tr_f (.cons tr_f .nil)))))))⟩, ⟨_, rfl, (show TrC _ _ (rdc (lr x)) (rdc (lr x)) from .stay (fun c hc => stays_fz (fz_sc (List.all_eq_true.1 (rdc_sc _) c hc))))⟩, ⟨_, rfl, .cons (tr_mu rfl) (.cons (tr_mu rfl) (.cons (tr_mu rfl) (.cons (tr_mu rfl) (.cons tr_v (.cons tr_f (.cons tr_f .nil))))))⟩, ⟨_, rfl, trc_flat rdc_sc rfl⟩, ⟨_, rfl, trc_flat fe_sc rfl⟩, ⟨_, rfl, .nil⟩, ⟨_, rfl, (show TrC _ _ (refsN JN 7 (jl 0)) (refsN JN 7 (jl 0)) from trc_refsN JN_ok (by decide))⟩, trivial⟩) ⟨tr_pt rfl, tr_pt rfl, tr_pt rfl, tr_v, tr_v, trivial⟩
  · skip
    obtain rfl : H = [⟨[.v (.slice none 0 0), .v (.slice none 0 0), .v (.slice none 0 0), .v (.slice none 0 0), .v (.int .i64 0), .f .f32 (some 0), .f .f32 (some 0)], 28, true⟩, ⟨rdc (lr x), 41, true⟩, ⟨[.mu 3 0 1 19, .mu 4 0 1 1, .mu 6 0 0 25, .mu 5 0 0 3, .v (.int .i64 0), .f .f32 (some 0), .f .f32 (some 0)], 28, true⟩, ⟨flat rdc (List.replicate 1 (lr x)), 41, true⟩, ⟨flat fe (List.replicate 1 (some 0)), 22, true⟩, ⟨[], 74, true⟩, ⟨refsN JN 7 (jl 0), 53, true⟩] := hH
    refine w_seq ?_
    refine w_reg rfl ?_
    refine v_lss lay2 rfl rfl (fun h5 => ?_) (fun h5 => ?_)
    rotate_left
    · have hne : n = 1 := by omega
      subst hne
      refine v_nil ?_
      refine q_n ?_
      refine w_seq ?_
      refine w_f rfl ?_
      refine w_exit ?_
      refine q_e ?_
      refine q_e ?_
      refine q_hit ?_
      refine q_n ?_
      refine w_seq ?_
      refine w_reg rfl ?_
      refine v_load_pt (.agg [_, _, _, _, _, _, _]) lay28 rfl rfl rfl rfl ?_
      refine v_store (H' := [⟨[_, _, _, _, _, _, _], 28, true⟩, _, _, _, _, _, _]) lay28 rfl rfl rfl rfl rfl rfl ?_
      refine v_assign (c := .v (.int .i64 0)) rfl ?_
      refine v_nil ?_
      refine q_n ?_
      refine w_ret ?_
      refine r_r rfl ?_
      exact l_ans [some 3, some 4, some 5, some 6] rfl rfl (show TurnO _ _ _ [⟨flat rdc (List.replicate 1 (lr x)), 41, true⟩, ⟨flat fe (List.replicate 1 (some 0)), 22, true⟩, ⟨[], 74, true⟩, ⟨refsN JN 4 (jl 0), 53, true⟩] from ⟨⟨_, rfl, trc_flat rdc_sc rfl⟩, ⟨_, rfl, trc_flat fe_sc rfl⟩, ⟨_, rfl, .nil⟩, ⟨_, rfl, (show TrC _ _ (refsN JN 7 (jl 0)) (refsN JN 4 (jl 0)) from trc_refsN JN_ok (by decide))⟩, trivial⟩) (a_tup (.cons (tr_agg (.cons (tr_mu rfl) (.cons (tr_mu rfl) (.cons (tr_mu rfl) (.cons (tr_mu rfl) (.cons tr_v (.cons tr_f (.cons tr_f .nil)))))))) (.cons tr_v .nil)))
    refine v_nil ?_
    refine q_n ?_
    refine w_seq ?_
    refine w_t rfl ?_
    refine w_skip ?_
    refine q_n ?_
    refine w_seq ?_
    refine w_block ?_
    refine w_seq ?_
    refine w_reg rfl ?_
    refine v_move rfl ?_
    refine v_assign rfl ?_
    refine v_nil ?_
    refine q_n ?_
    refine w_seq ?_
    refine w_draw1 [0, 1, 0, 4, 15, 0, 32, 0, 255, 127, 1023, 2047, 4095] [⟨0, 0, []⟩, ⟨1, 0, []⟩, ⟨2, 0, []⟩, ⟨3, 2, []⟩, ⟨5, 0, []⟩, ⟨6, 0, []⟩, ⟨7, 2, []⟩, ⟨4, 1, [6]⟩, ⟨9, 0, []⟩, ⟨8, 1, []⟩, ⟨10, 1, []⟩, ⟨11, 0, []⟩, ⟨12, 1, []⟩] rfl rfl ?_
    refine d_q rfl rfl rfl rfl rfl ?_
    refine v_fa_pt (off' := 0) lay28 rfl rfl rfl ?_
    refine v_nil ?_
    refine d_q rfl rfl rfl rfl rfl ?_
    refine v_load_pt (.c _) lay23 rfl rfl rfl rfl ?_
    refine v_nil ?_
    refine d_q rfl rfl rfl rfl rfl ?_
    refine v_load_pt (.agg [_, _, _, _, _, _, _, _, _, _, _, _, _, _, _, _, _, _, _]) lay41 rfl rfl rfl rfl ?_
    refine v_nil ?_
    refine d_z (.c (.sl true 1 19 (flat rdc [lr x]))) rfl rfl rfl ?_
    refine d_q rfl rfl rfl rfl rfl ?_
    refine v_fa_pt (off' := 1) lay28 rfl rfl rfl ?_
    refine v_nil ?_
    refine d_q rfl rfl rfl rfl rfl ?_
    refine v_load_pt (.c _) lay24 rfl rfl rfl rfl ?_
    refine v_nil ?_
    refine d_z (.c (.sl true 1 1 (flat fe [some 0]))) rfl rfl rfl ?_
    refine d_e rfl rfl rfl ?_
    refine v_app_flat_sl (H' := [_, _, _, _, _, _, _, _]) rdc_sc rdc_len lay23 lay41 rfl rfl (by first | rfl | (simp; done)) rfl rfl rfl (⟨Nat.le_of_ble_eq_true rfl, Nat.le_of_ble_eq_true rfl⟩) rfl rfl ?_
    refine v_nil ⟨⟨ag_load_pt (.c _) lay24 rfl rfl rfl rfl, ⟨trivial, ⟨trivial, trivial⟩⟩⟩, ?_⟩
    refine d_q rfl rfl rfl rfl rfl ?_
    refine v_fa_pt (off' := 0) lay28 rfl rfl rfl ?_
    refine v_nil ?_
    refine d_e rfl rfl rfl ?_
    refine v_app_flat_sl (H' := [_, _, _, _, _, _, _, _, _]) fe_sc fe_len lay24 lay22 rfl rfl (by first | rfl | (simp; done)) rfl rfl rfl (⟨Nat.le_of_ble_eq_true rfl, Nat.le_of_ble_eq_true rfl⟩) rfl rfl ?_
    refine v_nil ⟨again_nil, ?_⟩
    refine d_e rfl rfl rfl ?_
    refine v_store (H' := [_, _, ⟨[_, _, _, _, _, _, _], 28, true⟩, _, _, _, _, _, _]) lay23 rfl rfl rfl rfl rfl rfl ?_
    refine v_nil ⟨again_nil, ?_⟩
    refine d_q rfl rfl rfl rfl rfl ?_
    refine v_fa_pt (off' := 1) lay28 rfl rfl rfl ?_
    refine v_nil ?_
    refine d_e rfl rfl rfl ?_
    refine v_store (H' := [_, _, ⟨[_, _, _, _, _, _, _], 28, true⟩, _, _, _, _, _, _]) lay24 rfl rfl rfl rfl rfl rfl ?_
    refine v_nil ⟨again_nil, ?_⟩
    refine d_nil ?_
    refine q_n ?_
    refine w_seq ?_
    refine w_reg rfl ?_
    refine v_move rfl ?_
    refine v_gtr lay2 rfl rfl (fun h6 => ?_) (fun h6 => ?_)
    rotate_left
    · exact absurd (by decide) h6
    refine v_nil ?_
    refine q_n ?_
    refine w_t rfl ?_
    refine w_draw2 [0, 1, 0, 0, 8, 24, 0, 64, 252, 508, 1023, 2047, 4095] [⟨0, 0, []⟩, ⟨1, 0, []⟩, ⟨2, 0, []⟩, ⟨3, 0, []⟩, ⟨4, 0, []⟩, ⟨6, 0, []⟩] [⟨7, 1, [1, 2]⟩, ⟨8, 0, []⟩, ⟨9, 1, [1]⟩, ⟨10, 1, []⟩, ⟨11, 0, []⟩, ⟨12, 1, []⟩] [⟨5, 1, [1, 2]⟩, ⟨8, 0, []⟩, ⟨9, 1, [1]⟩, ⟨10, 1, []⟩, ⟨11, 0, []⟩, ⟨12, 1, []⟩] ⟨5, 1, [1, 2]⟩ ⟨7, 1, [1, 2]⟩ rfl rfl rfl rfl rfl rfl ?_
    refine d2_q rfl rfl rfl rfl rfl ?_
    refine v_fa_pt (off' := 2) lay28 rfl rfl rfl ?_
    refine v_nil ?_
    refine d2_q rfl rfl rfl rfl rfl ?_
    refine v_load_pt (.c _) lay25 rfl rfl rfl rfl ?_
    refine v_nil ?_
    refine d2_call (cEvI) rfl rfl rfl rfl rfl (.cons vw_v (.cons vw_v .nil)) ?_
    refine d2_q rfl rfl rfl rfl rfl ?_
    refine v_move rfl ?_
    refine v_nil ?_
    refine d2_q rfl rfl rfl rfl rfl ?_
    refine v_sub lay2 rfl rfl (i64r (by omega)) ?_
    refine v_nil ?_
    refine d2_q rfl rfl rfl rfl rfl ?_
    refine v_move rfl ?_
    refine v_nil ?_
    refine d2_nil ?_ ?_
    · refine d_e rfl rfl rfl ?_
      refine v_lit (flat int [_]) (H' := [_, _, _, _, _, _, _, _, _, _]) lay51 lay2 rfl rfl ⟨by decide, by decide⟩ rfl rfl ?_
      refine v_nil ⟨⟨ag_if rfl (ag_call (cEvI) rfl rfl rfl (.cons vw_v (.cons vw_v .nil))), ⟨ag_load_pt (.c _) lay25 rfl rfl rfl rfl, trivial⟩⟩, ?_⟩
      refine d_e rfl rfl rfl ?_
      refine v_lit (flat int [_]) (H' := [_, _, _, _, _, _, _, _, _, _, _]) lay51 lay2 rfl rfl ⟨by decide, by decide⟩ rfl rfl ?_
      refine v_nil ⟨⟨ag_if rfl (ag_call (cEvI) rfl rfl rfl (.cons vw_v (.cons vw_v .nil))), ⟨ag_load_pt (.c _) lay25 rfl rfl rfl rfl, trivial⟩⟩, ?_⟩
      refine d_q rfl rfl rfl rfl rfl ?_
      refine v_build [(0, 22), (22, 1), (23, 1), (24, 1)] [.v _, .v _, .f _ _, .f _ _, .f _ _, .f _ _, .f _ _, .f _ _, .f _ _, .f _ _, .f _ _, .f _ _, .f _ _, .f _ _, .f _ _, .f _ _, .f _ _, .f _ _, .f _ _, .f _ _, .f _ _, .f _ _, _, _, .v _] lay53 rfl rfl ?_
      refine v_nil ?_
      refine d_e rfl rfl rfl ?_
      refine v_lit ([.v _, .v _, .f _ _, .f _ _, .f _ _, .f _ _, .f _ _, .f _ _, .f _ _, .f _ _, .f _ _, .f _ _, .f _ _, .f _ _, .f _ _, .f _ _, .f _ _, .f _ _, .f _ _, .f _ _, .f _ _, .f _ _, .mu 9 0 _ 1, .mu 10 0 _ 1, .v _]) (H' := [_, _, _, _, _, _, _, _, _, _, _, _]) lay25 lay53 rfl rfl ⟨by decide, by decide⟩ rfl rfl ?_
      refine v_nil ⟨⟨trivial, ⟨ag_load_pt (.c _) lay25 rfl rfl rfl rfl, trivial⟩⟩, ?_⟩
      refine d_e rfl rfl rfl ?_
      refine v_app_any (H' := [_, _, _, _, _, _, _, _, _, _, _, _, _]) lay25 lay53 rfl rfl rfl rfl rfl rfl (by decide) rfl ⟨Nat.le_of_ble_eq_true rfl, Nat.le_of_ble_eq_true rfl⟩ rfl rfl ?_
      refine v_nil ⟨again_nil, ?_⟩
      refine d_q rfl rfl rfl rfl rfl ?_
      refine v_fa_pt (off' := 2) lay28 rfl rfl rfl ?_
      refine v_nil ?_
      refine d_e rfl rfl rfl ?_
      refine v_store (H' := [_, _, ⟨[_, _, _, _, _, _, _], 28, true⟩, _, _, _, _, _, _, _, _, _, _]) lay25 rfl rfl rfl rfl rfl rfl ?_
      refine v_nil ⟨again_nil, ?_⟩
      refine d_nil ?_
      refine q_bn ?_
      refine q_n ?_
      refine w_reg rfl ?_
      refine v_add lay2 rfl rfl (i64r (by omega)) ?_
      refine v_move rfl ?_
      refine v_nil ?_
      refine q_n ?_
      refine ⟨_, _, _, ?_, ⟨2, rfl, by omega, rfl, rfl⟩, by omega⟩
      exact turn [some 0, some 1, some 2, some 7, some 8, some 5, some 12, some 9, some 10] rfl rfl rfl (show TurnO _ _ _ [⟨[.v (.slice none 0 0), .v (.slice none 0 0), .v (.slice none 0 0), .v (.slice none 0 0), .v (.int .i64 0), .f .f32 (some 0), .f .f32 (some 0)], 28, true⟩, ⟨rdc (lr x), 41, true⟩, ⟨[.mu 3 0 2 19, .mu 4 0 2 1, .mu 6 0 1 25, .mu 5 0 0 3, .v (.int .i64 0), .f .f32 (some 0), .f .f32 (some 0)], 28, true⟩, ⟨flat rdc (List.replicate 2 (lr x)), 41, true⟩, ⟨flat fe (List.replicate 2 (some 0)), 22, true⟩, ⟨[], 74, true⟩, ⟨refsN JN 7 (jl 1), 53, true⟩, ⟨flat int [0], 2, true⟩, ⟨flat int [1], 2, true⟩] from ⟨⟨_, rfl, (show TrC _ _ [.v (.slice none 0 0), .v (.slice none 0 0), .v (.slice none 0 0), .v (.slice none 0 0), .v (.int .i64 0), .f .f32 (some 0), .f .f32 (some 0)] [.v (.slice none 0 0), .v (.slice none 0 0), .v (.slice none 0 0), .v (.slice none 0 0), .v (.int .i64 0), .f .f32 (some 0), .f .f32 (some 0)] from .cons tr_v (.cons tr_v (.cons tr_v (.cons tr_v (.cons tr_v (.cons tr_f (.cons tr_f .nil)))))))⟩, ⟨_, rfl, (show TrC _ _ (rdc (lr x)) (rdc (lr x)) from .stay (fun c hc => stays_fz (fz_sc (List.all_eq_true.1 (rdc_sc _) c hc))))⟩, ⟨_, rfl, .cons (tr_mu rfl) (.cons (tr_mu rfl) (.cons (tr_mu rfl) (.cons (tr_mu rfl) (.cons tr_v (.cons tr_f (.cons tr_f .nil))))))⟩, ⟨_, rfl, trc_flat rdc_sc rfl⟩, ⟨_, rfl, trc_flat fe_sc rfl⟩, ⟨_, rfl, .nil⟩, ⟨_, rfl, (show TrC _ _ (refsN JN 7 (jl 0) ++ _) (refsN JN 7 (jl 0) ++ JN.cells 7 (je 0)) from trc_appL (trc_refsN JN_ok (by decide)) (.cons tr_v (.cons tr_v (.cons tr_f (.cons tr_f (.cons tr_f (.cons tr_f (.cons tr_f (.cons tr_f (.cons tr_f (.cons tr_f (.cons tr_f (.cons tr_f (.cons tr_f (.cons tr_f (.cons tr_f (.cons tr_f (.cons tr_f (.cons tr_f (.cons tr_f (.cons tr_f (.cons tr_f (.cons tr_f (.cons (tr_mu rfl) (.cons (tr_mu rfl) (.cons tr_v .nil))))))))))))))))))))))))))⟩, ⟨_, rfl, trc_flat int_sc rfl⟩, ⟨_, rfl, trc_flat int_sc rfl⟩, trivial⟩) ⟨tr_pt rfl, tr_pt rfl, tr_pt rfl, tr_v, tr_v, trivial⟩
    refine d_e rfl rfl rfl ?_
    refine v_lit (flat int [_]) (H' := [_, _, _, _, _, _, _, _, _, _]) lay51 lay2 rfl rfl ⟨by decide, by decide⟩ rfl rfl ?_
    refine v_nil ⟨⟨ag_if rfl (ag_call (cEvI) rfl rfl rfl (.cons vw_v (.cons vw_v .nil))), ⟨ag_load_pt (.c _) lay25 rfl rfl rfl rfl, trivial⟩⟩, ?_⟩
    refine d_e rfl rfl rfl ?_
    refine v_lit (flat int [_]) (H' := [_, _, _, _, _, _, _, _, _, _, _]) lay51 lay2 rfl rfl ⟨by decide, by decide⟩ rfl rfl ?_
    refine v_nil ⟨⟨ag_if rfl (ag_call (cEvI) rfl rfl rfl (.cons vw_v (.cons vw_v .nil))), ⟨ag_load_pt (.c _) lay25 rfl rfl rfl rfl, trivial⟩⟩, ?_⟩
    refine d_q rfl rfl rfl rfl rfl ?_
    refine v_build [(0, 22), (22, 1), (23, 1), (24, 1)] [.v _, .v _, .f _ _, .f _ _, .f _ _, .f _ _, .f _ _, .f _ _, .f _ _, .f _ _, .f _ _, .f _ _, .f _ _, .f _ _, .f _ _, .f _ _, .f _ _, .f _ _, .f _ _, .f _ _, .f _ _, .f _ _, _, _, .v _] lay53 rfl rfl ?_
    refine v_nil ?_
    refine d_e rfl rfl rfl ?_
    refine v_lit ([.v _, .v _, .f _ _, .f _ _, .f _ _, .f _ _, .f _ _, .f _ _, .f _ _, .f _ _, .f _ _, .f _ _, .f _ _, .f _ _, .f _ _, .f _ _, .f _ _, .f _ _, .f _ _, .f _ _, .f _ _, .f _ _, .mu 10 0 _ 1, .mu 9 0 _ 1, .v _]) (H' := [_, _, _, _, _, _, _, _, _, _, _, _]) lay25 lay53 rfl rfl ⟨by decide, by decide⟩ rfl rfl ?_
    refine v_nil ⟨⟨trivial, ⟨ag_load_pt (.c _) lay25 rfl rfl rfl rfl, trivial⟩⟩, ?_⟩
    refine d_e rfl rfl rfl ?_
    refine v_app_any (H' := [_, _, _, _, _, _, _, _, _, _, _, _, _]) lay25 lay53 rfl rfl rfl rfl rfl rfl (by decide) rfl ⟨Nat.le_of_ble_eq_true rfl, Nat.le_of_ble_eq_true rfl⟩ rfl rfl ?_
    refine v_nil ⟨again_nil, ?_⟩
    refine d_q rfl rfl rfl rfl rfl ?_
    refine v_fa_pt (off' := 2) lay28 rfl rfl rfl ?_
    refine v_nil ?_
    refine d_e rfl rfl rfl ?_
    refine v_store (H' := [_, _, ⟨[_, _, _, _, _, _, _], 28, true⟩, _, _, _, _, _, _, _, _, _, _]) lay25 rfl rfl rfl rfl rfl rfl ?_
    refine v_nil ⟨again_nil, ?_⟩
    refine d_nil ?_
    refine q_bn ?_
    refine q_n ?_
    refine w_reg rfl ?_
    refine v_add lay2 rfl rfl (i64r (by omega)) ?_
    refine v_move rfl ?_
    refine v_nil ?_
    refine q_n ?_
    refine ⟨_, _, _, ?_, ⟨2, rfl, by omega, rfl, rfl⟩, by omega⟩
    exact turn [some 0, some 1, some 2, some 7, some 8, some 5, some 12, some 10, some 9] rfl rfl rfl (show TurnO _ _ _ [⟨[.v (.slice none 0 0), .v (.slice none 0 0), .v (.slice none 0 0), .v (.slice none 0 0), .v (.int .i64 0), .f .f32 (some 0), .f .f32 (some 0)], 28, true⟩, ⟨rdc (lr x), 41, true⟩, ⟨[.mu 3 0 2 19, .mu 4 0 2 1, .mu 6 0 1 25, .mu 5 0 0 3, .v (.int .i64 0), .f .f32 (some 0), .f .f32 (some 0)], 28, true⟩, ⟨flat rdc (List.replicate 2 (lr x)), 41, true⟩, ⟨flat fe (List.replicate 2 (some 0)), 22, true⟩, ⟨[], 74, true⟩, ⟨refsN JN 7 (jl 1), 53, true⟩, ⟨flat int [0], 2, true⟩, ⟨flat int [1], 2, true⟩] from ⟨⟨_, rfl, (show TrC _ _ [.v (.slice none 0 0), .v (.slice none 0 0), .v (.slice none 0 0), .v (.slice none 0 0), .v (.int .i64 0), .f .f32 (some 0), .f .f32 (some 0)] [.v (.slice none 0 0), .v (.slice none 0 0), .v (.slice none 0 0), .v (.slice none 0 0), .v (.int .i64 0), .f .f32 (some 0), .f .f32 (some 0)] from .cons tr_v (.cons tr_v (.cons tr_v (.cons tr_v (.cons tr_v (.cons tr_f (.cons tr_f .nil)))))))⟩, ⟨_, rfl, (show TrC _ _ (rdc (lr x)) (rdc (lr x)) from .stay (fun c hc => stays_fz (fz_sc (List.all_eq_true.1 (rdc_sc _) c hc))))⟩, ⟨_, rfl, .cons (tr_mu rfl) (.cons (tr_mu rfl) (.cons (tr_mu rfl) (.cons (tr_mu rfl) (.cons tr_v (.cons tr_f (.cons tr_f .nil))))))⟩, ⟨_, rfl, trc_flat rdc_sc rfl⟩, ⟨_, rfl, trc_flat fe_sc rfl⟩, ⟨_, rfl, .nil⟩, ⟨_, rfl, (show TrC _ _ (refsN JN 7 (jl 0) ++ _) (refsN JN 7 (jl 0) ++ JN.cells 7 (je 0)) from trc_appL (trc_refsN JN_ok (by decide)) (.cons tr_v (.cons tr_v (.cons tr_f (.cons tr_f (.cons tr_f (.cons tr_f (.cons tr_f (.cons tr_f (.cons tr_f (.cons tr_f (.cons tr_f (.cons tr_f (.cons tr_f (.cons tr_f (.cons tr_f (.cons tr_f (.cons tr_f (.cons tr_f (.cons tr_f (.cons tr_f (.cons tr_f (.cons tr_f (.cons (tr_mu rfl) (.cons (tr_mu rfl) (.cons tr_v .nil))))))))))))))))))))))))))⟩, ⟨_, rfl, trc_flat int_sc rfl⟩, ⟨_, rfl, trc_flat int_sc rfl⟩, trivial⟩) ⟨tr_pt rfl, tr_pt rfl, tr_pt rfl, tr_v, tr_v, trivial⟩
  · skip
    obtain rfl : H = [⟨[.v (.slice none 0 0), .v (.slice none 0 0), .v (.slice none 0 0), .v (.slice none 0 0), .v (.int .i64 0), .f .f32 (some 0), .f .f32 (some 0)], 28, true⟩, ⟨rdc (lr x), 41, true⟩, ⟨[.mu 3 0 2 19, .mu 4 0 2 1, .mu 6 0 1 25, .mu 5 0 0 3, .v (.int .i64 0), .f .f32 (some 0), .f .f32 (some 0)], 28, true⟩, ⟨flat rdc (List.replicate 2 (lr x)), 41, true⟩, ⟨flat fe (List.replicate 2 (some 0)), 22, true⟩, ⟨[], 74, true⟩, ⟨refsN JN 7 (jl 1), 53, true⟩, ⟨flat int [0], 2, true⟩, ⟨flat int [1], 2, true⟩] := hH
    refine w_seq ?_
    refine w_reg rfl ?_
    refine v_lss lay2 rfl rfl (fun h7 => ?_) (fun h7 => ?_)
    rotate_left
    · have hne : n = 2 := by omega
      subst hne
      refine v_nil ?_
      refine q_n ?_
      refine w_seq ?_
      refine w_f rfl ?_
      refine w_exit ?_
      refine q_e ?_
      refine q_e ?_
      refine q_hit ?_
      refine q_n ?_
      refine w_seq ?_
      refine w_reg rfl ?_
      refine v_load_pt (.agg [_, _, _, _, _, _, _]) lay28 rfl rfl rfl rfl ?_
      refine v_store (H' := [⟨[_, _, _, _, _, _, _], 28, true⟩, _, _, _, _, _, _, _, _]) lay28 rfl rfl rfl rfl rfl rfl ?_
      refine v_assign (c := .v (.int .i64 0)) rfl ?_
      refine v_nil ?_
      refine q_n ?_
      refine w_ret ?_
      refine r_r rfl ?_
      exact l_ans [some 3, some 4, some 5, some 6, some 7, some 8] rfl rfl (show TurnO _ _ _ [⟨flat rdc (List.replicate 2 (lr x)), 41, true⟩, ⟨flat fe (List.replicate 2 (some 0)), 22, true⟩, ⟨[], 74, true⟩, ⟨refsN JN 4 (jl 1), 53, true⟩, ⟨flat int [0], 2, true⟩, ⟨flat int [1], 2, true⟩] from ⟨⟨_, rfl, trc_flat rdc_sc rfl⟩, ⟨_, rfl, trc_flat fe_sc rfl⟩, ⟨_, rfl, .nil⟩, ⟨_, rfl, (show TrC _ _ (refsN JN 7 (jl 1)) (refsN JN 4 (jl 1)) from trc_refsN JN_ok (by decide))⟩, ⟨_, rfl, trc_flat int_sc rfl⟩, ⟨_, rfl, trc_flat int_sc rfl⟩, trivial⟩) (a_tup (.cons (tr_agg (.cons (tr_mu rfl) (.cons (tr_mu rfl) (.cons (tr_mu rfl) (.cons (tr_mu rfl) (.cons tr_v (.cons tr_f (.cons tr_f .nil)))))))) (.cons tr_v .nil)))
    refine v_nil ?_
    refine q_n ?_
    refine w_seq ?_
    refine w_t rfl ?_
    refine w_skip ?_
    refine q_n ?_
    refine w_seq ?_
    refine w_block ?_
    refine w_seq ?_
    refine w_reg rfl ?_
    refine v_move rfl ?_
    refine v_assign rfl ?_
    refine v_nil ?_
    refine q_n ?_
    refine w_seq ?_
    refine w_draw1 [0, 1, 0, 4, 15, 0, 32, 0, 255, 127, 1023, 2047, 4095] [⟨0, 0, []⟩, ⟨1, 0, []⟩, ⟨2, 0, []⟩, ⟨3, 2, []⟩, ⟨5, 0, []⟩, ⟨6, 0, []⟩, ⟨7, 2, []⟩, ⟨4, 1, [6]⟩, ⟨9, 0, []⟩, ⟨8, 1, []⟩, ⟨10, 1, []⟩, ⟨11, 0, []⟩, ⟨12, 1, []⟩] rfl rfl ?_
    refine d_q rfl rfl rfl rfl rfl ?_
    refine v_fa_pt (off' := 0) lay28 rfl rfl rfl ?_
    refine v_nil ?_
    refine d_q rfl rfl rfl rfl rfl ?_
    refine v_load_pt (.c _) lay23 rfl rfl rfl rfl ?_
    refine v_nil ?_
    refine d_q rfl rfl rfl rfl rfl ?_
    refine v_load_pt (.agg [_, _, _, _, _, _, _, _, _, _, _, _, _, _, _, _, _, _, _]) lay41 rfl rfl rfl rfl ?_
    refine v_nil ?_
    refine d_z (.c (.sl true 1 19 (flat rdc [lr x]))) rfl rfl rfl ?_
    refine d_q rfl rfl rfl rfl rfl ?_
    refine v_fa_pt (off' := 1) lay28 rfl rfl rfl ?_
    refine v_nil ?_
    refine d_q rfl rfl rfl rfl rfl ?_
    refine v_load_pt (.c _) lay24 rfl rfl rfl rfl ?_
    refine v_nil ?_
    refine d_z (.c (.sl true 1 1 (flat fe [some 0]))) rfl rfl rfl ?_
    refine d_e rfl rfl rfl ?_
    refine v_app_flat_sl (H' := [_, _, _, _, _, _, _, _, _, _]) rdc_sc rdc_len lay23 lay41 rfl rfl (by first | rfl | (simp; done)) rfl rfl rfl (⟨Nat.le_of_ble_eq_true rfl, Nat.le_of_ble_eq_true rfl⟩) rfl rfl ?_
    refine v_nil ⟨⟨ag_load_pt (.c _) lay24 rfl rfl rfl rfl, ⟨trivial, ⟨trivial, trivial⟩⟩⟩, ?_⟩
    refine d_q rfl rfl rfl rfl rfl ?_
    refine v_fa_pt (off' := 0) lay28 rfl rfl rfl ?_
    refine v_nil ?_
    refine d_e rfl rfl rfl ?_
    refine v_app_flat_sl (H' := [_, _, _, _, _, _, _, _, _, _, _]) fe_sc fe_len lay24 lay22 rfl rfl (by first | rfl | (simp; done)) rfl rfl rfl (⟨Nat.le_of_ble_eq_true rfl, Nat.le_of_ble_eq_true rfl⟩) rfl rfl ?_
    refine v_nil ⟨again_nil, ?_⟩
    refine d_e rfl rfl rfl ?_
    refine v_store (H' := [_, _, ⟨[_, _, _, _, _, _, _], 28, true⟩, _, _, _, _, _, _, _, _]) lay23 rfl rfl rfl rfl rfl rfl ?_
    refine v_nil ⟨again_nil, ?_⟩
    refine d_q rfl rfl rfl rfl rfl ?_
    refine v_fa_pt (off' := 1) lay28 rfl rfl rfl ?_
    refine v_nil ?_
    refine d_e rfl rfl rfl ?_
    refine v_store (H' := [_, _, ⟨[_, _, _, _, _, _, _], 28, true⟩, _, _, _, _, _, _, _, _]) lay24 rfl rfl rfl rfl rfl rfl ?_
    refine v_nil ⟨again_nil, ?_⟩
    refine d_nil ?_
    refine q_n ?_
    refine w_seq ?_
    refine w_reg rfl ?_
    refine v_move rfl ?_
    refine v_gtr lay2 rfl rfl (fun h8 => ?_) (fun h8 => ?_)
    rotate_left
    · exact absurd (by decide) h8
    refine v_nil ?_
    refine q_n ?_
    refine w_t rfl ?_
    refine w_draw2 [0, 1, 0, 0, 8, 24, 0, 64, 252, 508, 1023, 2047, 4095] [⟨0, 0, []⟩, ⟨1, 0, []⟩, ⟨2, 0, []⟩, ⟨3, 0, []⟩, ⟨4, 0, []⟩, ⟨6, 0, []⟩] [⟨7, 1, [1, 2]⟩, ⟨8, 0, []⟩, ⟨9, 1, [1]⟩, ⟨10, 1, []⟩, ⟨11, 0, []⟩, ⟨12, 1, []⟩] [⟨5, 1, [1, 2]⟩, ⟨8, 0, []⟩, ⟨9, 1, [1]⟩, ⟨10, 1, []⟩, ⟨11, 0, []⟩, ⟨12, 1, []⟩] ⟨5, 1, [1, 2]⟩ ⟨7, 1, [1, 2]⟩ rfl rfl rfl rfl rfl rfl ?_
    refine d2_q rfl rfl rfl rfl rfl ?_
    refine v_fa_pt (off' := 2) lay28 rfl rfl rfl ?_
    refine v_nil ?_
    refine d2_q rfl rfl rfl rfl rfl ?_
    refine v_load_pt (.c _) lay25 rfl rfl rfl rfl ?_
    refine v_nil ?_
    refine d2_call (cEvI) rfl rfl rfl rfl rfl (.cons vw_v (.cons vw_v .nil)) ?_
    refine d2_q rfl rfl rfl rfl rfl ?_
    refine v_move rfl ?_
    refine v_nil ?_
    refine d2_q rfl rfl rfl rfl rfl ?_
    refine v_sub lay2 rfl rfl (i64r (by omega)) ?_
    refine v_nil ?_
    refine d2_q rfl rfl rfl rfl rfl ?_
    refine v_move rfl ?_
    refine v_nil ?_
    refine d2_nil ?_ ?_
    · refine d_e rfl rfl rfl ?_
      refine v_lit (flat int [_]) (H' := [_, _, _, _, _, _, _, _, _, _, _, _]) lay51 lay2 rfl rfl ⟨by decide, by decide⟩ rfl rfl ?_
      refine v_nil ⟨⟨ag_if rfl (ag_call (cEvI) rfl rfl rfl (.cons vw_v (.cons vw_v .nil))), ⟨ag_load_pt (.c _) lay25 rfl rfl rfl rfl, trivial⟩⟩, ?_⟩
      refine d_e rfl rfl rfl ?_
      refine v_lit (flat int [_]) (H' := [_, _, _, _, _, _, _, _, _, _, _, _, _]) lay51 lay2 rfl rfl ⟨by decide, by decide⟩ rfl rfl ?_
      refine v_nil ⟨⟨ag_if rfl (ag_call (cEvI) rfl rfl rfl (.cons vw_v (.cons vw_v .nil))), ⟨ag_load_pt (.c _) lay25 rfl rfl rfl rfl, trivial⟩⟩, ?_⟩
      refine d_q rfl rfl rfl rfl rfl ?_
      refine v_build [(0, 22), (22, 1), (23, 1), (24, 1)] [.v _, .v _, .f _ _, .f _ _, .f _ _, .f _ _, .f _ _, .f _ _, .f _ _, .f _ _, .f _ _, .f _ _, .f _ _, .f _ _, .f _ _, .f _ _, .f _ _, .f _ _, .f _ _, .f _ _, .f _ _, .f _ _, _, _, .v _] lay53 rfl rfl ?_
      refine v_nil ?_
      refine d_e rfl rfl rfl ?_
      refine v_lit ([.v _, .v _, .f _ _, .f _ _, .f _ _, .f _ _, .f _ _, .f _ _, .f _ _, .f _ _, .f _ _, .f _ _, .f _ _, .f _ _, .f _ _, .f _ _, .f _ _, .f _ _, .f _ _, .f _ _, .f _ _, .f _ _, .mu 11 0 _ 1, .mu 12 0 _ 1, .v _]) (H' := [_, _, _, _, _, _, _, _, _, _, _, _, _, _]) lay25 lay53 rfl rfl ⟨by decide, by decide⟩ rfl rfl ?_
      refine v_nil ⟨⟨trivial, ⟨ag_load_pt (.c _) lay25 rfl rfl rfl rfl, trivial⟩⟩, ?_⟩
      refine d_e rfl rfl rfl ?_
      refine v_app_any (H' := [_, _, _, _, _, _, _, _, _, _, _, _, _, _, _]) lay25 lay53 rfl rfl rfl rfl rfl rfl (by decide) rfl ⟨Nat.le_of_ble_eq_true rfl, Nat.le_of_ble_eq_true rfl⟩ rfl rfl ?_
      refine v_nil ⟨again_nil, ?_⟩
      refine d_q rfl rfl rfl rfl rfl ?_
      refine v_fa_pt (off' := 2) lay28 rfl rfl rfl ?_
      refine v_nil ?_
      refine d_e rfl rfl rfl ?_
      refine v_store (H' := [_, _, ⟨[_, _, _, _, _, _, _], 28, true⟩, _, _, _, _, _, _, _, _, _, _, _, _]) lay25 rfl rfl rfl rfl rfl rfl ?_
      refine v_nil ⟨again_nil, ?_⟩
      refine d_nil ?_
      refine q_bn ?_
      refine q_n ?_
      refine w_reg rfl ?_
      refine v_add lay2 rfl rfl (i64r (by omega)) ?_
      refine v_move rfl ?_
      refine v_nil ?_
      refine q_n ?_
      refine ⟨_, _, _, ?_, ⟨3, rfl, by omega, rfl, rfl⟩, by omega⟩
      exact turn [some 0, some 1, some 2, some 9, some 10, some 5, some 14, some 7, some 8, some 11, some 12] rfl rfl rfl (show TurnO _ _ _ [⟨[.v (.slice none 0 0), .v (.slice none 0 0), .v (.slice none 0 0), .v (.slice none 0 0), .v (.int .i64 0), .f .f32 (some 0), .f .f32 (some 0)], 28, true⟩, ⟨rdc (lr x), 41, true⟩, ⟨[.mu 3 0 3 19, .mu 4 0 3 1, .mu 6 0 2 25, .mu 5 0 0 3, .v (.int .i64 0), .f .f32 (some 0), .f .f32 (some 0)], 28, true⟩, ⟨flat rdc (List.replicate 3 (lr x)), 41, true⟩, ⟨flat fe (List.replicate 3 (some 0)), 22, true⟩, ⟨[], 74, true⟩, ⟨refsN JN 7 (jl 2), 53, true⟩, ⟨flat int [0], 2, true⟩, ⟨flat int [1], 2, true⟩, ⟨flat int [1], 2, true⟩, ⟨flat int [2], 2, true⟩] from ⟨⟨_, rfl, (show TrC _ _ [.v (.slice none 0 0), .v (.slice none 0 0), .v (.slice none 0 0), .v (.slice none 0 0), .v (.int .i64 0), .f .f32 (some 0), .f .f32 (some 0)] [.v (.slice none 0 0), .v (.slice none 0 0), .v (.slice none 0 0), .v (.slice none 0 0), .v (.int .i64 0), .f .f32 (some 0), .f .f32 (some 0)] from .cons tr_v (.cons tr_v (.cons tr_v (.cons tr_v (.cons tr_v (.cons tr_f (.cons tr_f .nil)))))))⟩, ⟨_, rfl, (show TrC _ _ (rdc (lr x)) (rdc (lr x)) from .stay (fun c hc => stays_fz (fz_sc (List.all_eq_true.1 (rdc_sc _) c hc))))⟩, ⟨_, rfl, .cons (tr_mu rfl) (.cons (tr_mu rfl) (.cons (tr_mu rfl) (.cons (tr_mu rfl) (.cons tr_v (.cons tr_f (.cons tr_f .nil))))))⟩, ⟨_, rfl, trc_flat rdc_sc rfl⟩, ⟨_, rfl, trc_flat fe_sc rfl⟩, ⟨_, rfl, .nil⟩, ⟨_, rfl, (show TrC _ _ (refsN JN 7 (jl 1) ++ _) (refsN JN 7 (jl 1) ++ JN.cells 9 (je 1)) from trc_appL (trc_refsN JN_ok (by decide)) (.cons tr_v (.cons tr_v (.cons tr_f (.cons tr_f (.cons tr_f (.cons tr_f (.cons tr_f (.cons tr_f (.cons tr_f (.cons tr_f (.cons tr_f (.cons tr_f (.cons tr_f (.cons tr_f (.cons tr_f (.cons tr_f (.cons tr_f (.cons tr_f (.cons tr_f (.cons tr_f (.cons tr_f (.cons tr_f (.cons (tr_mu rfl) (.cons (tr_mu rfl) (.cons tr_v .nil))))))))))))))))))))))))))⟩, ⟨_, rfl, trc_flat int_sc rfl⟩, ⟨_, rfl, trc_flat int_sc rfl⟩, ⟨_, rfl, trc_flat int_sc rfl⟩, ⟨_, rfl, trc_flat int_sc rfl⟩, trivial⟩) ⟨tr_pt rfl, tr_pt rfl, tr_pt rfl, tr_v, tr_v, trivial⟩
    refine d_e rfl rfl rfl ?_
    refine v_lit (flat int [_]) (H' := [_, _, _, _, _, _, _, _, _, _, _, _]) lay51 lay2 rfl rfl ⟨by decide, by decide⟩ rfl rfl ?_
    refine v_nil ⟨⟨ag_if rfl (ag_call (cEvI) rfl rfl rfl (.cons vw_v (.cons vw_v .nil))), ⟨ag_load_pt (.c _) lay25 rfl rfl rfl rfl, trivial⟩⟩, ?_⟩
    refine d_e rfl rfl rfl ?_
    refine v_lit (flat int [_]) (H' := [_, _, _, _, _, _, _, _, _, _, _, _, _]) lay51 lay2 rfl rfl ⟨by decide, by decide⟩ rfl rfl ?_
    refine v_nil ⟨⟨ag_if rfl (ag_call (cEvI) rfl rfl rfl (.cons vw_v (.cons vw_v .nil))), ⟨ag_load_pt (.c _) lay25 rfl rfl rfl rfl, trivial⟩⟩, ?_⟩
    refine d_q rfl rfl rfl rfl rfl ?_
    refine v_build [(0, 22), (22, 1), (23, 1), (24, 1)] [.v _, .v _, .f _ _, .f _ _, .f _ _, .f _ _, .f _ _, .f _ _, .f _ _, .f _ _, .f _ _, .f _ _, .f _ _, .f _ _, .f _ _, .f _ _, .f _ _, .f _ _, .f _ _, .f _ _, .f _ _, .f _ _, _, _, .v _] lay53 rfl rfl ?_
    refine v_nil ?_
    refine d_e rfl rfl rfl ?_
    refine v_lit ([.v _, .v _, .f _ _, .f _ _, .f _ _, .f _ _, .f _ _, .f _ _, .f _ _, .f _ _, .f _ _, .f _ _, .f _ _, .f _ _, .f _ _, .f _ _, .f _ _, .f _ _, .f _ _, .f _ _, .f _ _, .f _ _, .mu 12 0 _ 1, .mu 11 0 _ 1, .v _]) (H' := [_, _, _, _, _, _, _, _, _, _, _, _, _, _]) lay25 lay53 rfl rfl ⟨by decide, by decide⟩ rfl rfl ?_
    refine v_nil ⟨⟨trivial, ⟨ag_load_pt (.c _) lay25 rfl rfl rfl rfl, trivial⟩⟩, ?_⟩
    refine d_e rfl rfl rfl ?_
    refine v_app_any (H' := [_, _, _, _, _, _, _, _, _, _, _, _, _, _, _]) lay25 lay53 rfl rfl rfl rfl rfl rfl (by decide) rfl ⟨Nat.le_of_ble_eq_true rfl, Nat.le_of_ble_eq_true rfl⟩ rfl rfl ?_
    refine v_nil ⟨again_nil, ?_⟩
    refine d_q rfl rfl rfl rfl rfl ?_
    refine v_fa_pt (off' := 2) lay28 rfl rfl rfl ?_
    refine v_nil ?_
    refine d_e rfl rfl rfl ?_
    refine v_store (H' := [_, _, ⟨[_, _, _, _, _, _, _], 28, true⟩, _, _, _, _, _, _, _, _, _, _, _, _]) lay25 rfl rfl rfl rfl rfl rfl ?_
    refine v_nil ⟨again_nil, ?_⟩
    refine d_nil ?_
    refine q_bn ?_
    refine q_n ?_
    refine w_reg rfl ?_
    refine v_add lay2 rfl rfl (i64r (by omega)) ?_
    refine v_move rfl ?_
    refine v_nil ?_
    refine q_n ?_
    refine ⟨_, _, _, ?_, ⟨3, rfl, by omega, rfl, rfl⟩, by omega⟩
    exact turn [some 0, some 1, some 2, some 9, some 10, some 5, some 14, some 7, some 8, some 12, some 11] rfl rfl rfl (show TurnO _ _ _ [⟨[.v (.slice none 0 0), .v (.slice none 0 0), .v (.slice none 0 0), .v (.slice none 0 0), .v (.int .i64 0), .f .f32 (some 0), .f .f32 (some 0)], 28, true⟩, ⟨rdc (lr x), 41, true⟩, ⟨[.mu 3 0 3 19, .mu 4 0 3 1, .mu 6 0 2 25, .mu 5 0 0 3, .v (.int .i64 0), .f .f32 (some 0), .f .f32 (some 0)], 28, true⟩, ⟨flat rdc (List.replicate 3 (lr x)), 41, true⟩, ⟨flat fe (List.replicate 3 (some 0)), 22, true⟩, ⟨[], 74, true⟩, ⟨refsN JN 7 (jl 2), 53, true⟩, ⟨flat int [0], 2, true⟩, ⟨flat int [1], 2, true⟩, ⟨flat int [1], 2, true⟩, ⟨flat int [2], 2, true⟩] from ⟨⟨_, rfl, (show TrC _ _ [.v (.slice none 0 0), .v (.slice none 0 0), .v (.slice none 0 0), .v (.slice none 0 0), .v (.int .i64 0), .f .f32 (some 0), .f .f32 (some 0)] [.v (.slice none 0 0), .v (.slice none 0 0), .v (.slice none 0 0), .v (.slice none 0 0), .v (.int .i64 0), .f .f32 (some 0), .f .f32 (some 0)] from .cons tr_v (.cons tr_v (.cons tr_v (.cons tr_v (.cons tr_v (.cons tr_f (.cons tr_f .nil)))))))⟩, ⟨_, rfl, (show TrC _ _ (rdc (lr x)) (rdc (lr x)) from .stay (fun c hc => stays_fz (fz_sc (List.all_eq_true.1 (rdc_sc _) c hc))))⟩, ⟨_, rfl, .cons (tr_mu rfl) (.cons (tr_mu rfl) (.cons (tr_mu rfl) (.cons (tr_mu rfl) (.cons tr_v (.cons tr_f (.cons tr_f .nil))))))⟩, ⟨_, rfl, trc_flat rdc_sc rfl⟩, ⟨_, rfl, trc_flat fe_sc rfl⟩, ⟨_, rfl, .nil⟩, ⟨_, rfl, (show TrC _ _ (refsN JN 7 (jl 1) ++ _) (refsN JN 7 (jl 1) ++ JN.cells 9 (je 1)) from trc_appL (trc_refsN JN_ok (by decide)) (.cons tr_v (.cons tr_v (.cons tr_f (.cons tr_f (.cons tr_f (.cons tr_f (.cons tr_f (.cons tr_f (.cons tr_f (.cons tr_f (.cons tr_f (.cons tr_f (.cons tr_f (.cons tr_f (.cons tr_f (.cons tr_f (.cons tr_f (.cons tr_f (.cons tr_f (.cons tr_f (.cons tr_f (.cons tr_f (.cons (tr_mu rfl) (.cons (tr_mu rfl) (.cons tr_v .nil))))))))))))))))))))))))))⟩, ⟨_, rfl, trc_flat int_sc rfl⟩, ⟨_, rfl, trc_flat int_sc rfl⟩, ⟨_, rfl, trc_flat int_sc rfl⟩, ⟨_, rfl, trc_flat int_sc rfl⟩, trivial⟩) ⟨tr_pt rfl, tr_pt rfl, tr_pt rfl, tr_v, tr_v, trivial⟩
  · skip
    obtain rfl : H = [⟨[.v (.slice none 0 0), .v (.slice none 0 0), .v (.slice none 0 0), .v (.slice none 0 0), .v (.int .i64 0), .f .f32 (some 0), .f .f32 (some 0)], 28, true⟩, ⟨rdc (lr x), 41, true⟩, ⟨[.mu 3 0 3 19, .mu 4 0 3 1, .mu 6 0 2 25, .mu 5 0 0 3, .v (.int .i64 0), .f .f32 (some 0), .f .f32 (some 0)], 28, true⟩, ⟨flat rdc (List.replicate 3 (lr x)), 41, true⟩, ⟨flat fe (List.replicate 3 (some 0)), 22, true⟩, ⟨[], 74, true⟩, ⟨refsN JN 7 (jl 2), 53, true⟩, ⟨flat int [0], 2, true⟩, ⟨flat int [1], 2, true⟩, ⟨flat int [1], 2, true⟩, ⟨flat int [2], 2, true⟩] := hH
    refine w_seq ?_
    refine w_reg rfl ?_
    refine v_lss lay2 rfl rfl (fun h9 => ?_) (fun h9 => ?_)
    rotate_left
    · have hne : n = 3 := by omega
      subst hne
      refine v_nil ?_
      refine q_n ?_
      refine w_seq ?_
      refine w_f rfl ?_
      refine w_exit ?_
      refine q_e ?_
      refine q_e ?_
      refine q_hit ?_
      refine q_n ?_
      refine w_seq ?_
      refine w_reg rfl ?_
      refine v_load_pt (.agg [_, _, _, _, _, _, _]) lay28 rfl rfl rfl rfl ?_
      refine v_store (H' := [⟨[_, _, _, _, _, _, _], 28, true⟩, _, _, _, _, _, _, _, _, _, _]) lay28 rfl rfl rfl rfl rfl rfl ?_
      refine v_assign (c := .v (.int .i64 0)) rfl ?_
      refine v_nil ?_
      refine q_n ?_
      refine w_ret ?_
      refine r_r rfl ?_
      exact l_ans [some 3, some 4, some 5, some 6, some 7, some 8, some 9, some 10] rfl rfl (show TurnO _ _ _ [⟨flat rdc (List.replicate 3 (lr x)), 41, true⟩, ⟨flat fe (List.replicate 3 (some 0)), 22, true⟩, ⟨[], 74, true⟩, ⟨refsN JN 4 (jl 2), 53, true⟩, ⟨flat int [0], 2, true⟩, ⟨flat int [1], 2, true⟩, ⟨flat int [1], 2, true⟩, ⟨flat int [2], 2, true⟩] from ⟨⟨_, rfl, trc_flat rdc_sc rfl⟩, ⟨_, rfl, trc_flat fe_sc rfl⟩, ⟨_, rfl, .nil⟩, ⟨_, rfl, (show TrC _ _ (refsN JN 7 (jl 2)) (refsN JN 4 (jl 2)) from trc_refsN JN_ok (by decide))⟩, ⟨_, rfl, trc_flat int_sc rfl⟩, ⟨_, rfl, trc_flat int_sc rfl⟩, ⟨_, rfl, trc_flat int_sc rfl⟩, ⟨_, rfl, trc_flat int_sc rfl⟩, trivial⟩) (a_tup (.cons (tr_agg (.cons (tr_mu rfl) (.cons (tr_mu rfl) (.cons (tr_mu rfl) (.cons (tr_mu rfl) (.cons tr_v (.cons tr_f (.cons tr_f .nil)))))))) (.cons tr_v .nil)))
    refine v_nil ?_
    refine q_n ?_
    refine w_seq ?_
    refine w_t rfl ?_
    refine w_skip ?_
    refine q_n ?_
    refine w_seq ?_
    refine w_block ?_
    refine w_seq ?_
    refine w_reg rfl ?_
    refine v_move rfl ?_
    refine v_assign rfl ?_
    refine v_nil ?_
    refine q_n ?_
    refine w_seq ?_
    refine w_draw1 [0, 1, 0, 4, 15, 0, 32, 0, 255, 127, 1023, 2047, 4095] [⟨0, 0, []⟩, ⟨1, 0, []⟩, ⟨2, 0, []⟩, ⟨3, 2, []⟩, ⟨5, 0, []⟩, ⟨6, 0, []⟩, ⟨7, 2, []⟩, ⟨4, 1, [6]⟩, ⟨9, 0, []⟩, ⟨8, 1, []⟩, ⟨10, 1, []⟩, ⟨11, 0, []⟩, ⟨12, 1, []⟩] rfl rfl ?_
    refine d_q rfl rfl rfl rfl rfl ?_
    refine v_fa_pt (off' := 0) lay28 rfl rfl rfl ?_
    refine v_nil ?_
    refine d_q rfl rfl rfl rfl rfl ?_
    refine v_load_pt (.c _) lay23 rfl rfl rfl rfl ?_
    refine v_nil ?_
    refine d_q rfl rfl rfl rfl rfl ?_
    refine v_load_pt (.agg [_, _, _, _, _, _, _, _, _, _, _, _, _, _, _, _, _, _, _]) lay41 rfl rfl rfl rfl ?_
    refine v_nil ?_
    refine d_z (.c (.sl true 1 19 (flat rdc [lr x]))) rfl rfl rfl ?_
    refine d_q rfl rfl rfl rfl rfl ?_
    refine v_fa_pt (off' := 1) lay28 rfl rfl rfl ?_
    refine v_nil ?_
    refine d_q rfl rfl rfl rfl rfl ?_
    refine v_load_pt (.c _) lay24 rfl rfl rfl rfl ?_
    refine v_nil ?_
    refine d_z (.c (.sl true 1 1 (flat fe [some 0]))) rfl rfl rfl ?_
    refine d_e rfl rfl rfl ?_
    refine v_app_flat_sl (H' := [_, _, _, _, _, _, _, _, _, _, _, _]) rdc_sc rdc_len lay23 lay41 rfl rfl (by first | rfl | (simp; done)) rfl rfl rfl (⟨Nat.le_of_ble_eq_true rfl, Nat.le_of_ble_eq_true rfl⟩) rfl rfl ?_
    refine v_nil ⟨⟨ag_load_pt (.c _) lay24 rfl rfl rfl rfl, ⟨trivial, ⟨trivial, trivial⟩⟩⟩, ?_⟩
    refine d_q rfl rfl rfl rfl rfl ?_
    refine v_fa_pt (off' := 0) lay28 rfl rfl rfl ?_
    refine v_nil ?_
    refine d_e rfl rfl rfl ?_
    refine v_app_flat_sl (H' := [_, _, _, _, _, _, _, _, _, _, _, _, _]) fe_sc fe_len lay24 lay22 rfl rfl (by first | rfl | (simp; done)) rfl rfl rfl (⟨Nat.le_of_ble_eq_true rfl, Nat.le_of_ble_eq_true rfl⟩) rfl rfl ?_
    refine v_nil ⟨again_nil, ?_⟩
    refine d_e rfl rfl rfl ?_
    refine v_store (H' := [_, _, ⟨[_, _, _, _, _, _, _], 28, true⟩, _, _, _, _, _, _, _, _, _, _]) lay23 rfl rfl rfl rfl rfl rfl ?_
    refine v_nil ⟨again_nil, ?_⟩
    refine d_q rfl rfl rfl rfl rfl ?_
    refine v_fa_pt (off' := 1) lay28 rfl rfl rfl ?_
    refine v_nil ?_
    refine d_e rfl rfl rfl ?_
    refine v_store (H' := [_, _, ⟨[_, _, _, _, _, _, _], 28, true⟩, _, _, _, _, _, _, _, _, _, _]) lay24 rfl rfl rfl rfl rfl rfl ?_
    refine v_nil ⟨again_nil, ?_⟩
    refine d_nil ?_
    refine q_n ?_
    refine w_seq ?_
    refine w_reg rfl ?_
    refine v_move rfl ?_
    refine v_gtr lay2 rfl rfl (fun h10 => ?_) (fun h10 => ?_)
    rotate_left
    · exact absurd (by decide) h10
    refine v_nil ?_
    refine q_n ?_
    refine w_t rfl ?_
    refine w_draw2 [0, 1, 0, 0, 8, 24, 0, 64, 252, 508, 1023, 2047, 4095] [⟨0, 0, []⟩, ⟨1, 0, []⟩, ⟨2, 0, []⟩, ⟨3, 0, []⟩, ⟨4, 0, []⟩, ⟨6, 0, []⟩] [⟨7, 1, [1, 2]⟩, ⟨8, 0, []⟩, ⟨9, 1, [1]⟩, ⟨10, 1, []⟩, ⟨11, 0, []⟩, ⟨12, 1, []⟩] [⟨5, 1, [1, 2]⟩, ⟨8, 0, []⟩, ⟨9, 1, [1]⟩, ⟨10, 1, []⟩, ⟨11, 0, []⟩, ⟨12, 1, []⟩] ⟨5, 1, [1, 2]⟩ ⟨7, 1, [1, 2]⟩ rfl rfl rfl rfl rfl rfl ?_
    refine d2_q rfl rfl rfl rfl rfl ?_
    refine v_fa_pt (off' := 2) lay28 rfl rfl rfl ?_
    refine v_nil ?_
    refine d2_q rfl rfl rfl rfl rfl ?_
    refine v_load_pt (.c _) lay25 rfl rfl rfl rfl ?_
    refine v_nil ?_
    refine d2_call (cEvI) rfl rfl rfl rfl rfl (.cons vw_v (.cons vw_v .nil)) ?_
    refine d2_q rfl rfl rfl rfl rfl ?_
    refine v_move rfl ?_
    refine v_nil ?_
    refine d2_q rfl rfl rfl rfl rfl ?_
    refine v_sub lay2 rfl rfl (i64r (by omega)) ?_
    refine v_nil ?_
    refine d2_q rfl rfl rfl rfl rfl ?_
    refine v_move rfl ?_
    refine v_nil ?_
    refine d2_nil ?_ ?_
    · refine d_e rfl rfl rfl ?_
      refine v_lit (flat int [_]) (H' := [_, _, _, _, _, _, _, _, _, _, _, _, _, _]) lay51 lay2 rfl rfl ⟨by decide, by decide⟩ rfl rfl ?_
      refine v_nil ⟨⟨ag_if rfl (ag_call (cEvI) rfl rfl rfl (.cons vw_v (.cons vw_v .nil))), ⟨ag_load_pt (.c _) lay25 rfl rfl rfl rfl, trivial⟩⟩, ?_⟩
      refine d_e rfl rfl rfl ?_
      refine v_lit (flat int [_]) (H' := [_, _, _, _, _, _, _, _, _, _, _, _, _, _, _]) lay51 lay2 rfl rfl ⟨by decide, by decide⟩ rfl rfl ?_
      refine v_nil ⟨⟨ag_if rfl (ag_call (cEvI) rfl rfl rfl (.cons vw_v (.cons vw_v .nil))), ⟨ag_load_pt (.c _) lay25 rfl rfl rfl rfl, trivial⟩⟩, ?_⟩
      refine d_q rfl rfl rfl rfl rfl ?_
      refine v_build [(0, 22), (22, 1), (23, 1), (24, 1)] [.v _, .v _, .f _ _, .f _ _, .f _ _, .f _ _, .f _ _, .f _ _, .f _ _, .f _ _, .f _ _, .f _ _, .f _ _, .f _ _, .f _ _, .f _ _, .f _ _, .f _ _, .f _ _, .f _ _, .f _ _, .f _ _, _, _, .v _] lay53 rfl rfl ?_
      refine v_nil ?_
      refine d_e rfl rfl rfl ?_
      refine v_lit ([.v _, .v _, .f _ _, .f _ _, .f _ _, .f _ _, .f _ _, .f _ _, .f _ _, .f _ _, .f _ _, .f _ _, .f _ _, .f _ _, .f _ _, .f _ _, .f _ _, .f _ _, .f _ _, .f _ _, .f _ _, .f _ _, .mu 13 0 _ 1, .mu 14 0 _ 1, .v _]) (H' := [_, _, _, _, _, _, _, _, _, _, _, _, _, _, _, _]) lay25 lay53 rfl rfl ⟨by decide, by decide⟩ rfl rfl ?_
      refine v_nil ⟨⟨trivial, ⟨ag_load_pt (.c _) lay25 rfl rfl rfl rfl, trivial⟩⟩, ?_⟩
      refine d_e rfl rfl rfl ?_
      refine v_app_any (H' := [_, _, _, _, _, _, _, _, _, _, _, _, _, _, _, _, _]) lay25 lay53 rfl rfl rfl rfl rfl rfl (by decide) rfl ⟨Nat.le_of_ble_eq_true rfl, Nat.le_of_ble_eq_true rfl⟩ rfl rfl ?_
      refine v_nil ⟨again_nil, ?_⟩
      refine d_q rfl rfl rfl rfl rfl ?_
      refine v_fa_pt (off' := 2) lay28 rfl rfl rfl ?_
      refine v_nil ?_
      refine d_e rfl rfl rfl ?_
      refine v_store (H' := [_, _, ⟨[_, _, _, _, _, _, _], 28, true⟩, _, _, _, _, _, _, _, _, _, _, _, _, _, _]) lay25 rfl rfl rfl rfl rfl rfl ?_
      refine v_nil ⟨again_nil, ?_⟩
      refine d_nil ?_
      refine q_bn ?_
      refine q_n ?_
      refine w_reg rfl ?_
      refine v_add lay2 rfl rfl (i64r (by omega)) ?_
      refine v_move rfl ?_
      refine v_nil ?_
      refine q_n ?_
      refine ⟨_, _, _, ?_, ⟨4, rfl, by omega, rfl, rfl⟩, by omega⟩
      exact turn [some 0, some 1, some 2, some 11, some 12, some 5, some 16, some 7, some 8, some 9, some 10, some 13, some 14] rfl rfl rfl (show TurnO _ _ _ [⟨[.v (.slice none 0 0), .v (.slice none 0 0), .v (.slice none 0 0), .v (.slice none 0 0), .v (.int .i64 0), .f .f32 (some 0), .f .f32 (some 0)], 28, true⟩, ⟨rdc (lr x), 41, true⟩, ⟨[.mu 3 0 4 19, .mu 4 0 4 1, .mu 6 0 3 25, .mu 5 0 0 3, .v (.int .i64 0), .f .f32 (some 0), .f .f32 (some 0)], 28, true⟩, ⟨flat rdc (List.replicate 4 (lr x)), 41, true⟩, ⟨flat fe (List.replicate 4 (some 0)), 22, true⟩, ⟨[], 74, true⟩, ⟨refsN JN 7 (jl 3), 53, true⟩, ⟨flat int [0], 2, true⟩, ⟨flat int [1], 2, true⟩, ⟨flat int [1], 2, true⟩, ⟨flat int [2], 2, true⟩, ⟨flat int [2], 2, true⟩, ⟨flat int [3], 2, true⟩] from ⟨⟨_, rfl, (show TrC _ _ [.v (.slice none 0 0), .v (.slice none 0 0), .v (.slice none 0 0), .v (.slice none 0 0), .v (.int .i64 0), .f .f32 (some 0), .f .f32 (some 0)] [.v (.slice none 0 0), .v (.slice none 0 0), .v (.slice none 0 0), .v (.slice none 0 0), .v (.int .i64 0), .f .f32 (some 0), .f .f32 (some 0)] from .cons tr_v (.cons tr_v (.cons tr_v (.cons tr_v (.cons tr_v (.cons tr_f (.cons tr_f .nil)))))))⟩, ⟨_, rfl, (show TrC _ _ (rdc (lr x)) (rdc (lr x)) from .stay (fun c hc => stays_fz (fz_sc (List.all_eq_true.1 (rdc_sc _) c hc))))⟩, ⟨_, rfl, .cons (tr_mu rfl) (.cons (tr_mu rfl) (.cons (tr_mu rfl) (.cons (tr_mu rfl) (.cons tr_v (.cons tr_f (.cons tr_f .nil))))))⟩, ⟨_, rfl, trc_flat rdc_sc rfl⟩, ⟨_, rfl, trc_flat fe_sc rfl⟩, ⟨_, rfl, .nil⟩, ⟨_, rfl, (show TrC _ _ (refsN JN 7 (jl 2) ++ _) (refsN JN 7 (jl 2) ++ JN.cells 11 (je 2)) from trc_appL (trc_refsN JN_ok (by decide)) (.cons tr_v (.cons tr_v (.cons tr_f (.cons tr_f (.cons tr_f (.cons tr_f (.cons tr_f (.cons tr_f (.cons tr_f (.cons tr_f (.cons tr_f (.cons tr_f (.cons tr_f (.cons tr_f (.cons tr_f (.cons tr_f (.cons tr_f (.cons tr_f (.cons tr_f (.cons tr_f (.cons tr_f (.cons tr_f (.cons (tr_mu rfl) (.cons (tr_mu rfl) (.cons tr_v .nil))))))))))))))))))))))))))⟩, ⟨_, rfl, trc_flat int_sc rfl⟩, ⟨_, rfl, trc_flat int_sc rfl⟩, ⟨_, rfl, trc_flat int_sc rfl⟩, ⟨_, rfl, trc_flat int_sc rfl⟩, ⟨_, rfl, trc_flat int_sc rfl⟩, ⟨_, rfl, trc_flat int_sc rfl⟩, trivial⟩) ⟨tr_pt rfl, tr_pt rfl, tr_pt rfl, tr_v, tr_v, trivial⟩
    refine d_e rfl rfl rfl ?_
    refine v_lit (flat int [_]) (H' := [_, _, _, _, _, _, _, _, _, _, _, _, _, _]) lay51 lay2 rfl rfl ⟨by decide, by decide⟩ rfl rfl ?_
    refine v_nil ⟨⟨ag_if rfl (ag_call (cEvI) rfl rfl rfl (.cons vw_v (.cons vw_v .nil))), ⟨ag_load_pt (.c _) lay25 rfl rfl rfl rfl, trivial⟩⟩, ?_⟩
    refine d_e rfl rfl rfl ?_
    refine v_lit (flat int [_]) (H' := [_, _, _, _, _, _, _, _, _, _, _, _, _, _, _]) lay51 lay2 rfl rfl ⟨by decide, by decide⟩ rfl rfl ?_
    refine v_nil ⟨⟨ag_if rfl (ag_call (cEvI) rfl rfl rfl (.cons vw_v (.cons vw_v .nil))), ⟨ag_load_pt (.c _) lay25 rfl rfl rfl rfl, trivial⟩⟩, ?_⟩
    refine d_q rfl rfl rfl rfl rfl ?_
    refine v_build [(0, 22), (22, 1), (23, 1), (24, 1)] [.v _, .v _, .f _ _, .f _ _, .f _ _, .f _ _, .f _ _, .f _ _, .f _ _, .f _ _, .f _ _, .f _ _, .f _ _, .f _ _, .f _ _, .f _ _, .f _ _, .f _ _, .f _ _, .f _ _, .f _ _, .f _ _, _, _, .v _] lay53 rfl rfl ?_
    refine v_nil ?_
    refine d_e rfl rfl rfl ?_
    refine v_lit ([.v _, .v _, .f _ _, .f _ _, .f _ _, .f _ _, .f _ _, .f _ _, .f _ _, .f _ _, .f _ _, .f _ _, .f _ _, .f _ _, .f _ _, .f _ _, .f _ _, .f _ _, .f _ _, .f _ _, .f _ _, .f _ _, .mu 14 0 _ 1, .mu 13 0 _ 1, .v _]) (H' := [_, _, _, _, _, _, _, _, _, _, _, _, _, _, _, _]) lay25 lay53 rfl rfl ⟨by decide, by decide⟩ rfl rfl ?_
    refine v_nil ⟨⟨trivial, ⟨ag_load_pt (.c _) lay25 rfl rfl rfl rfl, trivial⟩⟩, ?_⟩
    refine d_e rfl rfl rfl ?_
    refine v_app_any (H' := [_, _, _, _, _, _, _, _, _, _, _, _, _, _, _, _, _]) lay25 lay53 rfl rfl rfl rfl rfl rfl (by decide) rfl ⟨Nat.le_of_ble_eq_true rfl, Nat.le_of_ble_eq_true rfl⟩ rfl rfl ?_
    refine v_nil ⟨again_nil, ?_⟩
    refine d_q rfl rfl rfl rfl rfl ?_
    refine v_fa_pt (off' := 2) lay28 rfl rfl rfl ?_
    refine v_nil ?_
    refine d_e rfl rfl rfl ?_
    refine v_store (H' := [_, _, ⟨[_, _, _, _, _, _, _], 28, true⟩, _, _, _, _, _, _, _, _, _, _, _, _, _, _]) lay25 rfl rfl rfl rfl rfl rfl ?_
    refine v_nil ⟨again_nil, ?_⟩
    refine d_nil ?_
    refine q_bn ?_
    refine q_n ?_
    refine w_reg rfl ?_
    refine v_add lay2 rfl rfl (i64r (by omega)) ?_
    refine v_move rfl ?_
    refine v_nil ?_
    refine q_n ?_
    refine ⟨_, _, _, ?_, ⟨4, rfl, by omega, rfl, rfl⟩, by omega⟩
    exact turn [some 0, some 1, some 2, some 11, some 12, some 5, some 16, some 7, some 8, some 9, some 10, some 14, some 13] rfl rfl rfl (show TurnO _ _ _ [⟨[.v (.slice none 0 0), .v (.slice none 0 0), .v (.slice none 0 0), .v (.slice none 0 0), .v (.int .i64 0), .f .f32 (some 0), .f .f32 (some 0)], 28, true⟩, ⟨rdc (lr x), 41, true⟩, ⟨[.mu 3 0 4 19, .mu 4 0 4 1, .mu 6 0 3 25, .mu 5 0 0 3, .v (.int .i64 0), .f .f32 (some 0), .f .f32 (some 0)], 28, true⟩, ⟨flat rdc (List.replicate 4 (lr x)), 41, true⟩, ⟨flat fe (List.replicate 4 (some 0)), 22, true⟩, ⟨[], 74, true⟩, ⟨refsN JN 7 (jl 3), 53, true⟩, ⟨flat int [0], 2, true⟩, ⟨flat int [1], 2, true⟩, ⟨flat int [1], 2, true⟩, ⟨flat int [2], 2, true⟩, ⟨flat int [2], 2, true⟩, ⟨flat int [3], 2, true⟩] from ⟨⟨_, rfl, (show TrC _ _ [.v (.slice none 0 0), .v (.slice none 0 0), .v (.slice none 0 0), .v (.slice none 0 0), .v (.int .i64 0), .f .f32 (some 0), .f .f32 (some 0)] [.v (.slice none 0 0), .v (.slice none 0 0), .v (.slice none 0 0), .v (.slice none 0 0), .v (.int .i64 0), .f .f32 (some 0), .f .f32 (some 0)] from .cons tr_v (.cons tr_v (.cons tr_v (.cons tr_v (.cons tr_v (.cons tr_f (.cons tr_f .nil)))))))⟩, ⟨_, rfl, (show TrC _ _ (rdc (lr x)) (rdc (lr x)) from .stay (fun c hc => stays_fz (fz_sc (List.all_eq_true.1 (rdc_sc _) c hc))))⟩, ⟨_, rfl, .cons (tr_mu rfl) (.cons (tr_mu rfl) (.cons (tr_mu rfl) (.cons (tr_mu rfl) (.cons tr_v (.cons tr_f (.cons tr_f .nil))))))⟩, ⟨_, rfl, trc_flat rdc_sc rfl⟩, ⟨_, rfl, trc_flat fe_sc rfl⟩, ⟨_, rfl, .nil⟩, ⟨_, rfl, (show TrC _ _ (refsN JN 7 (jl 2) ++ _) (refsN JN 7 (jl 2) ++ JN.cells 11 (je 2)) from trc_appL (trc_refsN JN_ok (by decide)) (.cons tr_v (.cons tr_v (.cons tr_f (.cons tr_f (.cons tr_f (.cons tr_f (.cons tr_f (.cons tr_f (.cons tr_f (.cons tr_f (.cons tr_f (.cons tr_f (.cons tr_f (.cons tr_f (.cons tr_f (.cons tr_f (.cons tr_f (.cons tr_f (.cons tr_f (.cons tr_f (.cons tr_f (.cons tr_f (.cons (tr_mu rfl) (.cons (tr_mu rfl) (.cons tr_v .nil))))))))))))))))))))))))))⟩, ⟨_, rfl, trc_flat int_sc rfl⟩, ⟨_, rfl, trc_flat int_sc rfl⟩, ⟨_, rfl, trc_flat int_sc rfl⟩, ⟨_, rfl, trc_flat int_sc rfl⟩, ⟨_, rfl, trc_flat int_sc rfl⟩, ⟨_, rfl, trc_flat int_sc rfl⟩, trivial⟩) ⟨tr_pt rfl, tr_pt rfl, tr_pt rfl, tr_v, tr_v, trivial⟩
  · skip
    obtain rfl : H = [⟨[.v (.slice none 0 0), .v (.slice none 0 0), .v (.slice none 0 0), .v (.slice none 0 0), .v (.int .i64 0), .f .f32 (some 0), .f .f32 (some 0)], 28, true⟩, ⟨rdc (lr x), 41, true⟩, ⟨[.mu 3 0 4 19, .mu 4 0 4 1, .mu 6 0 3 25, .mu 5 0 0 3, .v (.int .i64 0), .f .f32 (some 0), .f .f32 (some 0)], 28, true⟩, ⟨flat rdc (List.replicate 4 (lr x)), 41, true⟩, ⟨flat fe (List.replicate 4 (some 0)), 22, true⟩, ⟨[], 74, true⟩, ⟨refsN JN 7 (jl 3), 53, true⟩, ⟨flat int [0], 2, true⟩, ⟨flat int [1], 2, true⟩, ⟨flat int [1], 2, true⟩, ⟨flat int [2], 2, true⟩, ⟨flat int [2], 2, true⟩, ⟨flat int [3], 2, true⟩] := hH
    refine w_seq ?_
    refine w_reg rfl ?_
    refine v_lss lay2 rfl rfl (fun h11 => ?_) (fun h11 => ?_)
    rotate_left
    · have hne : n = 4 := by omega
      subst hne
      refine v_nil ?_
      refine q_n ?_
      refine w_seq ?_
      refine w_f rfl ?_
      refine w_exit ?_
      refine q_e ?_
      refine q_e ?_
      refine q_hit ?_
      refine q_n ?_
      refine w_seq ?_
      refine w_reg rfl ?_
      refine v_load_pt (.agg [_, _, _, _, _, _, _]) lay28 rfl rfl rfl rfl ?_
      refine v_store (H' := [⟨[_, _, _, _, _, _, _], 28, true⟩, _, _, _, _, _, _, _, _, _, _, _, _]) lay28 rfl rfl rfl rfl rfl rfl ?_
      refine v_assign (c := .v (.int .i64 0)) rfl ?_
      refine v_nil ?_
      refine q_n ?_
      refine w_ret ?_
      refine r_r rfl ?_
      exact l_ans [some 3, some 4, some 5, some 6, some 7, some 8, some 9, some 10, some 11, some 12] rfl rfl (show TurnO _ _ _ [⟨flat rdc (List.replicate 4 (lr x)), 41, true⟩, ⟨flat fe (List.replicate 4 (some 0)), 22, true⟩, ⟨[], 74, true⟩, ⟨refsN JN 4 (jl 3), 53, true⟩, ⟨flat int [0], 2, true⟩, ⟨flat int [1], 2, true⟩, ⟨flat int [1], 2, true⟩, ⟨flat int [2], 2, true⟩, ⟨flat int [2], 2, true⟩, ⟨flat int [3], 2, true⟩] from ⟨⟨_, rfl, trc_flat rdc_sc rfl⟩, ⟨_, rfl, trc_flat fe_sc rfl⟩, ⟨_, rfl, .nil⟩, ⟨_, rfl, (show TrC _ _ (refsN JN 7 (jl 3)) (refsN JN 4 (jl 3)) from trc_refsN JN_ok (by decide))⟩, ⟨_, rfl, trc_flat int_sc rfl⟩, ⟨_, rfl, trc_flat int_sc rfl⟩, ⟨_, rfl, trc_flat int_sc rfl⟩, ⟨_, rfl, trc_flat int_sc rfl⟩, ⟨_, rfl, trc_flat int_sc rfl⟩, ⟨_, rfl, trc_flat int_sc rfl⟩, trivial⟩) (a_tup (.cons (tr_agg (.cons (tr_mu rfl) (.cons (tr_mu rfl) (.cons (tr_mu rfl) (.cons (tr_mu rfl) (.cons tr_v (.cons tr_f (.cons tr_f .nil)))))))) (.cons tr_v .nil)))
    refine v_nil ?_
    refine q_n ?_
    refine w_seq ?_
    refine w_t rfl ?_
    refine w_skip ?_
    refine q_n ?_
    refine w_seq ?_
    refine w_block ?_
    refine w_seq ?_
    refine w_reg rfl ?_
    refine v_move rfl ?_
    refine v_assign rfl ?_
    refine v_nil ?_
    refine q_n ?_
    refine w_seq ?_
    refine w_draw1 [0, 1, 0, 4, 15, 0, 32, 0, 255, 127, 1023, 2047, 4095] [⟨0, 0, []⟩, ⟨1, 0, []⟩, ⟨2, 0, []⟩, ⟨3, 2, []⟩, ⟨5, 0, []⟩, ⟨6, 0, []⟩, ⟨7, 2, []⟩, ⟨4, 1, [6]⟩, ⟨9, 0, []⟩, ⟨8, 1, []⟩, ⟨10, 1, []⟩, ⟨11, 0, []⟩, ⟨12, 1, []⟩] rfl rfl ?_
    refine d_q rfl rfl rfl rfl rfl ?_
    refine v_fa_pt (off' := 0) lay28 rfl rfl rfl ?_
    refine v_nil ?_
    refine d_q rfl rfl rfl rfl rfl ?_
    refine v_load_pt (.c _) lay23 rfl rfl rfl rfl ?_
    refine v_nil ?_
    refine d_q rfl rfl rfl rfl rfl ?_
    refine v_load_pt (.agg [_, _, _, _, _, _, _, _, _, _, _, _, _, _, _, _, _, _, _]) lay41 rfl rfl rfl rfl ?_
    refine v_nil ?_
    refine d_z (.c (.sl true 1 19 (flat rdc [lr x]))) rfl rfl rfl ?_
    refine d_q rfl rfl rfl rfl rfl ?_
    refine v_fa_pt (off' := 1) lay28 rfl rfl rfl ?_
    refine v_nil ?_
    refine d_q rfl rfl rfl rfl rfl ?_
    refine v_load_pt (.c _) lay24 rfl rfl rfl rfl ?_
    refine v_nil ?_
    refine d_z (.c (.sl true 1 1 (flat fe [some 0]))) rfl rfl rfl ?_
    refine d_e rfl rfl rfl ?_
    refine v_app_flat_sl (H' := [_, _, _, _, _, _, _, _, _, _, _, _, _, _]) rdc_sc rdc_len lay23 lay41 rfl rfl (by first | rfl | (simp; done)) rfl rfl rfl (⟨Nat.le_of_ble_eq_true rfl, Nat.le_of_ble_eq_true rfl⟩) rfl rfl ?_
    refine v_nil ⟨⟨ag_load_pt (.c _) lay24 rfl rfl rfl rfl, ⟨trivial, ⟨trivial, trivial⟩⟩⟩, ?_⟩
    refine d_q rfl rfl rfl rfl rfl ?_
    refine v_fa_pt (off' := 0) lay28 rfl rfl rfl ?_
    refine v_nil ?_
    refine d_e rfl rfl rfl ?_
    refine v_app_flat_sl (H' := [_, _, _, _, _, _, _, _, _, _, _, _, _, _, _]) fe_sc fe_len lay24 lay22 rfl rfl (by first | rfl | (simp; done)) rfl rfl rfl (⟨Nat.le_of_ble_eq_true rfl, Nat.le_of_ble_eq_true rfl⟩) rfl rfl ?_
    refine v_nil ⟨again_nil, ?_⟩
    refine d_e rfl rfl rfl ?_
    refine v_store (H' := [_, _, ⟨[_, _, _, _, _, _, _], 28, true⟩, _, _, _, _, _, _, _, _, _, _, _, _]) lay23 rfl rfl rfl rfl rfl rfl ?_
    refine v_nil ⟨again_nil, ?_⟩
    refine d_q rfl rfl rfl rfl rfl ?_
    refine v_fa_pt (off' := 1) lay28 rfl rfl rfl ?_
    refine v_nil ?_
    refine d_e rfl rfl rfl ?_
    refine v_store (H' := [_, _, ⟨[_, _, _, _, _, _, _], 28, true⟩, _, _, _, _, _, _, _, _, _, _, _, _]) lay24 rfl rfl rfl rfl rfl rfl ?_
    refine v_nil ⟨again_nil, ?_⟩
    refine d_nil ?_
    refine q_n ?_
    refine w_seq ?_
    refine w_reg rfl ?_
    refine v_move rfl ?_
    refine v_gtr lay2 rfl rfl (fun h12 => ?_) (fun h12 => ?_)
    rotate_left
    · exact absurd (by decide) h12
    refine v_nil ?_
    refine q_n ?_
    refine w_t rfl ?_
    refine w_draw2 [0, 1, 0, 0, 8, 24, 0, 64, 252, 508, 1023, 2047, 4095] [⟨0, 0, []⟩, ⟨1, 0, []⟩, ⟨2, 0, []⟩, ⟨3, 0, []⟩, ⟨4, 0, []⟩, ⟨6, 0, []⟩] [⟨7, 1, [1, 2]⟩, ⟨8, 0, []⟩, ⟨9, 1, [1]⟩, ⟨10, 1, []⟩, ⟨11, 0, []⟩, ⟨12, 1, []⟩] [⟨5, 1, [1, 2]⟩, ⟨8, 0, []⟩, ⟨9, 1, [1]⟩, ⟨10, 1, []⟩, ⟨11, 0, []⟩, ⟨12, 1, []⟩] ⟨5, 1, [1, 2]⟩ ⟨7, 1, [1, 2]⟩ rfl rfl rfl rfl rfl rfl ?_
    refine d2_q rfl rfl rfl rfl rfl ?_
    refine v_fa_pt (off' := 2) lay28 rfl rfl rfl ?_
    refine v_nil ?_
    refine d2_q rfl rfl rfl rfl rfl ?_
    refine v_load_pt (.c _) lay25 rfl rfl rfl rfl ?_
    refine v_nil ?_
    refine d2_call (cEvI) rfl rfl rfl rfl rfl (.cons vw_v (.cons vw_v .nil)) ?_
    refine d2_q rfl rfl rfl rfl rfl ?_
    refine v_move rfl ?_
    refine v_nil ?_
    refine d2_q rfl rfl rfl rfl rfl ?_
    refine v_sub lay2 rfl rfl (i64r (by omega)) ?_
    refine v_nil ?_
    refine d2_q rfl rfl rfl rfl rfl ?_
    refine v_move rfl ?_
    refine v_nil ?_
    refine d2_nil ?_ ?_
    · refine d_e rfl rfl rfl ?_
      refine v_lit (flat int [_]) (H' := [_, _, _, _, _, _, _, _, _, _, _, _, _, _, _, _]) lay51 lay2 rfl rfl ⟨by decide, by decide⟩ rfl rfl ?_
      refine v_nil ⟨⟨ag_if rfl (ag_call (cEvI) rfl rfl rfl (.cons vw_v (.cons vw_v .nil))), ⟨ag_load_pt (.c _) lay25 rfl rfl rfl rfl, trivial⟩⟩, ?_⟩
      refine d_e rfl rfl rfl ?_
      refine v_lit (flat int [_]) (H' := [_, _, _, _, _, _, _, _, _, _, _, _, _, _, _, _, _]) lay51 lay2 rfl rfl ⟨by decide, by decide⟩ rfl rfl ?_
      refine v_nil ⟨⟨ag_if rfl (ag_call (cEvI) rfl rfl rfl (.cons vw_v (.cons vw_v .nil))), ⟨ag_load_pt (.c _) lay25 rfl rfl rfl rfl, trivial⟩⟩, ?_⟩
      refine d_q rfl rfl rfl rfl rfl ?_
      refine v_build [(0, 22), (22, 1), (23, 1), (24, 1)] [.v _, .v _, .f _ _, .f _ _, .f _ _, .f _ _, .f _ _, .f _ _, .f _ _, .f _ _, .f _ _, .f _ _, .f _ _, .f _ _, .f _ _, .f _ _, .f _ _, .f _ _, .f _ _, .f _ _, .f _ _, .f _ _, _, _, .v _] lay53 rfl rfl ?_
      refine v_nil ?_
      refine d_e rfl rfl rfl ?_
      refine v_lit ([.v _, .v _, .f _ _, .f _ _, .f _ _, .f _ _, .f _ _, .f _ _, .f _ _, .f _ _, .f _ _, .f _ _, .f _ _, .f _ _, .f _ _, .f _ _, .f _ _, .f _ _, .f _ _, .f _ _, .f _ _, .f _ _, .mu 15 0 _ 1, .mu 16 0 _ 1, .v _]) (H' := [_, _, _, _, _, _, _, _, _, _, _, _, _, _, _, _, _, _]) lay25 lay53 rfl rfl ⟨by decide, by decide⟩ rfl rfl ?_
      refine v_nil ⟨⟨trivial, ⟨ag_load_pt (.c _) lay25 rfl rfl rfl rfl, trivial⟩⟩, ?_⟩
      refine d_e rfl rfl rfl ?_
      refine v_app_any (H' := [_, _, _, _, _, _, _, _, _, _, _, _, _, _, _, _, _, _, _]) lay25 lay53 rfl rfl rfl rfl rfl rfl (by decide) rfl ⟨Nat.le_of_ble_eq_true rfl, Nat.le_of_ble_eq_true rfl⟩ rfl rfl ?_
      refine v_nil ⟨again_nil, ?_⟩
      refine d_q rfl rfl rfl rfl rfl ?_
      refine v_fa_pt (off' := 2) lay28 rfl rfl rfl ?_
      refine v_nil ?_
      refine d_e rfl rfl rfl ?_
      refine v_store (H' := [_, _, ⟨[_, _, _, _, _, _, _], 28, true⟩, _, _, _, _, _, _, _, _, _, _, _, _, _, _, _, _]) lay25 rfl rfl rfl rfl rfl rfl ?_
      refine v_nil ⟨again_nil, ?_⟩
      refine d_nil ?_
      refine q_bn ?_
      refine q_n ?_
      refine w_reg rfl ?_
      refine v_add lay2 rfl rfl (i64r (by omega)) ?_
      refine v_move rfl ?_
      refine v_nil ?_
      refine q_n ?_
      refine ⟨_, _, _, ?_, ⟨5, rfl, by omega, rfl, rfl⟩, by omega⟩
      exact turn [some 0, some 1, some 2, some 13, some 14, some 5, some 18, some 7, some 8, some 9, some 10, some 11, some 12, some 15, some 16] rfl rfl rfl (show TurnO _ _ _ [⟨[.v (.slice none 0 0), .v (.slice none 0 0), .v (.slice none 0 0), .v (.slice none 0 0), .v (.int .i64 0), .f .f32 (some 0), .f .f32 (some 0)], 28, true⟩, ⟨rdc (lr x), 41, true⟩, ⟨[.mu 3 0 5 19, .mu 4 0 5 1, .mu 6 0 4 25, .mu 5 0 0 3, .v (.int .i64 0), .f .f32 (some 0), .f .f32 (some 0)], 28, true⟩, ⟨flat rdc (List.replicate 5 (lr x)), 41, true⟩, ⟨flat fe (List.replicate 5 (some 0)), 22, true⟩, ⟨[], 74, true⟩, ⟨refsN JN 7 (jl 4), 53, true⟩, ⟨flat int [0], 2, true⟩, ⟨flat int [1], 2, true⟩, ⟨flat int [1], 2, true⟩, ⟨flat int [2], 2, true⟩, ⟨flat int [2], 2, true⟩, ⟨flat int [3], 2, true⟩, ⟨flat int [3], 2, true⟩, ⟨flat int [4], 2, true⟩] from ⟨⟨_, rfl, (show TrC _ _ [.v (.slice none 0 0), .v (.slice none 0 0), .v (.slice none 0 0), .v (.slice none 0 0), .v (.int .i64 0), .f .f32 (some 0), .f .f32 (some 0)] [.v (.slice none 0 0), .v (.slice none 0 0), .v (.slice none 0 0), .v (.slice none 0 0), .v (.int .i64 0), .f .f32 (some 0), .f .f32 (some 0)] from .cons tr_v (.cons tr_v (.cons tr_v (.cons tr_v (.cons tr_v (.cons tr_f (.cons tr_f .nil)))))))⟩, ⟨_, rfl, (show TrC _ _ (rdc (lr x)) (rdc (lr x)) from .stay (fun c hc => stays_fz (fz_sc (List.all_eq_true.1 (rdc_sc _) c hc))))⟩, ⟨_, rfl, .cons (tr_mu rfl) (.cons (tr_mu rfl) (.cons (tr_mu rfl) (.cons (tr_mu rfl) (.cons tr_v (.cons tr_f (.cons tr_f .nil))))))⟩, ⟨_, rfl, trc_flat rdc_sc rfl⟩, ⟨_, rfl, trc_flat fe_sc rfl⟩, ⟨_, rfl, .nil⟩, ⟨_, rfl, (show TrC _ _ (refsN JN 7 (jl 3) ++ _) (refsN JN 7 (jl 3) ++ JN.cells 13 (je 3)) from trc_appL (trc_refsN JN_ok (by decide)) (.cons tr_v (.cons tr_v (.cons tr_f (.cons tr_f (.cons tr_f (.cons tr_f (.cons tr_f (.cons tr_f (.cons tr_f (.cons tr_f (.cons tr_f (.cons tr_f (.cons tr_f (.cons tr_f (.cons tr_f (.cons tr_f (.cons tr_f (.cons tr_f (.cons tr_f (.cons tr_f (.cons tr_f (.cons tr_f (.cons (tr_mu rfl) (.cons (tr_mu rfl) (.cons tr_v .nil))))))))))))))))))))))))))⟩, ⟨_, rfl, trc_flat int_sc rfl⟩, ⟨_, rfl, trc_flat int_sc rfl⟩, ⟨_, rfl, trc_flat int_sc rfl⟩, ⟨_, rfl, trc_flat int_sc rfl⟩, ⟨_, rfl, trc_flat int_sc rfl⟩, ⟨_, rfl, trc_flat int_sc rfl⟩, ⟨_, rfl, trc_flat int_sc rfl⟩, ⟨_, rfl, trc_flat int_sc rfl⟩, trivial⟩) ⟨tr_pt rfl, tr_pt rfl, tr_pt rfl, tr_v, tr_v, trivial⟩
    refine d_e rfl rfl rfl ?_
    refine v_lit (flat int [_]) (H' := [_, _, _, _, _, _, _, _, _, _, _, _, _, _, _, _]) lay51 lay2 rfl rfl ⟨by decide, by decide⟩ rfl rfl ?_
    refine v_nil ⟨⟨ag_if rfl (ag_call (cEvI) rfl rfl rfl (.cons vw_v (.cons vw_v .nil))), ⟨ag_load_pt (.c _) lay25 rfl rfl rfl rfl, trivial⟩⟩, ?_⟩
    refine d_e rfl rfl rfl ?_
    refine v_lit (flat int [_]) (H' := [_, _, _, _, _, _, _, _, _, _, _, _, _, _, _, _, _]) lay51 lay2 rfl rfl ⟨by decide, by decide⟩ rfl rfl ?_
    refine v_nil ⟨⟨ag_if rfl (ag_call (cEvI) rfl rfl rfl (.cons vw_v (.cons vw_v .nil))), ⟨ag_load_pt (.c _) lay25 rfl rfl rfl rfl, trivial⟩⟩, ?_⟩
    refine d_q rfl rfl rfl rfl rfl ?_
    refine v_build [(0, 22), (22, 1), (23, 1), (24, 1)] [.v _, .v _, .f _ _, .f _ _, .f _ _, .f _ _, .f _ _, .f _ _, .f _ _, .f _ _, .f _ _, .f _ _, .f _ _, .f _ _, .f _ _, .f _ _, .f _ _, .f _ _, .f _ _, .f _ _, .f _ _, .f _ _, _, _, .v _] lay53 rfl rfl ?_
    refine v_nil ?_
    refine d_e rfl rfl rfl ?_
    refine v_lit ([.v _, .v _, .f _ _, .f _ _, .f _ _, .f _ _, .f _ _, .f _ _, .f _ _, .f _ _, .f _ _, .f _ _, .f _ _, .f _ _, .f _ _, .f _ _, .f _ _, .f _ _, .f _ _, .f _ _, .f _ _, .f _ _, .mu 16 0 _ 1, .mu 15 0 _ 1, .v _]) (H' := [_, _, _, _, _, _, _, _, _, _, _, _, _, _, _, _, _, _]) lay25 lay53 rfl rfl ⟨by decide, by decide⟩ rfl rfl ?_
    refine v_nil ⟨⟨trivial, ⟨ag_load_pt (.c _) lay25 rfl rfl rfl rfl, trivial⟩⟩, ?_⟩
    refine d_e rfl rfl rfl ?_
    refine v_app_any (H' := [_, _, _, _, _, _, _, _, _, _, _, _, _, _, _, _, _, _, _]) lay25 lay53 rfl rfl rfl rfl rfl rfl (by decide) rfl ⟨Nat.le_of_ble_eq_true rfl, Nat.le_of_ble_eq_true rfl⟩ rfl rfl ?_
    refine v_nil ⟨again_nil, ?_⟩
    refine d_q rfl rfl rfl rfl rfl ?_
    refine v_fa_pt (off' := 2) lay28 rfl rfl rfl ?_
    refine v_nil ?_
    refine d_e rfl rfl rfl ?_
    refine v_store (H' := [_, _, ⟨[_, _, _, _, _, _, _], 28, true⟩, _, _, _, _, _, _, _, _, _, _, _, _, _, _, _, _]) lay25 rfl rfl rfl rfl rfl rfl ?_
    refine v_nil ⟨again_nil, ?_⟩
    refine d_nil ?_
    refine q_bn ?_
    refine q_n ?_
    refine w_reg rfl ?_
    refine v_add lay2 rfl rfl (i64r (by omega)) ?_
    refine v_move rfl ?_
    refine v_nil ?_
    refine q_n ?_
    refine ⟨_, _, _, ?_, ⟨5, rfl, by omega, rfl, rfl⟩, by omega⟩
    exact turn [some 0, some 1, some 2, some 13, some 14, some 5, some 18, some 7, some 8, some 9, some 10, some 11, some 12, some 16, some 15] rfl rfl rfl (show TurnO _ _ _ [⟨[.v (.slice none 0 0), .v (.slice none 0 0), .v (.slice none 0 0), .v (.slice none 0 0), .v (.int .i64 0), .f .f32 (some 0), .f .f32 (some 0)], 28, true⟩, ⟨rdc (lr x), 41, true⟩, ⟨[.mu 3 0 5 19, .mu 4 0 5 1, .mu 6 0 4 25, .mu 5 0 0 3, .v (.int .i64 0), .f .f32 (some 0), .f .f32 (some 0)], 28, true⟩, ⟨flat rdc (List.replicate 5 (lr x)), 41, true⟩, ⟨flat fe (List.replicate 5 (some 0)), 22, true⟩, ⟨[], 74, true⟩, ⟨refsN JN 7 (jl 4), 53, true⟩, ⟨flat int [0], 2, true⟩, ⟨flat int [1], 2, true⟩, ⟨flat int [1], 2, true⟩, ⟨flat int [2], 2, true⟩, ⟨flat int [2], 2, true⟩, ⟨flat int [3], 2, true⟩, ⟨flat int [3], 2, true⟩, ⟨flat int [4], 2, true⟩] from ⟨⟨_, rfl, (show TrC _ _ [.v (.slice none 0 0), .v (.slice none 0 0), .v (.slice none 0 0), .v (.slice none 0 0), .v (.int .i64 0), .f .f32 (some 0), .f .f32 (some 0)] [.v (.slice none 0 0), .v (.slice none 0 0), .v (.slice none 0 0), .v (.slice none 0 0), .v (.int .i64 0), .f .f32 (some 0), .f .f32 (some 0)] from .cons tr_v (.cons tr_v (.cons tr_v (.cons tr_v (.cons tr_v (.cons tr_f (.cons tr_f .nil)))))))⟩, ⟨_, rfl, (show TrC _ _ (rdc (lr x)) (rdc (lr x)) from .stay (fun c hc => stays_fz (fz_sc (List.all_eq_true.1 (rdc_sc _) c hc))))⟩, ⟨_, rfl, .cons (tr_mu rfl) (.cons (tr_mu rfl) (.cons (tr_mu rfl) (.cons (tr_mu rfl) (.cons tr_v (.cons tr_f (.cons tr_f .nil))))))⟩, ⟨_, rfl, trc_flat rdc_sc rfl⟩, ⟨_, rfl, trc_flat fe_sc rfl⟩, ⟨_, rfl, .nil⟩, ⟨_, rfl, (show TrC _ _ (refsN JN 7 (jl 3) ++ _) (refsN JN 7 (jl 3) ++ JN.cells 13 (je 3)) from trc_appL (trc_refsN JN_ok (by decide)) (.cons tr_v (.cons tr_v (.cons tr_f (.cons tr_f (.cons tr_f (.cons tr_f (.cons tr_f (.cons tr_f (.cons tr_f (.cons tr_f (.cons tr_f (.cons tr_f (.cons tr_f (.cons tr_f (.cons tr_f (.cons tr_f (.cons tr_f (.cons tr_f (.cons tr_f (.cons tr_f (.cons tr_f (.cons tr_f (.cons (tr_mu rfl) (.cons (tr_mu rfl) (.cons tr_v .nil))))))))))))))))))))))))))⟩, ⟨_, rfl, trc_flat int_sc rfl⟩, ⟨_, rfl, trc_flat int_sc rfl⟩, ⟨_, rfl, trc_flat int_sc rfl⟩, ⟨_, rfl, trc_flat int_sc rfl⟩, ⟨_, rfl, trc_flat int_sc rfl⟩, ⟨_, rfl, trc_flat int_sc rfl⟩, ⟨_, rfl, trc_flat int_sc rfl⟩, ⟨_, rfl, trc_flat int_sc rfl⟩, trivial⟩) ⟨tr_pt rfl, tr_pt rfl, tr_pt rfl, tr_v, tr_v, trivial⟩
  · skip
    obtain rfl : H = [⟨[.v (.slice none 0 0), .v (.slice none 0 0), .v (.slice none 0 0), .v (.slice none 0 0), .v (.int .i64 0), .f .f32 (some 0), .f .f32 (some 0)], 28, true⟩, ⟨rdc (lr x), 41, true⟩, ⟨[.mu 3 0 5 19, .mu 4 0 5 1, .mu 6 0 4 25, .mu 5 0 0 3, .v (.int .i64 0), .f .f32 (some 0), .f .f32 (some 0)], 28, true⟩, ⟨flat rdc (List.replicate 5 (lr x)), 41, true⟩, ⟨flat fe (List.replicate 5 (some 0)), 22, true⟩, ⟨[], 74, true⟩, ⟨refsN JN 7 (jl 4), 53, true⟩, ⟨flat int [0], 2, true⟩, ⟨flat int [1], 2, true⟩, ⟨flat int [1], 2, true⟩, ⟨flat int [2], 2, true⟩, ⟨flat int [2], 2, true⟩, ⟨flat int [3], 2, true⟩, ⟨flat int [3], 2, true⟩, ⟨flat int [4], 2, true⟩] := hH
    refine w_seq ?_
    refine w_reg rfl ?_
    refine v_lss lay2 rfl rfl (fun h13 => ?_) (fun h13 => ?_)
    · exact absurd h13 (by omega)
    have hne : n = 5 := by omega
    subst hne
    refine v_nil ?_
    refine q_n ?_
    refine w_seq ?_
    refine w_f rfl ?_
    refine w_exit ?_
    refine q_e ?_
    refine q_e ?_
    refine q_hit ?_
    refine q_n ?_
    refine w_seq ?_
    refine w_reg rfl ?_
    refine v_load_pt (.agg [_, _, _, _, _, _, _]) lay28 rfl rfl rfl rfl ?_
    refine v_store (H' := [⟨[_, _, _, _, _, _, _], 28, true⟩, _, _, _, _, _, _, _, _, _, _, _, _, _, _]) lay28 rfl rfl rfl rfl rfl rfl ?_
    refine v_assign (c := .v (.int .i64 0)) rfl ?_
    refine v_nil ?_
    refine q_n ?_
    refine w_ret ?_
    refine r_r rfl ?_
    exact l_ans [some 3, some 4, some 5, some 6, some 7, some 8, some 9, some 10, some 11, some 12, some 13, some 14] rfl rfl (show TurnO _ _ _ [⟨flat rdc (List.replicate 5 (lr x)), 41, true⟩, ⟨flat fe (List.replicate 5 (some 0)), 22, true⟩, ⟨[], 74, true⟩, ⟨refsN JN 4 (jl 4), 53, true⟩, ⟨flat int [0], 2, true⟩, ⟨flat int [1], 2, true⟩, ⟨flat int [1], 2, true⟩, ⟨flat int [2], 2, true⟩, ⟨flat int [2], 2, true⟩, ⟨flat int [3], 2, true⟩, ⟨flat int [3], 2, true⟩, ⟨flat int [4], 2, true⟩] from ⟨⟨_, rfl, trc_flat rdc_sc rfl⟩, ⟨_, rfl, trc_flat fe_sc rfl⟩, ⟨_, rfl, .nil⟩, ⟨_, rfl, (show TrC _ _ (refsN JN 7 (jl 4)) (refsN JN 4 (jl 4)) from trc_refsN JN_ok (by decide))⟩, ⟨_, rfl, trc_flat int_sc rfl⟩, ⟨_, rfl, trc_flat int_sc rfl⟩, ⟨_, rfl, trc_flat int_sc rfl⟩, ⟨_, rfl, trc_flat int_sc rfl⟩, ⟨_, rfl, trc_flat int_sc rfl⟩, ⟨_, rfl, trc_flat int_sc rfl⟩, ⟨_, rfl, trc_flat int_sc rfl⟩, ⟨_, rfl, trc_flat int_sc rfl⟩, trivial⟩) (a_tup (.cons (tr_agg (.cons (tr_mu rfl) (.cons (tr_mu rfl) (.cons (tr_mu rfl) (.cons (tr_mu rfl) (.cons tr_v (.cons tr_f (.cons tr_f .nil)))))))) (.cons tr_v .nil)))
def LHs (x : Option Nat) : Nat → List Ob
  | 0 => [⟨[.v (.slice none 0 0), .v (.slice none 0 0), .v (.slice none 0 0), .v (.slice none 0 0), .v (.int .i64 0), .f .f32 (some 0), .f .f32 (some 0)], 28, true⟩, ⟨[.mu 2 0 0 19, .mu 3 0 0 1, .mu 5 0 0 25, .mu 4 0 0 3, .v (.int .i64 0), .f .f32 (some 0), .f .f32 (some 0)], 28, true⟩, ⟨flat rdc (List.replicate 0 (lr x)), 41, true⟩, ⟨flat fe (List.replicate 0 (some 0)), 22, true⟩, ⟨[], 74, true⟩, ⟨refsN JN 6 (jl 0), 53, true⟩]
  | 1 => [⟨[.v (.slice none 0 0), .v (.slice none 0 0), .v (.slice none 0 0), .v (.slice none 0 0), .v (.int .i64 0), .f .f32 (some 0), .f .f32 (some 0)], 28, true⟩, ⟨[.mu 2 0 1 19, .mu 3 0 1 1, .mu 5 0 0 25, .mu 4 0 0 3, .v (.int .i64 0), .f .f32 (some 0), .f .f32 (some 0)], 28, true⟩, ⟨flat rdc (List.replicate 1 (lr x)), 41, true⟩, ⟨flat fe (List.replicate 1 (some 0)), 22, true⟩, ⟨[], 74, true⟩, ⟨refsN JN 6 (jl 0), 53, true⟩]
  | 2 => [⟨[.v (.slice none 0 0), .v (.slice none 0 0), .v (.slice none 0 0), .v (.slice none 0 0), .v (.int .i64 0), .f .f32 (some 0), .f .f32 (some 0)], 28, true⟩, ⟨[.mu 2 0 2 19, .mu 3 0 2 1, .mu 5 0 1 25, .mu 4 0 0 3, .v (.int .i64 0), .f .f32 (some 0), .f .f32 (some 0)], 28, true⟩, ⟨flat rdc (List.replicate 2 (lr x)), 41, true⟩, ⟨flat fe (List.replicate 2 (some 0)), 22, true⟩, ⟨[], 74, true⟩, ⟨refsN JN 6 (jl 1), 53, true⟩, ⟨flat int [0], 2, true⟩, ⟨flat int [1], 2, true⟩]
  | 3 => [⟨[.v (.slice none 0 0), .v (.slice none 0 0), .v (.slice none 0 0), .v (.slice none 0 0), .v (.int .i64 0), .f .f32 (some 0), .f .f32 (some 0)], 28, true⟩, ⟨[.mu 2 0 3 19, .mu 3 0 3 1, .mu 5 0 2 25, .mu 4 0 0 3, .v (.int .i64 0), .f .f32 (some 0), .f .f32 (some 0)], 28, true⟩, ⟨flat rdc (List.replicate 3 (lr x)), 41, true⟩, ⟨flat fe (List.replicate 3 (some 0)), 22, true⟩, ⟨[], 74, true⟩, ⟨refsN JN 6 (jl 2), 53, true⟩, ⟨flat int [0], 2, true⟩, ⟨flat int [1], 2, true⟩, ⟨flat int [1], 2, true⟩, ⟨flat int [2], 2, true⟩]
  | 4 => [⟨[.v (.slice none 0 0), .v (.slice none 0 0), .v (.slice none 0 0), .v (.slice none 0 0), .v (.int .i64 0), .f .f32 (some 0), .f .f32 (some 0)], 28, true⟩, ⟨[.mu 2 0 4 19, .mu 3 0 4 1, .mu 5 0 3 25, .mu 4 0 0 3, .v (.int .i64 0), .f .f32 (some 0), .f .f32 (some 0)], 28, true⟩, ⟨flat rdc (List.replicate 4 (lr x)), 41, true⟩, ⟨flat fe (List.replicate 4 (some 0)), 22, true⟩, ⟨[], 74, true⟩, ⟨refsN JN 6 (jl 3), 53, true⟩, ⟨flat int [0], 2, true⟩, ⟨flat int [1], 2, true⟩, ⟨flat int [1], 2, true⟩, ⟨flat int [2], 2, true⟩, ⟨flat int [2], 2, true⟩, ⟨flat int [3], 2, true⟩]
  | 5 => [⟨[.v (.slice none 0 0), .v (.slice none 0 0), .v (.slice none 0 0), .v (.slice none 0 0), .v (.int .i64 0), .f .f32 (some 0), .f .f32 (some 0)], 28, true⟩, ⟨[.mu 2 0 5 19, .mu 3 0 5 1, .mu 5 0 4 25, .mu 4 0 0 3, .v (.int .i64 0), .f .f32 (some 0), .f .f32 (some 0)], 28, true⟩, ⟨flat rdc (List.replicate 5 (lr x)), 41, true⟩, ⟨flat fe (List.replicate 5 (some 0)), 22, true⟩, ⟨[], 74, true⟩, ⟨refsN JN 6 (jl 4), 53, true⟩, ⟨flat int [0], 2, true⟩, ⟨flat int [1], 2, true⟩, ⟨flat int [1], 2, true⟩, ⟨flat int [2], 2, true⟩, ⟨flat int [2], 2, true⟩, ⟨flat int [3], 2, true⟩, ⟨flat int [3], 2, true⟩, ⟨flat int [4], 2, true⟩]
  | _ + 6 => []
theorem cLnS (n : Nat) (x : Option Nat) (hn : 1 ≤ n ∧ n ≤ 5) : LiveC X 10 [cI n, .c (.f .f32 x)] (.agg (fta n n (n - 1) 0 (some 0) (some 0))) (FT (List.replicate n (lr x)) (List.replicate n (some 0)) (jl (n - 1))) := by
  refine LiveC.of_body (drawD2_ok X) (fun _ _ => Go.Proofs.Try.call10 _ _) Go.Proofs.Try.func10 rfl (n := 40) rfl ?_
  refine w_seq ?_
  refine w_reg rfl ?_
  refine v_alloc (m := 0) (H' := [⟨[.v _, .v _, .v _, .v _, .v _, .f _ _, .f _ _], 28, true⟩]) lay28 rfl rfl ?_
  refine v_nil ?_
  refine q_n ?_
  refine w_seq ?_
  refine w_reg rfl ?_
  refine v_build [(0, 1), (1, 1), (2, 1), (3, 1), (4, 1), (5, 1), (6, 1)] [.v _, .v _, .v _, .v _, .v _, .f _ _, .f _ _] lay28 rfl rfl ?_
  refine v_alloc (m := 1) (H' := [_, ⟨[.v _, .v _, .v _, .v _, .v _, .f _ _, .f _ _], 28, true⟩]) lay28 rfl rfl ?_
  refine v_store (H' := [_, ⟨[_, _, _, _, _, _, _], 28, true⟩]) lay28 rfl rfl rfl rfl rfl rfl ?_
  refine v_nil ?_
  refine q_n ?_
  refine w_seq ?_
  refine w_seq ?_
  refine w_reg rfl ?_
  refine v_assign (c := .v (.int .i64 0)) rfl ?_
  refine v_nil ?_
  refine q_n ?_
  refine w_block ?_
  refine w_loop (fun k sl H => ∃ i : Nat, k = n - i ∧ i ≤ n ∧ sl = sls [(0, cI n), (1, .c (.f .f32 x)), (4, .c (.pt 0 0)), (5, .c (.pt 1 0)), (6, cI i)] ∧ H = LHs x i) ?_ ?_
  · refine ⟨_, _, _, ?_, 0, rfl, Nat.zero_le _, rfl, rfl⟩
    exact turn [some 0, some 1, none, none, none, none] rfl rfl rfl (show TurnO _ _ _ [⟨[.v (.slice none 0 0), .v (.slice none 0 0), .v (.slice none 0 0), .v (.slice none 0 0), .v (.int .i64 0), .f .f32 (some 0), .f .f32 (some 0)], 28, true⟩, ⟨[.mu 2 0 0 19, .mu 3 0 0 1, .mu 5 0 0 25, .mu 4 0 0 3, .v (.int .i64 0), .f .f32 (some 0), .f .f32 (some 0)], 28, true⟩, ⟨flat rdc (List.replicate 0 (lr x)), 41, true⟩, ⟨flat fe (List.replicate 0 (some 0)), 22, true⟩, ⟨[], 74, true⟩, ⟨refsN JN 6 (jl 0), 53, true⟩] from ⟨⟨_, rfl, (show TrC _ _ [.v (.slice none 0 0), .v (.slice none 0 0), .v (.slice none 0 0), .v (.slice none 0 0), .v (.int .i64 0), .f .f32 (some 0), .f .f32 (some 0)] [.v (.slice none 0 0), .v (.slice none 0 0), .v (.slice none 0 0), .v (.slice none 0 0), .v (.int .i64 0), .f .f32 (some 0), .f .f32 (some 0)] from .cons tr_v (.cons tr_v (.cons tr_v (.cons tr_v (.cons tr_v (.cons tr_f (.cons tr_f .nil)))))))⟩, ⟨_, rfl, .cons (tr_nil rfl) (.cons (tr_nil rfl) (.cons (tr_nil rfl) (.cons (tr_nil rfl) (.cons tr_v (.cons tr_f (.cons tr_f .nil))))))⟩, rfl, rfl, rfl, rfl, trivial⟩) ⟨tr_v, tr_f, tr_pt rfl, tr_pt rfl, tr_v, trivial⟩
  rintro k sl H ⟨i, rfl, hi, rfl, hH⟩
  rcases (by omega : i = 0 ∨ i = 1 ∨ i = 2 ∨ i = 3 ∨ i = 4 ∨ i = 5) with rfl | rfl | rfl | rfl | rfl | rfl
  · skip
    obtain rfl : H = [⟨[.v (.slice none 0 0), .v (.slice none 0 0), .v (.slice none 0 0), .v (.slice none 0 0), .v (.int .i64 0), .f .f32 (some 0), .f .f32 (some 0)], 28, true⟩, ⟨[.mu 2 0 0 19, .mu 3 0 0 1, .mu 5 0 0 25, .mu 4 0 0 3, .v (.int .i64 0), .f .f32 (some 0), .f .f32 (some 0)], 28, true⟩, ⟨flat rdc (List.replicate 0 (lr x)), 41, true⟩, ⟨flat fe (List.replicate 0 (some 0)), 22, true⟩, ⟨[], 74, true⟩, ⟨refsN JN 6 (jl 0), 53, true⟩] := hH
    refine w_seq ?_
    refine w_seq ?_
    refine w_reg rfl ?_
    refine v_move rfl ?_
    refine v_move rfl ?_
    refine v_lss lay2 rfl rfl (fun h1 => ?_) (fun h1 => ?_)
    rotate_left
    · exact absurd hn.1 (by omega)
    refine v_nil ?_
    refine q_n ?_
    refine w_t rfl ?_
    refine w_skip ?_
    refine q_n ?_
    refine w_seq ?_
    refine w_block ?_
    refine w_seq ?_
    refine w_reg rfl ?_
    refine v_fa_pt (off' := 0) lay28 rfl rfl rfl ?_
    refine v_load_pt (.c _) lay23 rfl rfl rfl rfl ?_
    refine v_move rfl ?_
    refine v_build [(0, 16), (16, 1), (17, 1), (18, 1)] [.f _ _, .f _ _, .f _ _, .f _ _, .f _ _, .f _ _, .f _ _, .f _ _, .f _ _, .f _ _, .f _ _, .f _ _, .f _ _, .f _ _, .f _ _, .f _ _, .f _ _, .f _ _, .f _ _] lay41 rfl rfl ?_
    refine v_lit (flat rdc [lr x]) (H' := [_, _, _, _, _, _, _]) lay23 lay41 rfl rfl ⟨by decide, by decide⟩ rfl rfl ?_
    refine v_app_flat (H' := [_, _, _, _, _, _, _, _]) rdc_sc rdc_len lay23 lay41 rfl rfl (by first | rfl | (simp; done)) rfl rfl (by first | rfl | (simp; done)) rfl rfl (⟨Nat.le_of_ble_eq_true rfl, Nat.le_of_ble_eq_true rfl⟩) rfl rfl ?_
    refine v_fa_pt (off' := 0) lay28 rfl rfl rfl ?_
    refine v_store (H' := [_, ⟨[_, _, _, _, _, _, _], 28, true⟩, _, _, _, _, _, _]) lay23 rfl rfl rfl rfl rfl rfl ?_
    refine v_nil ?_
    refine q_n ?_
    refine w_seq ?_
    refine w_reg rfl ?_
    refine v_fa_pt (off' := 1) lay28 rfl rfl rfl ?_
    refine v_load_pt (.c _) lay24 rfl rfl rfl rfl ?_
    refine v_lit (flat fe [some 0]) (H' := [_, _, _, _, _, _, _, _, _]) lay24 lay22 rfl rfl ⟨by decide, by decide⟩ rfl rfl ?_
    refine v_app_flat (H' := [_, _, _, _, _, _, _, _, _, _]) fe_sc fe_len lay24 lay22 rfl rfl (by first | rfl | (simp; done)) rfl rfl (by first | rfl | (simp; done)) rfl rfl (⟨Nat.le_of_ble_eq_true rfl, Nat.le_of_ble_eq_true rfl⟩) rfl rfl ?_
    refine v_fa_pt (off' := 1) lay28 rfl rfl rfl ?_
    refine v_store (H' := [_, ⟨[_, _, _, _, _, _, _], 28, true⟩, _, _, _, _, _, _, _, _]) lay24 rfl rfl rfl rfl rfl rfl ?_
    refine v_nil ?_
    refine q_n ?_
    refine w_seq ?_
    refine w_reg rfl ?_
    refine v_move rfl ?_
    refine v_gtr lay2 rfl rfl (fun h2 => ?_) (fun h2 => ?_)
    · exact absurd h2 (by decide)
    refine v_nil ?_
    refine q_n ?_
    refine w_f rfl ?_
    refine w_skip ?_
    refine q_bn ?_
    refine q_n ?_
    refine w_reg rfl ?_
    refine v_move rfl ?_
    refine v_add lay2 rfl rfl (i64r (by omega)) ?_
    refine v_assign rfl ?_
    refine v_nil ?_
    refine q_n ?_
    refine ⟨_, _, _, ?_, ⟨1, rfl, by omega, rfl, rfl⟩, by omega⟩
    exact turn [some 0, some 1, some 7, some 9, some 4, some 5] rfl rfl rfl (show TurnO _ _ _ [⟨[.v (.slice none 0 0), .v (.slice none 0 0), .v (.slice none 0 0), .v (.slice none 0 0), .v (.int .i64 0), .f .f32 (some 0), .f .f32 (some 0)], 28, true⟩, ⟨[.mu 2 0 1 19, .mu 3 0 1 1, .mu 5 0 0 25, .mu 4 0 0 3, .v (.int .i64 0), .f .f32 (some 0), .f .f32 (some 0)], 28, true⟩, ⟨flat rdc (List.replicate 1 (lr x)), 41, true⟩, ⟨flat fe (List.replicate 1 (some 0)), 22, true⟩, ⟨[], 74, true⟩, ⟨refsN JN 6 (jl 0), 53, true⟩] from ⟨⟨_, rfl, (show TrC _ _ [.v (.slice none 0 0), .v (.slice none 0 0), .v (.slice none 0 0), .v (.slice none 0 0), .v (.int .i64 0), .f .f32 (some 0), .f .f32 (some 0)] [.v (.slice none 0 0), .v (.slice none 0 0), .v (.slice none 0 0), .v (.slice none 0 0), .v (.int .i64 0), .f .f32 (some 0), .f .f32 (some 0)] from .cons tr_v (.cons tr_v (.cons tr_v (.cons tr_v (.cons tr_v (.cons tr_f (.cons tr_f .nil)))))))⟩, ⟨_, rfl, .cons (tr_mu rfl) (.cons (tr_mu rfl) (.cons (tr_mu rfl) (.cons (tr_mu rfl) (.cons tr_v (.cons tr_f (.cons tr_f .nil))))))⟩, ⟨_, rfl, trc_flat rdc_sc rfl⟩, ⟨_, rfl, trc_flat fe_sc rfl⟩, ⟨_, rfl, .nil⟩, ⟨_, rfl, (show TrC _ _ (refsN JN 6 (jl 0)) (refsN JN 6 (jl 0)) from trc_refsN JN_ok (by decide))⟩, trivial⟩) ⟨tr_v, tr_f, tr_pt rfl, tr_pt rfl, tr_v, trivial⟩
  · skip
    obtain rfl : H = [⟨[.v (.slice none 0 0), .v (.slice none 0 0), .v (.slice none 0 0), .v (.slice none 0 0), .v (.int .i64 0), .f .f32 (some 0), .f .f32 (some 0)], 28, true⟩, ⟨[.mu 2 0 1 19, .mu 3 0 1 1, .mu 5 0 0 25, .mu 4 0 0 3, .v (.int .i64 0), .f .f32 (some 0), .f .f32 (some 0)], 28, true⟩, ⟨flat rdc (List.replicate 1 (lr x)), 41, true⟩, ⟨flat fe (List.replicate 1 (some 0)), 22, true⟩, ⟨[], 74, true⟩, ⟨refsN JN 6 (jl 0), 53, true⟩] := hH
    refine w_seq ?_
    refine w_seq ?_
    refine w_reg rfl ?_
    refine v_move rfl ?_
    refine v_move rfl ?_
    refine v_lss lay2 rfl rfl (fun h3 => ?_) (fun h3 => ?_)
    rotate_left
    · have hne : n = 1 := by omega
      subst hne
      refine v_nil ?_
      refine q_n ?_
      refine w_f rfl ?_
      refine w_exit ?_
      refine q_e ?_
      refine q_e ?_
      refine q_hit ?_
      refine q_n ?_
      refine w_seq ?_
      refine w_reg rfl ?_
      refine v_load_pt (.agg [_, _, _, _, _, _, _]) lay28 rfl rfl rfl rfl ?_
      refine v_store (H' := [⟨[_, _, _, _, _, _, _], 28, true⟩, _, _, _, _, _]) lay28 rfl rfl rfl rfl rfl rfl ?_
      refine v_nil ?_
      refine q_n ?_
      refine w_ret ?_
      refine r_r rfl ?_
      exact l_ans [some 2, some 3, some 4, some 5] rfl rfl (show TurnO _ _ _ [⟨flat rdc (List.replicate 1 (lr x)), 41, true⟩, ⟨flat fe (List.replicate 1 (some 0)), 22, true⟩, ⟨[], 74, true⟩, ⟨refsN JN 4 (jl 0), 53, true⟩] from ⟨⟨_, rfl, trc_flat rdc_sc rfl⟩, ⟨_, rfl, trc_flat fe_sc rfl⟩, ⟨_, rfl, .nil⟩, ⟨_, rfl, (show TrC _ _ (refsN JN 6 (jl 0)) (refsN JN 4 (jl 0)) from trc_refsN JN_ok (by decide))⟩, trivial⟩) (tr_agg (.cons (tr_mu rfl) (.cons (tr_mu rfl) (.cons (tr_mu rfl) (.cons (tr_mu rfl) (.cons tr_v (.cons tr_f (.cons tr_f .nil))))))))
    refine v_nil ?_
    refine q_n ?_
    refine w_t rfl ?_
    refine w_skip ?_
    refine q_n ?_
    refine w_seq ?_
    refine w_block ?_
    refine w_seq ?_
    refine w_reg rfl ?_
    refine v_fa_pt (off' := 0) lay28 rfl rfl rfl ?_
    refine v_load_pt (.c _) lay23 rfl rfl rfl rfl ?_
    refine v_move rfl ?_
    refine v_build [(0, 16), (16, 1), (17, 1), (18, 1)] [.f _ _, .f _ _, .f _ _, .f _ _, .f _ _, .f _ _, .f _ _, .f _ _, .f _ _, .f _ _, .f _ _, .f _ _, .f _ _, .f _ _, .f _ _, .f _ _, .f _ _, .f _ _, .f _ _] lay41 rfl rfl ?_
    refine v_lit (flat rdc [lr x]) (H' := [_, _, _, _, _, _, _]) lay23 lay41 rfl rfl ⟨by decide, by decide⟩ rfl rfl ?_
    refine v_app_flat (H' := [_, _, _, _, _, _, _, _]) rdc_sc rdc_len lay23 lay41 rfl rfl (by first | rfl | (simp; done)) rfl rfl (by first | rfl | (simp; done)) rfl rfl (⟨Nat.le_of_ble_eq_true rfl, Nat.le_of_ble_eq_true rfl⟩) rfl rfl ?_
    refine v_fa_pt (off' := 0) lay28 rfl rfl rfl ?_
    refine v_store (H' := [_, ⟨[_, _, _, _, _, _, _], 28, true⟩, _, _, _, _, _, _]) lay23 rfl rfl rfl rfl rfl rfl ?_
    refine v_nil ?_
    refine q_n ?_
    refine w_seq ?_
    refine w_reg rfl ?_
    refine v_fa_pt (off' := 1) lay28 rfl rfl rfl ?_
    refine v_load_pt (.c _) lay24 rfl rfl rfl rfl ?_
    refine v_lit (flat fe [some 0]) (H' := [_, _, _, _, _, _, _, _, _]) lay24 lay22 rfl rfl ⟨by decide, by decide⟩ rfl rfl ?_
    refine v_app_flat (H' := [_, _, _, _, _, _, _, _, _, _]) fe_sc fe_len lay24 lay22 rfl rfl (by first | rfl | (simp; done)) rfl rfl (by first | rfl | (simp; done)) rfl rfl (⟨Nat.le_of_ble_eq_true rfl, Nat.le_of_ble_eq_true rfl⟩) rfl rfl ?_
    refine v_fa_pt (off' := 1) lay28 rfl rfl rfl ?_
    refine v_store (H' := [_, ⟨[_, _, _, _, _, _, _], 28, true⟩, _, _, _, _, _, _, _, _]) lay24 rfl rfl rfl rfl rfl rfl ?_
    refine v_nil ?_
    refine q_n ?_
    refine w_seq ?_
    refine w_reg rfl ?_
    refine v_move rfl ?_
    refine v_gtr lay2 rfl rfl (fun h4 => ?_) (fun h4 => ?_)
    rotate_left
    · exact absurd (by decide) h4
    refine v_nil ?_
    refine q_n ?_
    refine w_t rfl ?_
    refine w_draw2 [0, 1, 0, 0, 8, 24, 0, 64, 252, 508, 1023, 2047, 4095] [⟨0, 0, []⟩, ⟨1, 0, []⟩, ⟨2, 0, []⟩, ⟨3, 0, []⟩, ⟨4, 0, []⟩, ⟨6, 0, []⟩] [⟨7, 1, [1, 2]⟩, ⟨8, 0, []⟩, ⟨9, 1, [1]⟩, ⟨10, 1, []⟩, ⟨11, 0, []⟩, ⟨12, 1, []⟩] [⟨5, 1, [1, 2]⟩, ⟨8, 0, []⟩, ⟨9, 1, [1]⟩, ⟨10, 1, []⟩, ⟨11, 0, []⟩, ⟨12, 1, []⟩] ⟨5, 1, [1, 2]⟩ ⟨7, 1, [1, 2]⟩ rfl rfl rfl rfl rfl rfl ?_
    refine d2_q rfl rfl rfl rfl rfl ?_
    refine v_fa_pt (off' := 2) lay28 rfl rfl rfl ?_
    refine v_nil ?_
    refine d2_q rfl rfl rfl rfl rfl ?_
    refine v_load_pt (.c _) lay25 rfl rfl rfl rfl ?_
    refine v_nil ?_
    refine d2_call (cEvS) rfl rfl rfl rfl rfl (.cons vw_v (.cons vw_v .nil)) ?_
    refine d2_q rfl rfl rfl rfl rfl ?_
    refine v_move rfl ?_
    refine v_nil ?_
    refine d2_q rfl rfl rfl rfl rfl ?_
    refine v_sub lay2 rfl rfl (i64r (by omega)) ?_
    refine v_nil ?_
    refine d2_q rfl rfl rfl rfl rfl ?_
    refine v_move rfl ?_
    refine v_nil ?_
    refine d2_nil ?_ ?_
    · refine d_e rfl rfl rfl ?_
      refine v_lit (flat int [_]) (H' := [_, _, _, _, _, _, _, _, _, _, _]) lay51 lay2 rfl rfl ⟨by decide, by decide⟩ rfl rfl ?_
      refine v_nil ⟨⟨ag_if rfl (ag_call (cEvS) rfl rfl rfl (.cons vw_v (.cons vw_v .nil))), ⟨ag_load_pt (.c _) lay25 rfl rfl rfl rfl, trivial⟩⟩, ?_⟩
      refine d_e rfl rfl rfl ?_
      refine v_lit (flat int [_]) (H' := [_, _, _, _, _, _, _, _, _, _, _, _]) lay51 lay2 rfl rfl ⟨by decide, by decide⟩ rfl rfl ?_
      refine v_nil ⟨⟨ag_if rfl (ag_call (cEvS) rfl rfl rfl (.cons vw_v (.cons vw_v .nil))), ⟨ag_load_pt (.c _) lay25 rfl rfl rfl rfl, trivial⟩⟩, ?_⟩
      refine d_q rfl rfl rfl rfl rfl ?_
      refine v_build [(0, 22), (22, 1), (23, 1), (24, 1)] [.v _, .v _, .f _ _, .f _ _, .f _ _, .f _ _, .f _ _, .f _ _, .f _ _, .f _ _, .f _ _, .f _ _, .f _ _, .f _ _, .f _ _, .f _ _, .f _ _, .f _ _, .f _ _, .f _ _, .f _ _, .f _ _, _, _, .v _] lay53 rfl rfl ?_
      refine v_nil ?_
      refine d_e rfl rfl rfl ?_
      refine v_lit ([.v _, .v _, .f _ _, .f _ _, .f _ _, .f _ _, .f _ _, .f _ _, .f _ _, .f _ _, .f _ _, .f _ _, .f _ _, .f _ _, .f _ _, .f _ _, .f _ _, .f _ _, .f _ _, .f _ _, .f _ _, .f _ _, .mu 10 0 _ 1, .mu 11 0 _ 1, .v _]) (H' := [_, _, _, _, _, _, _, _, _, _, _, _, _]) lay25 lay53 rfl rfl ⟨by decide, by decide⟩ rfl rfl ?_
      refine v_nil ⟨⟨trivial, ⟨ag_load_pt (.c _) lay25 rfl rfl rfl rfl, trivial⟩⟩, ?_⟩
      refine d_e rfl rfl rfl ?_
      refine v_app_any (H' := [_, _, _, _, _, _, _, _, _, _, _, _, _, _]) lay25 lay53 rfl rfl rfl rfl rfl rfl (by decide) rfl ⟨Nat.le_of_ble_eq_true rfl, Nat.le_of_ble_eq_true rfl⟩ rfl rfl ?_
      refine v_nil ⟨again_nil, ?_⟩
      refine d_q rfl rfl rfl rfl rfl ?_
      refine v_fa_pt (off' := 2) lay28 rfl rfl rfl ?_
      refine v_nil ?_
      refine d_e rfl rfl rfl ?_
      refine v_store (H' := [_, ⟨[_, _, _, _, _, _, _], 28, true⟩, _, _, _, _, _, _, _, _, _, _, _, _]) lay25 rfl rfl rfl rfl rfl rfl ?_
      refine v_nil ⟨again_nil, ?_⟩
      refine d_nil ?_
      refine q_bn ?_
      refine q_n ?_
      refine w_reg rfl ?_
      refine v_move rfl ?_
      refine v_add lay2 rfl rfl (i64r (by omega)) ?_
      refine v_assign rfl ?_
      refine v_nil ?_
      refine q_n ?_
      refine ⟨_, _, _, ?_, ⟨2, rfl, by omega, rfl, rfl⟩, by omega⟩
      exact turn [some 0, some 1, some 7, some 9, some 4, some 13, some 10, some 11] rfl rfl rfl (show TurnO _ _ _ [⟨[.v (.slice none 0 0), .v (.slice none 0 0), .v (.slice none 0 0), .v (.slice none 0 0), .v (.int .i64 0), .f .f32 (some 0), .f .f32 (some 0)], 28, true⟩, ⟨[.mu 2 0 2 19, .mu 3 0 2 1, .mu 5 0 1 25, .mu 4 0 0 3, .v (.int .i64 0), .f .f32 (some 0), .f .f32 (some 0)], 28, true⟩, ⟨flat rdc (List.replicate 2 (lr x)), 41, true⟩, ⟨flat fe (List.replicate 2 (some 0)), 22, true⟩, ⟨[], 74, true⟩, ⟨refsN JN 6 (jl 1), 53, true⟩, ⟨flat int [0], 2, true⟩, ⟨flat int [1], 2, true⟩] from ⟨⟨_, rfl, (show TrC _ _ [.v (.slice none 0 0), .v (.slice none 0 0), .v (.slice none 0 0), .v (.slice none 0 0), .v (.int .i64 0), .f .f32 (some 0), .f .f32 (some 0)] [.v (.slice none 0 0), .v (.slice none 0 0), .v (.slice none 0 0), .v (.slice none 0 0), .v (.int .i64 0), .f .f32 (some 0), .f .f32 (some 0)] from .cons tr_v (.cons tr_v (.cons tr_v (.cons tr_v (.cons tr_v (.cons tr_f (.cons tr_f .nil)))))))⟩, ⟨_, rfl, .cons (tr_mu rfl) (.cons (tr_mu rfl) (.cons (tr_mu rfl) (.cons (tr_mu rfl) (.cons tr_v (.cons tr_f (.cons tr_f .nil))))))⟩, ⟨_, rfl, trc_flat rdc_sc rfl⟩, ⟨_, rfl, trc_flat fe_sc rfl⟩, ⟨_, rfl, .nil⟩, ⟨_, rfl, (show TrC _ _ (refsN JN 6 (jl 0) ++ _) (refsN JN 6 (jl 0) ++ JN.cells 6 (je 0)) from trc_appL (trc_refsN JN_ok (by decide)) (.cons tr_v (.cons tr_v (.cons tr_f (.cons tr_f (.cons tr_f (.cons tr_f (.cons tr_f (.cons tr_f (.cons tr_f (.cons tr_f (.cons tr_f (.cons tr_f (.cons tr_f (.cons tr_f (.cons tr_f (.cons tr_f (.cons tr_f (.cons tr_f (.cons tr_f (.cons tr_f (.cons tr_f (.cons tr_f (.cons (tr_mu rfl) (.cons (tr_mu rfl) (.cons tr_v .nil))))))))))))))))))))))))))⟩, ⟨_, rfl, trc_flat int_sc rfl⟩, ⟨_, rfl, trc_flat int_sc rfl⟩, trivial⟩) ⟨tr_v, tr_f, tr_pt rfl, tr_pt rfl, tr_v, trivial⟩
    refine d_e rfl rfl rfl ?_
    refine v_lit (flat int [_]) (H' := [_, _, _, _, _, _, _, _, _, _, _]) lay51 lay2 rfl rfl ⟨by decide, by decide⟩ rfl rfl ?_
    refine v_nil ⟨⟨ag_if rfl (ag_call (cEvS) rfl rfl rfl (.cons vw_v (.cons vw_v .nil))), ⟨ag_load_pt (.c _) lay25 rfl rfl rfl rfl, trivial⟩⟩, ?_⟩
    refine d_e rfl rfl rfl ?_
    refine v_lit (flat int [_]) (H' := [_, _, _, _, _, _, _, _, _, _, _, _]) lay51 lay2 rfl rfl ⟨by decide, by decide⟩ rfl rfl ?_
    refine v_nil ⟨⟨ag_if rfl (ag_call (cEvS) rfl rfl rfl (.cons vw_v (.cons vw_v .nil))), ⟨ag_load_pt (.c _) lay25 rfl rfl rfl rfl, trivial⟩⟩, ?_⟩
    refine d_q rfl rfl rfl rfl rfl ?_
    refine v_build [(0, 22), (22, 1), (23, 1), (24, 1)] [.v _, .v _, .f _ _, .f _ _, .f _ _, .f _ _, .f _ _, .f _ _, .f _ _, .f _ _, .f _ _, .f _ _, .f _ _, .f _ _, .f _ _, .f _ _, .f _ _, .f _ _, .f _ _, .f _ _, .f _ _, .f _ _, _, _, .v _] lay53 rfl rfl ?_
    refine v_nil ?_
    refine d_e rfl rfl rfl ?_
    refine v_lit ([.v _, .v _, .f _ _, .f _ _, .f _ _, .f _ _, .f _ _, .f _ _, .f _ _, .f _ _, .f _ _, .f _ _, .f _ _, .f _ _, .f _ _, .f _ _, .f _ _, .f _ _, .f _ _, .f _ _, .f _ _, .f _ _, .mu 11 0 _ 1, .mu 10 0 _ 1, .v _]) (H' := [_, _, _, _, _, _, _, _, _, _, _, _, _]) lay25 lay53 rfl rfl ⟨by decide, by decide⟩ rfl rfl ?_
    refine v_nil ⟨⟨trivial, ⟨ag_load_pt (.c _) lay25 rfl rfl rfl rfl, trivial⟩⟩, ?_⟩
    refine d_e rfl rfl rfl ?_
    refine v_app_any (H' := [_, _, _, _, _, _, _, _, _, _, _, _, _, _]) lay25 lay53 rfl rfl rfl rfl rfl rfl (by decide) rfl ⟨Nat.le_of_ble_eq_true rfl, Nat.le_of_ble_eq_true rfl⟩ rfl rfl ?_
    refine v_nil ⟨again_nil, ?_⟩
    refine d_q rfl rfl rfl rfl rfl ?_
    refine v_fa_pt (off' := 2) lay28 rfl rfl rfl ?_
    refine v_nil ?_
    refine d_e rfl rfl rfl ?_
    refine v_store (H' := [_, ⟨[_, _, _, _, _, _, _], 28, true⟩, _, _, _, _, _, _, _, _, _, _, _, _]) lay25 rfl rfl rfl rfl rfl rfl ?_
    refine v_nil ⟨again_nil, ?_⟩
    refine d_nil ?_
    refine q_bn ?_
    refine q_n ?_
    refine w_reg rfl ?_
    refine v_move rfl ?_
    refine v_add lay2 rfl rfl (i64r (by omega)) ?_
    refine v_assign rfl ?_
    refine v_nil ?_
    refine q_n ?_
    refine ⟨_, _, _, ?_, ⟨2, rfl, by omega, rfl, rfl⟩, by omega⟩
    exact turn [some 0, some 1, some 7, some 9, some 4, some 13, some 11, some 10] rfl rfl rfl (show TurnO _ _ _ [⟨[.v (.slice none 0 0), .v (.slice none 0 0), .v (.slice none 0 0), .v (.slice none 0 0), .v (.int .i64 0), .f .f32 (some 0), .f .f32 (some 0)], 28, true⟩, ⟨[.mu 2 0 2 19, .mu 3 0 2 1, .mu 5 0 1 25, .mu 4 0 0 3, .v (.int .i64 0), .f .f32 (some 0), .f .f32 (some 0)], 28, true⟩, ⟨flat rdc (List.replicate 2 (lr x)), 41, true⟩, ⟨flat fe (List.replicate 2 (some 0)), 22, true⟩, ⟨[], 74, true⟩, ⟨refsN JN 6 (jl 1), 53, true⟩, ⟨flat int [0], 2, true⟩, ⟨flat int [1], 2, true⟩] from ⟨⟨_, rfl, (show TrC _ _ [.v (.slice none 0 0), .v (.slice none 0 0), .v (.slice none 0 0), .v (.slice none 0 0), .v (.int .i64 0), .f .f32 (some 0), .f .f32 (some 0)] [.v (.slice none 0 0), .v (.slice none 0 0), .v (.slice none 0 0), .v (.slice none 0 0), .v (.int .i64 0), .f .f32 (some 0), .f .f32 (some 0)] from .cons tr_v (.cons tr_v (.cons tr_v (.cons tr_v (.cons tr_v (.cons tr_f (.cons tr_f .nil)))))))⟩, ⟨_, rfl, .cons (tr_mu rfl) (.cons (tr_mu rfl) (.cons (tr_mu rfl) (.cons (tr_mu rfl) (.cons tr_v (.cons tr_f (.cons tr_f .nil))))))⟩, ⟨_, rfl, trc_flat rdc_sc rfl⟩, ⟨_, rfl, trc_flat fe_sc rfl⟩, ⟨_, rfl, .nil⟩, ⟨_, rfl, (show TrC _ _ (refsN JN 6 (jl 0) ++ _) (refsN JN 6 (jl 0) ++ JN.cells 6 (je 0)) from trc_appL (trc_refsN JN_ok (by decide)) (.cons tr_v (.cons tr_v (.cons tr_f (.cons tr_f (.cons tr_f (.cons tr_f (.cons tr_f (.cons tr_f (.cons tr_f (.cons tr_f (.cons tr_f (.cons tr_f (.cons tr_f (.cons tr_f (.cons tr_f (.cons tr_f (.cons tr_f (.cons tr_f (.cons tr_f (.cons tr_f (.cons tr_f (.cons tr_f (.cons (tr_mu rfl) (.cons (tr_mu rfl) (.cons tr_v .nil))))))))))))))))))))))))))⟩, ⟨_, rfl, trc_flat int_sc rfl⟩, ⟨_, rfl, trc_flat int_sc rfl⟩, trivial⟩) ⟨tr_v, tr_f, tr_pt rfl, tr_pt rfl, tr_v, trivial⟩
  · skip
    obtain rfl : H = [⟨[.v (.slice none 0 0), .v (.slice none 0 0), .v (.slice none 0 0), .v (.slice none 0 0), .v (.int .i64 0), .f .f32 (some 0), .f .f32 (some 0)], 28, true⟩, ⟨[.mu 2 0 2 19, .mu 3 0 2 1, .mu 5 0 1 25, .mu 4 0 0 3, .v (.int .i64 0), .f .f32 (some 0), .f .f32 (some 0)], 28, true⟩, ⟨flat rdc (List.replicate 2 (lr x)), 41, true⟩, ⟨flat fe (List.replicate 2 (some 0)), 22, true⟩, ⟨[], 74, true⟩, ⟨refsN JN 6 (jl 1), 53, true⟩, ⟨flat int [0], 2, true⟩, ⟨flat int [1], 2, true⟩] := hH
    refine w_seq ?_
    refine w_seq ?_
    refine w_reg rfl ?_
    refine v_move rfl ?_
    refine v_move rfl ?_
    refine v_lss lay2 rfl rfl (fun h5 => ?_) (fun h5 => ?_)
    rotate_left
    · have hne : n = 2 := by omega
      subst hne
      refine v_nil ?_
      refine q_n ?_
      refine w_f rfl ?_
      refine w_exit ?_
      refine q_e ?_
      refine q_e ?_
      refine q_hit ?_
      refine q_n ?_
      refine w_seq ?_
      refine w_reg rfl ?_
      refine v_load_pt (.agg [_, _, _, _, _, _, _]) lay28 rfl rfl rfl rfl ?_
      refine v_store (H' := [⟨[_, _, _, _, _, _, _], 28, true⟩, _, _, _, _, _, _, _]) lay28 rfl rfl rfl rfl rfl rfl ?_
      refine v_nil ?_
      refine q_n ?_
      refine w_ret ?_
      refine r_r rfl ?_
      exact l_ans [some 2, some 3, some 4, some 5, some 6, some 7] rfl rfl (show TurnO _ _ _ [⟨flat rdc (List.replicate 2 (lr x)), 41, true⟩, ⟨flat fe (List.replicate 2 (some 0)), 22, true⟩, ⟨[], 74, true⟩, ⟨refsN JN 4 (jl 1), 53, true⟩, ⟨flat int [0], 2, true⟩, ⟨flat int [1], 2, true⟩] from ⟨⟨_, rfl, trc_flat rdc_sc rfl⟩, ⟨_, rfl, trc_flat fe_sc rfl⟩, ⟨_, rfl, .nil⟩, ⟨_, rfl, (show TrC _ _ (refsN JN 6 (jl 1)) (refsN JN 4 (jl 1)) from trc_refsN JN_ok (by decide))⟩, ⟨_, rfl, trc_flat int_sc rfl⟩, ⟨_, rfl, trc_flat int_sc rfl⟩, trivial⟩) (tr_agg (.cons (tr_mu rfl) (.cons (tr_mu rfl) (.cons (tr_mu rfl) (.cons (tr_mu rfl) (.cons tr_v (.cons tr_f (.cons tr_f .nil))))))))
    refine v_nil ?_
    refine q_n ?_
    refine w_t rfl ?_
    refine w_skip ?_
    refine q_n ?_
    refine w_seq ?_
    refine w_block ?_
    refine w_seq ?_
    refine w_reg rfl ?_
    refine v_fa_pt (off' := 0) lay28 rfl rfl rfl ?_
    refine v_load_pt (.c _) lay23 rfl rfl rfl rfl ?_
    refine v_move rfl ?_
    refine v_build [(0, 16), (16, 1), (17, 1), (18, 1)] [.f _ _, .f _ _, .f _ _, .f _ _, .f _ _, .f _ _, .f _ _, .f _ _, .f _ _, .f _ _, .f _ _, .f _ _, .f _ _, .f _ _, .f _ _, .f _ _, .f _ _, .f _ _, .f _ _] lay41 rfl rfl ?_
    refine v_lit (flat rdc [lr x]) (H' := [_, _, _, _, _, _, _, _, _]) lay23 lay41 rfl rfl ⟨by decide, by decide⟩ rfl rfl ?_
    refine v_app_flat (H' := [_, _, _, _, _, _, _, _, _, _]) rdc_sc rdc_len lay23 lay41 rfl rfl (by first | rfl | (simp; done)) rfl rfl (by first | rfl | (simp; done)) rfl rfl (⟨Nat.le_of_ble_eq_true rfl, Nat.le_of_ble_eq_true rfl⟩) rfl rfl ?_
    refine v_fa_pt (off' := 0) lay28 rfl rfl rfl ?_
    refine v_store (H' := [_, ⟨[_, _, _, _, _, _, _], 28, true⟩, _, _, _, _, _, _, _, _]) lay23 rfl rfl rfl rfl rfl rfl ?_
    refine v_nil ?_
    refine q_n ?_
    refine w_seq ?_
    refine w_reg rfl ?_
    refine v_fa_pt (off' := 1) lay28 rfl rfl rfl ?_
    refine v_load_pt (.c _) lay24 rfl rfl rfl rfl ?_
    refine v_lit (flat fe [some 0]) (H' := [_, _, _, _, _, _, _, _, _, _, _]) lay24 lay22 rfl rfl ⟨by decide, by decide⟩ rfl rfl ?_
    refine v_app_flat (H' := [_, _, _, _, _, _, _, _, _, _, _, _]) fe_sc fe_len lay24 lay22 rfl rfl (by first | rfl | (simp; done)) rfl rfl (by first | rfl | (simp; done)) rfl rfl (⟨Nat.le_of_ble_eq_true rfl, Nat.le_of_ble_eq_true rfl⟩) rfl rfl ?_
    refine v_fa_pt (off' := 1) lay28 rfl rfl rfl ?_
    refine v_store (H' := [_, ⟨[_, _, _, _, _, _, _], 28, true⟩, _, _, _, _, _, _, _, _, _, _]) lay24 rfl rfl rfl rfl rfl rfl ?_
    refine v_nil ?_
    refine q_n ?_
    refine w_seq ?_
    refine w_reg rfl ?_
    refine v_move rfl ?_
    refine v_gtr lay2 rfl rfl (fun h6 => ?_) (fun h6 => ?_)
    rotate_left
    · exact absurd (by decide) h6
    refine v_nil ?_
    refine q_n ?_
    refine w_t rfl ?_
    refine w_draw2 [0, 1, 0, 0, 8, 24, 0, 64, 252, 508, 1023, 2047, 4095] [⟨0, 0, []⟩, ⟨1, 0, []⟩, ⟨2, 0, []⟩, ⟨3, 0, []⟩, ⟨4, 0, []⟩, ⟨6, 0, []⟩] [⟨7, 1, [1, 2]⟩, ⟨8, 0, []⟩, ⟨9, 1, [1]⟩, ⟨10, 1, []⟩, ⟨11, 0, []⟩, ⟨12, 1, []⟩] [⟨5, 1, [1, 2]⟩, ⟨8, 0, []⟩, ⟨9, 1, [1]⟩, ⟨10, 1, []⟩, ⟨11, 0, []⟩, ⟨12, 1, []⟩] ⟨5, 1, [1, 2]⟩ ⟨7, 1, [1, 2]⟩ rfl rfl rfl rfl rfl rfl ?_
    refine d2_q rfl rfl rfl rfl rfl ?_
    refine v_fa_pt (off' := 2) lay28 rfl rfl rfl ?_
    refine v_nil ?_
    refine d2_q rfl rfl rfl rfl rfl ?_
    refine v_load_pt (.c _) lay25 rfl rfl rfl rfl ?_
    refine v_nil ?_
    refine d2_call (cEvS) rfl rfl rfl rfl rfl (.cons vw_v (.cons vw_v .nil)) ?_
    refine d2_q rfl rfl rfl rfl rfl ?_
    refine v_move rfl ?_
    refine v_nil ?_
    refine d2_q rfl rfl rfl rfl rfl ?_
    refine v_sub lay2 rfl rfl (i64r (by omega)) ?_
    refine v_nil ?_
    refine d2_q rfl rfl rfl rfl rfl ?_
    refine v_move rfl ?_
    refine v_nil ?_
    refine d2_nil ?_ ?_
    · refine d_e rfl rfl rfl ?_
      refine v_lit (flat int [_]) (H' := [_, _, _, _, _, _, _, _, _, _, _, _, _]) lay51 lay2 rfl rfl ⟨by decide, by decide⟩ rfl rfl ?_
      refine v_nil ⟨⟨ag_if rfl (ag_call (cEvS) rfl rfl rfl (.cons vw_v (.cons vw_v .nil))), ⟨ag_load_pt (.c _) lay25 rfl rfl rfl rfl, trivial⟩⟩, ?_⟩
      refine d_e rfl rfl rfl ?_
      refine v_lit (flat int [_]) (H' := [_, _, _, _, _, _, _, _, _, _, _, _, _, _]) lay51 lay2 rfl rfl ⟨by decide, by decide⟩ rfl rfl ?_
      refine v_nil ⟨⟨ag_if rfl (ag_call (cEvS) rfl rfl rfl (.cons vw_v (.cons vw_v .nil))), ⟨ag_load_pt (.c _) lay25 rfl rfl rfl rfl, trivial⟩⟩, ?_⟩
      refine d_q rfl rfl rfl rfl rfl ?_
      refine v_build [(0, 22), (22, 1), (23, 1), (24, 1)] [.v _, .v _, .f _ _, .f _ _, .f _ _, .f _ _, .f _ _, .f _ _, .f _ _, .f _ _, .f _ _, .f _ _, .f _ _, .f _ _, .f _ _, .f _ _, .f _ _, .f _ _, .f _ _, .f _ _, .f _ _, .f _ _, _, _, .v _] lay53 rfl rfl ?_
      refine v_nil ?_
      refine d_e rfl rfl rfl ?_
      refine v_lit ([.v _, .v _, .f _ _, .f _ _, .f _ _, .f _ _, .f _ _, .f _ _, .f _ _, .f _ _, .f _ _, .f _ _, .f _ _, .f _ _, .f _ _, .f _ _, .f _ _, .f _ _, .f _ _, .f _ _, .f _ _, .f _ _, .mu 12 0 _ 1, .mu 13 0 _ 1, .v _]) (H' := [_, _, _, _, _, _, _, _, _, _, _, _, _, _, _]) lay25 lay53 rfl rfl ⟨by decide, by decide⟩ rfl rfl ?_
      refine v_nil ⟨⟨trivial, ⟨ag_load_pt (.c _) lay25 rfl rfl rfl rfl, trivial⟩⟩, ?_⟩
      refine d_e rfl rfl rfl ?_
      refine v_app_any (H' := [_, _, _, _, _, _, _, _, _, _, _, _, _, _, _, _]) lay25 lay53 rfl rfl rfl rfl rfl rfl (by decide) rfl ⟨Nat.le_of_ble_eq_true rfl, Nat.le_of_ble_eq_true rfl⟩ rfl rfl ?_
      refine v_nil ⟨again_nil, ?_⟩
      refine d_q rfl rfl rfl rfl rfl ?_
      refine v_fa_pt (off' := 2) lay28 rfl rfl rfl ?_
      refine v_nil ?_
      refine d_e rfl rfl rfl ?_
      refine v_store (H' := [_, ⟨[_, _, _, _, _, _, _], 28, true⟩, _, _, _, _, _, _, _, _, _, _, _, _, _, _]) lay25 rfl rfl rfl rfl rfl rfl ?_
      refine v_nil ⟨again_nil, ?_⟩
      refine d_nil ?_
      refine q_bn ?_
      refine q_n ?_
      refine w_reg rfl ?_
      refine v_move rfl ?_
      refine v_add lay2 rfl rfl (i64r (by omega)) ?_
      refine v_assign rfl ?_
      refine v_nil ?_
      refine q_n ?_
      refine ⟨_, _, _, ?_, ⟨3, rfl, by omega, rfl, rfl⟩, by omega⟩
      exact turn [some 0, some 1, some 9, some 11, some 4, some 15, some 6, some 7, some 12, some 13] rfl rfl rfl (show TurnO _ _ _ [⟨[.v (.slice none 0 0), .v (.slice none 0 0), .v (.slice none 0 0), .v (.slice none 0 0), .v (.int .i64 0), .f .f32 (some 0), .f .f32 (some 0)], 28, true⟩, ⟨[.mu 2 0 3 19, .mu 3 0 3 1, .mu 5 0 2 25, .mu 4 0 0 3, .v (.int .i64 0), .f .f32 (some 0), .f .f32 (some 0)], 28, true⟩, ⟨flat rdc (List.replicate 3 (lr x)), 41, true⟩, ⟨flat fe (List.replicate 3 (some 0)), 22, true⟩, ⟨[], 74, true⟩, ⟨refsN JN 6 (jl 2), 53, true⟩, ⟨flat int [0], 2, true⟩, ⟨flat int [1], 2, true⟩, ⟨flat int [1], 2, true⟩, ⟨flat int [2], 2, true⟩] from ⟨⟨_, rfl, (show TrC _ _ [.v (.slice none 0 0), .v (.slice none 0 0), .v (.slice none 0 0), .v (.slice none 0 0), .v (.int .i64 0), .f .f32 (some 0), .f .f32 (some 0)] [.v (.slice none 0 0), .v (.slice none 0 0), .v (.slice none 0 0), .v (.slice none 0 0), .v (.int .i64 0), .f .f32 (some 0), .f .f32 (some 0)] from .cons tr_v (.cons tr_v (.cons tr_v (.cons tr_v (.cons tr_v (.cons tr_f (.cons tr_f .nil)))))))⟩, ⟨_, rfl, .cons (tr_mu rfl) (.cons (tr_mu rfl) (.cons (tr_mu rfl) (.cons (tr_mu rfl) (.cons tr_v (.cons tr_f (.cons tr_f .nil))))))⟩, ⟨_, rfl, trc_flat rdc_sc rfl⟩, ⟨_, rfl, trc_flat fe_sc rfl⟩, ⟨_, rfl, .nil⟩, ⟨_, rfl, (show TrC _ _ (refsN JN 6 (jl 1) ++ _) (refsN JN 6 (jl 1) ++ JN.cells 8 (je 1)) from trc_appL (trc_refsN JN_ok (by decide)) (.cons tr_v (.cons tr_v (.cons tr_f (.cons tr_f (.cons tr_f (.cons tr_f (.cons tr_f (.cons tr_f (.cons tr_f (.cons tr_f (.cons tr_f (.cons tr_f (.cons tr_f (.cons tr_f (.cons tr_f (.cons tr_f (.cons tr_f (.cons tr_f (.cons tr_f (.cons tr_f (.cons tr_f (.cons tr_f (.cons (tr_mu rfl) (.cons (tr_mu rfl) (.cons tr_v .nil))))))))))))))))))))))))))⟩, ⟨_, rfl, trc_flat int_sc rfl⟩, ⟨_, rfl, trc_flat int_sc rfl⟩, ⟨_, rfl, trc_flat int_sc rfl⟩, ⟨_, rfl, trc_flat int_sc rfl⟩, trivial⟩) ⟨tr_v, tr_f, tr_pt rfl, tr_pt rfl, tr_v, trivial⟩
    refine d_e rfl rfl rfl ?_
    refine v_lit (flat int [_]) (H' := [_, _, _, _, _, _, _, _, _, _, _, _, _]) lay51 lay2 rfl rfl ⟨by decide, by decide⟩ rfl rfl ?_
    refine v_nil ⟨⟨ag_if rfl (ag_call (cEvS) rfl rfl rfl (.cons vw_v (.cons vw_v .nil))), ⟨ag_load_pt (.c _) lay25 rfl rfl rfl rfl, trivial⟩⟩, ?_⟩
    refine d_e rfl rfl rfl ?_
    refine v_lit (flat int [_]) (H' := [_, _, _, _, _, _, _, _, _, _, _, _, _, _]) lay51 lay2 rfl rfl ⟨by decide, by decide⟩ rfl rfl ?_
    refine v_nil ⟨⟨ag_if rfl (ag_call (cEvS) rfl rfl rfl (.cons vw_v (.cons vw_v .nil))), ⟨ag_load_pt (.c _) lay25 rfl rfl rfl rfl, trivial⟩⟩, ?_⟩
    refine d_q rfl rfl rfl rfl rfl ?_
    refine v_build [(0, 22), (22, 1), (23, 1), (24, 1)] [.v _, .v _, .f _ _, .f _ _, .f _ _, .f _ _, .f _ _, .f _ _, .f _ _, .f _ _, .f _ _, .f _ _, .f _ _, .f _ _, .f _ _, .f _ _, .f _ _, .f _ _, .f _ _, .f _ _, .f _ _, .f _ _, _, _, .v _] lay53 rfl rfl ?_
    refine v_nil ?_
    refine d_e rfl rfl rfl ?_
    refine v_lit ([.v _, .v _, .f _ _, .f _ _, .f _ _, .f _ _, .f _ _, .f _ _, .f _ _, .f _ _, .f _ _, .f _ _, .f _ _, .f _ _, .f _ _, .f _ _, .f _ _, .f _ _, .f _ _, .f _ _, .f _ _, .f _ _, .mu 13 0 _ 1, .mu 12 0 _ 1, .v _]) (H' := [_, _, _, _, _, _, _, _, _, _, _, _, _, _, _]) lay25 lay53 rfl rfl ⟨by decide, by decide⟩ rfl rfl ?_
    refine v_nil ⟨⟨trivial, ⟨ag_load_pt (.c _) lay25 rfl rfl rfl rfl, trivial⟩⟩, ?_⟩
    refine d_e rfl rfl rfl ?_
    refine v_app_any (H' := [_, _, _, _, _, _, _, _, _, _, _, _, _, _, _, _]) lay25 lay53 rfl rfl rfl rfl rfl rfl (by decide) rfl ⟨Nat.le_of_ble_eq_true rfl, Nat.le_of_ble_eq_true rfl⟩ rfl rfl ?_
    refine v_nil ⟨again_nil, ?_⟩
    refine d_q rfl rfl rfl rfl rfl ?_
    refine v_fa_pt (off' := 2) lay28 rfl rfl rfl ?_
    refine v_nil ?_
    refine d_e rfl rfl rfl ?_
    refine v_store (H' := [_, ⟨[_, _, _, _, _, _, _], 28, true⟩, _, _, _, _, _, _, _, _, _, _, _, _, _, _]) lay25 rfl rfl rfl rfl rfl rfl ?_
    refine v_nil ⟨again_nil, ?_⟩
    refine d_nil ?_
    refine q_bn ?_
    refine q_n ?_
    refine w_reg rfl ?_
    refine v_move rfl ?_
    refine v_add lay2 rfl rfl (i64r (by omega)) ?_
    refine v_assign rfl ?_
    refine v_nil ?_
    refine q_n ?_
    refine ⟨_, _, _, ?_, ⟨3, rfl, by omega, rfl, rfl⟩, by omega⟩
    exact turn [some 0, some 1, some 9, some 11, some 4, some 15, some 6, some 7, some 13, some 12] rfl rfl rfl (show TurnO _ _ _ [⟨[.v (.slice none 0 0), .v (.slice none 0 0), .v (.slice none 0 0), .v (.slice none 0 0), .v (.int .i64 0), .f .f32 (some 0), .f .f32 (some 0)], 28, true⟩, ⟨[.mu 2 0 3 19, .mu 3 0 3 1, .mu 5 0 2 25, .mu 4 0 0 3, .v (.int .i64 0), .f .f32 (some 0), .f .f32 (some 0)], 28, true⟩, ⟨flat rdc (List.replicate 3 (lr x)), 41, true⟩, ⟨flat fe (List.replicate 3 (some 0)), 22, true⟩, ⟨[], 74, true⟩, ⟨refsN JN 6 (jl 2), 53, true⟩, ⟨flat int [0], 2, true⟩, ⟨flat int [1], 2, true⟩, ⟨flat int [1], 2, true⟩, ⟨flat int [2], 2, true⟩] from ⟨⟨_, rfl, (show TrC _ _ [.v (.slice none 0 0), .v (.slice none 0 0), .v (.slice none 0 0), .v (.slice none 0 0), .v (.int .i64 0), .f .f32 (some 0), .f .f32 (some 0)] [.v (.slice none 0 0), .v (.slice none 0 0), .v (.slice none 0 0), .v (.slice none 0 0), .v (.int .i64 0), .f .f32 (some 0), .f .f32 (some 0)] from .cons tr_v (.cons tr_v (.cons tr_v (.cons tr_v (.cons tr_v (.cons tr_f (.cons tr_f .nil)))))))⟩, ⟨_, rfl, .cons (tr_mu rfl) (.cons (tr_mu rfl) (.cons (tr_mu rfl) (.cons (tr_mu rfl) (.cons tr_v (.cons tr_f (.cons tr_f .nil))))))⟩, ⟨_, rfl, trc_flat rdc_sc rfl⟩, ⟨_, rfl, trc_flat fe_sc rfl⟩, ⟨_, rfl, .nil⟩, ⟨_, rfl, (show TrC _ _ (refsN JN 6 (jl 1) ++ _) (refsN JN 6 (jl 1) ++ JN.cells 8 (je 1)) from trc_appL (trc_refsN JN_ok (by decide)) (.cons tr_v (.cons tr_v (.cons tr_f (.cons tr_f (.cons tr_f (.cons tr_f (.cons tr_f (.cons tr_f (.cons tr_f (.cons tr_f (.cons tr_f (.cons tr_f (.cons tr_f (.cons tr_f (.cons tr_f (.cons tr_f (.cons tr_f (.cons tr_f (.cons tr_f (.cons tr_f (.cons tr_f (.cons tr_f (.cons (tr_mu rfl) (.cons (tr_mu rfl) (.cons tr_v .nil))))))))))))))))))))))))))⟩, ⟨_, rfl, trc_flat int_sc rfl⟩, ⟨_, rfl, trc_flat int_sc rfl⟩, ⟨_, rfl, trc_flat int_sc rfl⟩, ⟨_, rfl, trc_flat int_sc rfl⟩, trivial⟩) ⟨tr_v, tr_f, tr_pt rfl, tr_pt rfl, tr_v, trivial⟩
  · skip
    obtain rfl : H = [⟨[.v (.slice none 0 0), .v (.slice none 0 0), .v (.slice none 0 0), .v (.slice none 0 0), .v (.int .i64 0), .f .f32 (some 0), .f .f32 (some 0)], 28, true⟩, ⟨[.mu 2 0 3 19, .mu 3 0 3 1, .mu 5 0 2 25, .mu 4 0 0 3, .v (.int .i64 0), .f .f32 (some 0), .f .f32 (some 0)], 28, true⟩, ⟨flat rdc (List.replicate 3 (lr x)), 41, true⟩, ⟨flat fe (List.replicate 3 (some 0)), 22, true⟩, ⟨[], 74, true⟩, ⟨refsN JN 6 (jl 2), 53, true⟩, ⟨flat int [0], 2, true⟩, ⟨flat int [1], 2, true⟩, ⟨flat int [1], 2, true⟩, ⟨flat int [2], 2, true⟩] := hH
    refine w_seq ?_
    refine w_seq ?_
    refine w_reg rfl ?_
    refine v_move rfl ?_
    refine v_move rfl ?_
    refine v_lss lay2 rfl rfl (fun h7 => ?_) (fun h7 => ?_)
    rotate_left
    · have hne : n = 3 := by omega
      subst hne
      refine v_nil ?_
      refine q_n ?_
      refine w_f rfl ?_
      refine w_exit ?_
      refine q_e ?_
      refine q_e ?_
      refine q_hit ?_
      refine q_n ?_
      refine w_seq ?_
      refine w_reg rfl ?_
      refine v_load_pt (.agg [_, _, _, _, _, _, _]) lay28 rfl rfl rfl rfl ?_
      refine v_store (H' := [⟨[_, _, _, _, _, _, _], 28, true⟩, _, _, _, _, _, _, _, _, _]) lay28 rfl rfl rfl rfl rfl rfl ?_
      refine v_nil ?_
      refine q_n ?_
      refine w_ret ?_
      refine r_r rfl ?_
      exact l_ans [some 2, some 3, some 4, some 5, some 6, some 7, some 8, some 9] rfl rfl (show TurnO _ _ _ [⟨flat rdc (List.replicate 3 (lr x)), 41, true⟩, ⟨flat fe (List.replicate 3 (some 0)), 22, true⟩, ⟨[], 74, true⟩, ⟨refsN JN 4 (jl 2), 53, true⟩, ⟨flat int [0], 2, true⟩, ⟨flat int [1], 2, true⟩, ⟨flat int [1], 2, true⟩, ⟨flat int [2], 2, true⟩] from ⟨⟨_, rfl, trc_flat rdc_sc rfl⟩, ⟨_, rfl, trc_flat fe_sc rfl⟩, ⟨_, rfl, .nil⟩, ⟨_, rfl, (show TrC _ _ (refsN JN 6 (jl 2)) (refsN JN 4 (jl 2)) from trc_refsN JN_ok (by decide))⟩, ⟨_, rfl, trc_flat int_sc rfl⟩, ⟨_, rfl, trc_flat int_sc rfl⟩, ⟨_, rfl, trc_flat int_sc rfl⟩, ⟨_, rfl, trc_flat int_sc rfl⟩, trivial⟩) (tr_agg (.cons (tr_mu rfl) (.cons (tr_mu rfl) (.cons (tr_mu rfl) (.cons (tr_mu rfl) (.cons tr_v (.cons tr_f (.cons tr_f .nil))))))))
    refine v_nil ?_
    refine q_n ?_
    refine w_t rfl ?_
    refine w_skip ?_
    refine q_n ?_
    refine w_seq ?_
    refine w_block ?_
    refine w_seq ?_
    refine w_reg rfl ?_
    refine v_fa_pt (off' := 0) lay28 rfl rfl rfl ?_
    refine v_load_pt (.c _) lay23 rfl rfl rfl rfl ?_
    refine v_move rfl ?_
    refine v_build [(0, 16), (16, 1), (17, 1), (18, 1)] [.f _ _, .f _ _, .f _ _, .f _ _, .f _ _, .f _ _, .f _ _, .f _ _, .f _ _, .f _ _, .f _ _, .f _ _, .f _ _, .f _ _, .f _ _, .f _ _, .f _ _, .f _ _, .f _ _] lay41 rfl rfl ?_
    refine v_lit (flat rdc [lr x]) (H' := [_, _, _, _, _, _, _, _, _, _, _]) lay23 lay41 rfl rfl ⟨by decide, by decide⟩ rfl rfl ?_
    refine v_app_flat (H' := [_, _, _, _, _, _, _, _, _, _, _, _]) rdc_sc rdc_len lay23 lay41 rfl rfl (by first | rfl | (simp; done)) rfl rfl (by first | rfl | (simp; done)) rfl rfl (⟨Nat.le_of_ble_eq_true rfl, Nat.le_of_ble_eq_true rfl⟩) rfl rfl ?_
    refine v_fa_pt (off' := 0) lay28 rfl rfl rfl ?_
    refine v_store (H' := [_, ⟨[_, _, _, _, _, _, _], 28, true⟩, _, _, _, _, _, _, _, _, _, _]) lay23 rfl rfl rfl rfl rfl rfl ?_
    refine v_nil ?_
    refine q_n ?_
    refine w_seq ?_
    refine w_reg rfl ?_
    refine v_fa_pt (off' := 1) lay28 rfl rfl rfl ?_
    refine v_load_pt (.c _) lay24 rfl rfl rfl rfl ?_
    refine v_lit (flat fe [some 0]) (H' := [_, _, _, _, _, _, _, _, _, _, _, _, _]) lay24 lay22 rfl rfl ⟨by decide, by decide⟩ rfl rfl ?_
    refine v_app_flat (H' := [_, _, _, _, _, _, _, _, _, _, _, _, _, _]) fe_sc fe_len lay24 lay22 rfl rfl (by first | rfl | (simp; done)) rfl rfl (by first | rfl | (simp; done)) rfl rfl (⟨Nat.le_of_ble_eq_true rfl, Nat.le_of_ble_eq_true rfl⟩) rfl rfl ?_
    refine v_fa_pt (off' := 1) lay28 rfl rfl rfl ?_
    refine v_store (H' := [_, ⟨[_, _, _, _, _, _, _], 28, true⟩, _, _, _, _, _, _, _, _, _, _, _, _]) lay24 rfl rfl rfl rfl rfl rfl ?_
    refine v_nil ?_
    refine q_n ?_
    refine w_seq ?_
    refine w_reg rfl ?_
    refine v_move rfl ?_
    refine v_gtr lay2 rfl rfl (fun h8 => ?_) (fun h8 => ?_)
    rotate_left
    · exact absurd (by decide) h8
    refine v_nil ?_
    refine q_n ?_
    refine w_t rfl ?_
    refine w_draw2 [0, 1, 0, 0, 8, 24, 0, 64, 252, 508, 1023, 2047, 4095] [⟨0, 0, []⟩, ⟨1, 0, []⟩, ⟨2, 0, []⟩, ⟨3, 0, []⟩, ⟨4, 0, []⟩, ⟨6, 0, []⟩] [⟨7, 1, [1, 2]⟩, ⟨8, 0, []⟩, ⟨9, 1, [1]⟩, ⟨10, 1, []⟩, ⟨11, 0, []⟩, ⟨12, 1, []⟩] [⟨5, 1, [1, 2]⟩, ⟨8, 0, []⟩, ⟨9, 1, [1]⟩, ⟨10, 1, []⟩, ⟨11, 0, []⟩, ⟨12, 1, []⟩] ⟨5, 1, [1, 2]⟩ ⟨7, 1, [1, 2]⟩ rfl rfl rfl rfl rfl rfl ?_
    refine d2_q rfl rfl rfl rfl rfl ?_
    refine v_fa_pt (off' := 2) lay28 rfl rfl rfl ?_
    refine v_nil ?_
    refine d2_q rfl rfl rfl rfl rfl ?_
    refine v_load_pt (.c _) lay25 rfl rfl rfl rfl ?_
    refine v_nil ?_
    refine d2_call (cEvS) rfl rfl rfl rfl rfl (.cons vw_v (.cons vw_v .nil)) ?_
    refine d2_q rfl rfl rfl rfl rfl ?_
    refine v_move rfl ?_
    refine v_nil ?_
    refine d2_q rfl rfl rfl rfl rfl ?_
    refine v_sub lay2 rfl rfl (i64r (by omega)) ?_
    refine v_nil ?_
    refine d2_q rfl rfl rfl rfl rfl ?_
    refine v_move rfl ?_
    refine v_nil ?_
    refine d2_nil ?_ ?_
    · refine d_e rfl rfl rfl ?_
      refine v_lit (flat int [_]) (H' := [_, _, _, _, _, _, _, _, _, _, _, _, _, _, _]) lay51 lay2 rfl rfl ⟨by decide, by decide⟩ rfl rfl ?_
      refine v_nil ⟨⟨ag_if rfl (ag_call (cEvS) rfl rfl rfl (.cons vw_v (.cons vw_v .nil))), ⟨ag_load_pt (.c _) lay25 rfl rfl rfl rfl, trivial⟩⟩, ?_⟩
      refine d_e rfl rfl rfl ?_
      refine v_lit (flat int [_]) (H' := [_, _, _, _, _, _, _, _, _, _, _, _, _, _, _, _]) lay51 lay2 rfl rfl ⟨by decide, by decide⟩ rfl rfl ?_
      refine v_nil ⟨⟨ag_if rfl (ag_call (cEvS) rfl rfl rfl (.cons vw_v (.cons vw_v .nil))), ⟨ag_load_pt (.c _) lay25 rfl rfl rfl rfl, trivial⟩⟩, ?_⟩
      refine d_q rfl rfl rfl rfl rfl ?_
      refine v_build [(0, 22), (22, 1), (23, 1), (24, 1)] [.v _, .v _, .f _ _, .f _ _, .f _ _, .f _ _, .f _ _, .f _ _, .f _ _, .f _ _, .f _ _, .f _ _, .f _ _, .f _ _, .f _ _, .f _ _, .f _ _, .f _ _, .f _ _, .f _ _, .f _ _, .f _ _, _, _, .v _] lay53 rfl rfl ?_
      refine v_nil ?_
      refine d_e rfl rfl rfl ?_
      refine v_lit ([.v _, .v _, .f _ _, .f _ _, .f _ _, .f _ _, .f _ _, .f _ _, .f _ _, .f _ _, .f _ _, .f _ _, .f _ _, .f _ _, .f _ _, .f _ _, .f _ _, .f _ _, .f _ _, .f _ _, .f _ _, .f _ _, .mu 14 0 _ 1, .mu 15 0 _ 1, .v _]) (H' := [_, _, _, _, _, _, _, _, _, _, _, _, _, _, _, _, _]) lay25 lay53 rfl rfl ⟨by decide, by decide⟩ rfl rfl ?_
      refine v_nil ⟨⟨trivial, ⟨ag_load_pt (.c _) lay25 rfl rfl rfl rfl, trivial⟩⟩, ?_⟩
      refine d_e rfl rfl rfl ?_
      refine v_app_any (H' := [_, _, _, _, _, _, _, _, _, _, _, _, _, _, _, _, _, _]) lay25 lay53 rfl rfl rfl rfl rfl rfl (by decide) rfl ⟨Nat.le_of_ble_eq_true rfl, Nat.le_of_ble_eq_true rfl⟩ rfl rfl ?_
      refine v_nil ⟨again_nil, ?_⟩
      refine d_q rfl rfl rfl rfl rfl ?_
      refine v_fa_pt (off' := 2) lay28 rfl rfl rfl ?_
      refine v_nil ?_
      refine d_e rfl rfl rfl ?_
      refine v_store (H' := [_, ⟨[_, _, _, _, _, _, _], 28, true⟩, _, _, _, _, _, _, _, _, _, _, _, _, _, _, _, _]) lay25 rfl rfl rfl rfl rfl rfl ?_
      refine v_nil ⟨again_nil, ?_⟩
      refine d_nil ?_
      refine q_bn ?_
      refine q_n ?_
      refine w_reg rfl ?_
      refine v_move rfl ?_
      refine v_add lay2 rfl rfl (i64r (by omega)) ?_
      refine v_assign rfl ?_
      refine v_nil ?_
      refine q_n ?_
      refine ⟨_, _, _, ?_, ⟨4, rfl, by omega, rfl, rfl⟩, by omega⟩
      exact turn [some 0, some 1, some 11, some 13, some 4, some 17, some 6, some 7, some 8, some 9, some 14, some 15] rfl rfl rfl (show TurnO _ _ _ [⟨[.v (.slice none 0 0), .v (.slice none 0 0), .v (.slice none 0 0), .v (.slice none 0 0), .v (.int .i64 0), .f .f32 (some 0), .f .f32 (some 0)], 28, true⟩, ⟨[.mu 2 0 4 19, .mu 3 0 4 1, .mu 5 0 3 25, .mu 4 0 0 3, .v (.int .i64 0), .f .f32 (some 0), .f .f32 (some 0)], 28, true⟩, ⟨flat rdc (List.replicate 4 (lr x)), 41, true⟩, ⟨flat fe (List.replicate 4 (some 0)), 22, true⟩, ⟨[], 74, true⟩, ⟨refsN JN 6 (jl 3), 53, true⟩, ⟨flat int [0], 2, true⟩, ⟨flat int [1], 2, true⟩, ⟨flat int [1], 2, true⟩, ⟨flat int [2], 2, true⟩, ⟨flat int [2], 2, true⟩, ⟨flat int [3], 2, true⟩] from ⟨⟨_, rfl, (show TrC _ _ [.v (.slice none 0 0), .v (.slice none 0 0), .v (.slice none 0 0), .v (.slice none 0 0), .v (.int .i64 0), .f .f32 (some 0), .f .f32 (some 0)] [.v (.slice none 0 0), .v (.slice none 0 0), .v (.slice none 0 0), .v (.slice none 0 0), .v (.int .i64 0), .f .f32 (some 0), .f .f32 (some 0)] from .cons tr_v (.cons tr_v (.cons tr_v (.cons tr_v (.cons tr_v (.cons tr_f (.cons tr_f .nil)))))))⟩, ⟨_, rfl, .cons (tr_mu rfl) (.cons (tr_mu rfl) (.cons (tr_mu rfl) (.cons (tr_mu rfl) (.cons tr_v (.cons tr_f (.cons tr_f .nil))))))⟩, ⟨_, rfl, trc_flat rdc_sc rfl⟩, ⟨_, rfl, trc_flat fe_sc rfl⟩, ⟨_, rfl, .nil⟩, ⟨_, rfl, (show TrC _ _ (refsN JN 6 (jl 2) ++ _) (refsN JN 6 (jl 2) ++ JN.cells 10 (je 2)) from trc_appL (trc_refsN JN_ok (by decide)) (.cons tr_v (.cons tr_v (.cons tr_f (.cons tr_f (.cons tr_f (.cons tr_f (.cons tr_f (.cons tr_f (.cons tr_f (.cons tr_f (.cons tr_f (.cons tr_f (.cons tr_f (.cons tr_f (.cons tr_f (.cons tr_f (.cons tr_f (.cons tr_f (.cons tr_f (.cons tr_f (.cons tr_f (.cons tr_f (.cons (tr_mu rfl) (.cons (tr_mu rfl) (.cons tr_v .nil))))))))))))))))))))))))))⟩, ⟨_, rfl, trc_flat int_sc rfl⟩, ⟨_, rfl, trc_flat int_sc rfl⟩, ⟨_, rfl, trc_flat int_sc rfl⟩, ⟨_, rfl, trc_flat int_sc rfl⟩, ⟨_, rfl, trc_flat int_sc rfl⟩, ⟨_, rfl, trc_flat int_sc rfl⟩, trivial⟩) ⟨tr_v, tr_f, tr_pt rfl, tr_pt rfl, tr_v, trivial⟩
    refine d_e rfl rfl rfl ?_
    refine v_lit (flat int [_]) (H' := [_, _, _, _, _, _, _, _, _, _, _, _, _, _, _]) lay51 lay2 rfl rfl ⟨by decide, by decide⟩ rfl rfl ?_
    refine v_nil ⟨⟨ag_if rfl (ag_call (cEvS) rfl rfl rfl (.cons vw_v (.cons vw_v .nil))), ⟨ag_load_pt (.c _) lay25 rfl rfl rfl rfl, trivial⟩⟩, ?_⟩
    refine d_e rfl rfl rfl ?_
    refine v_lit (flat int [_]) (H' := [_, _, _, _, _, _, _, _, _, _, _, _, _, _, _, _]) lay51 lay2 rfl rfl ⟨by decide, by decide⟩ rfl rfl ?_
    refine v_nil ⟨⟨ag_if rfl (ag_call (cEvS) rfl rfl rfl (.cons vw_v (.cons vw_v .nil))), ⟨ag_load_pt (.c _) lay25 rfl rfl rfl rfl, trivial⟩⟩, ?_⟩
    refine d_q rfl rfl rfl rfl rfl ?_
    refine v_build [(0, 22), (22, 1), (23, 1), (24, 1)] [.v _, .v _, .f _ _, .f _ _, .f _ _, .f _ _, .f _ _, .f _ _, .f _ _, .f _ _, .f _ _, .f _ _, .f _ _, .f _ _, .f _ _, .f _ _, .f _ _, .f _ _, .f _ _, .f _ _, .f _ _, .f _ _, _, _, .v _] lay53 rfl rfl ?_
    refine v_nil ?_
    refine d_e rfl rfl rfl ?_
    refine v_lit ([.v _, .v _, .f _ _, .f _ _, .f _ _, .f _ _, .f _ _, .f _ _, .f _ _, .f _ _, .f _ _, .f _ _, .f _ _, .f _ _, .f _ _, .f _ _, .f _ _, .f _ _, .f _ _, .f _ _, .f _ _, .f _ _, .mu 15 0 _ 1, .mu 14 0 _ 1, .v _]) (H' := [_, _, _, _, _, _, _, _, _, _, _, _, _, _, _, _, _]) lay25 lay53 rfl rfl ⟨by decide, by decide⟩ rfl rfl ?_
    refine v_nil ⟨⟨trivial, ⟨ag_load_pt (.c _) lay25 rfl rfl rfl rfl, trivial⟩⟩, ?_⟩
    refine d_e rfl rfl rfl ?_
    refine v_app_any (H' := [_, _, _, _, _, _, _, _, _, _, _, _, _, _, _, _, _, _]) lay25 lay53 rfl rfl rfl rfl rfl rfl (by decide) rfl ⟨Nat.le_of_ble_eq_true rfl, Nat.le_of_ble_eq_true rfl⟩ rfl rfl ?_
    refine v_nil ⟨again_nil, ?_⟩
    refine d_q rfl rfl rfl rfl rfl ?_
    refine v_fa_pt (off' := 2) lay28 rfl rfl rfl ?_
    refine v_nil ?_
    refine d_e rfl rfl rfl ?_
    refine v_store (H' := [_, ⟨[_, _, _, _, _, _, _], 28, true⟩, _, _, _, _, _, _, _, _, _, _, _, _, _, _, _, _]) lay25 rfl rfl rfl rfl rfl rfl ?_
    refine v_nil ⟨again_nil, ?_⟩
    refine d_nil ?_
    refine q_bn ?_
    refine q_n ?_
    refine w_reg rfl ?_
    refine v_move rfl ?_
    refine v_add lay2 rfl rfl (i64r (by omega)) ?_
    refine v_assign rfl ?_
    refine v_nil ?_
    refine q_n ?_
    refine ⟨_, _, _, ?_, ⟨4, rfl, by omega, rfl, rfl⟩, by omega⟩
    exact turn [some 0, some 1, some 11, some 13, some 4, some 17, some 6, some 7, some 8, some 9, some 15, some 14] rfl rfl rfl (show TurnO _ _ _ [⟨[.v (.slice none 0 0), .v (.slice none 0 0), .v (.slice none 0 0), .v (.slice none 0 0), .v (.int .i64 0), .f .f32 (some 0), .f .f32 (some 0)], 28, true⟩, ⟨[.mu 2 0 4 19, .mu 3 0 4 1, .mu 5 0 3 25, .mu 4 0 0 3, .v (.int .i64 0), .f .f32 (some 0), .f .f32 (some 0)], 28, true⟩, ⟨flat rdc (List.replicate 4 (lr x)), 41, true⟩, ⟨flat fe (List.replicate 4 (some 0)), 22, true⟩, ⟨[], 74, true⟩, ⟨refsN JN 6 (jl 3), 53, true⟩, ⟨flat int [0], 2, true⟩, ⟨flat int [1], 2, true⟩, ⟨flat int [1], 2, true⟩, ⟨flat int [2], 2, true⟩, ⟨flat int [2], 2, true⟩, ⟨flat int [3], 2, true⟩] from ⟨⟨_, rfl, (show TrC _ _ [.v (.slice none 0 0), .v (.slice none 0 0), .v (.slice none 0 0), .v (.slice none 0 0), .v (.int .i64 0), .f .f32 (some 0), .f .f32 (some 0)] [.v (.slice none 0 0), .v (.slice none 0 0), .v (.slice none 0 0), .v (.slice none 0 0), .v (.int .i64 0), .f .f32 (some 0), .f .f32 (some 0)] from .cons tr_v (.cons tr_v (.cons tr_v (.cons tr_v (.cons tr_v (.cons tr_f (.cons tr_f .nil)))))))⟩, ⟨_, rfl, .cons (tr_mu rfl) (.cons (tr_mu rfl) (.cons (tr_mu rfl) (.cons (tr_mu rfl) (.cons tr_v (.cons tr_f (.cons tr_f .nil))))))⟩, ⟨_, rfl, trc_flat rdc_sc rfl⟩, ⟨_, rfl, trc_flat fe_sc rfl⟩, ⟨_, rfl, .nil⟩, ⟨_, rfl, (show TrC _ _ (refsN JN 6 (jl 2) ++ _) (refsN JN 6 (jl 2) ++ JN.cells 10 (je 2)) from trc_appL (trc_refsN JN_ok (by decide)) (.cons tr_v (.cons tr_v (.cons tr_f (.cons tr_f (.cons tr_f (.cons tr_f (.cons tr_f (.cons tr_f (.cons tr_f (.cons tr_f (.cons tr_f (.cons tr_f (.cons tr_f (.cons tr_f (.cons tr_f (.cons tr_f (.cons tr_f (.cons tr_f (.cons tr_f (.cons tr_f (.cons tr_f (.cons tr_f (.cons (tr_mu rfl) (.cons (tr_mu rfl) (.cons tr_v .nil))))))))))))))))))))))))))⟩, ⟨_, rfl, trc_flat int_sc rfl⟩, ⟨_, rfl, trc_flat int_sc rfl⟩, ⟨_, rfl, trc_flat int_sc rfl⟩, ⟨_, rfl, trc_flat int_sc rfl⟩, ⟨_, rfl, trc_flat int_sc rfl⟩, ⟨_, rfl, trc_flat int_sc rfl⟩, trivial⟩) ⟨tr_v, tr_f, tr_pt rfl, tr_pt rfl, tr_v, trivial⟩
  · skip
    obtain rfl : H = [⟨[.v (.slice none 0 0), .v (.slice none 0 0), .v (.slice none 0 0), .v (.slice none 0 0), .v (.int .i64 0), .f .f32 (some 0), .f .f32 (some 0)], 28, true⟩, ⟨[.mu 2 0 4 19, .mu 3 0 4 1, .mu 5 0 3 25, .mu 4 0 0 3, .v (.int .i64 0), .f .f32 (some 0), .f .f32 (some 0)], 28, true⟩, ⟨flat rdc (List.replicate 4 (lr x)), 41, true⟩, ⟨flat fe (List.replicate 4 (some 0)), 22, true⟩, ⟨[], 74, true⟩, ⟨refsN JN 6 (jl 3), 53, true⟩, ⟨flat int [0], 2, true⟩, ⟨flat int [1], 2, true⟩, ⟨flat int [1], 2, true⟩, ⟨flat int [2], 2, true⟩, ⟨flat int [2], 2, true⟩, ⟨flat int [3], 2, true⟩] := hH
    refine w_seq ?_
    refine w_seq ?_
    refine w_reg rfl ?_
    refine v_move rfl ?_
    refine v_move rfl ?_
    refine v_lss lay2 rfl rfl (fun h9 => ?_) (fun h9 => ?_)
    rotate_left
    · have hne : n = 4 := by omega
      subst hne
      refine v_nil ?_
      refine q_n ?_
      refine w_f rfl ?_
      refine w_exit ?_
      refine q_e ?_
      refine q_e ?_
      refine q_hit ?_
      refine q_n ?_
      refine w_seq ?_
      refine w_reg rfl ?_
      refine v_load_pt (.agg [_, _, _, _, _, _, _]) lay28 rfl rfl rfl rfl ?_
      refine v_store (H' := [⟨[_, _, _, _, _, _, _], 28, true⟩, _, _, _, _, _, _, _, _, _, _, _]) lay28 rfl rfl rfl rfl rfl rfl ?_
      refine v_nil ?_
      refine q_n ?_
      refine w_ret ?_
      refine r_r rfl ?_
      exact l_ans [some 2, some 3, some 4, some 5, some 6, some 7, some 8, some 9, some 10, some 11] rfl rfl (show TurnO _ _ _ [⟨flat rdc (List.replicate 4 (lr x)), 41, true⟩, ⟨flat fe (List.replicate 4 (some 0)), 22, true⟩, ⟨[], 74, true⟩, ⟨refsN JN 4 (jl 3), 53, true⟩, ⟨flat int [0], 2, true⟩, ⟨flat int [1], 2, true⟩, ⟨flat int [1], 2, true⟩, ⟨flat int [2], 2, true⟩, ⟨flat int [2], 2, true⟩, ⟨flat int [3], 2, true⟩] from ⟨⟨_, rfl, trc_flat rdc_sc rfl⟩, ⟨_, rfl, trc_flat fe_sc rfl⟩, ⟨_, rfl, .nil⟩, ⟨_, rfl, (show TrC _ _ (refsN JN 6 (jl 3)) (refsN JN 4 (jl 3)) from trc_refsN JN_ok (by decide))⟩, ⟨_, rfl, trc_flat int_sc rfl⟩, ⟨_, rfl, trc_flat int_sc rfl⟩, ⟨_, rfl, trc_flat int_sc rfl⟩, ⟨_, rfl, trc_flat int_sc rfl⟩, ⟨_, rfl, trc_flat int_sc rfl⟩, ⟨_, rfl, trc_flat int_sc rfl⟩, trivial⟩) (tr_agg (.cons (tr_mu rfl) (.cons (tr_mu rfl) (.cons (tr_mu rfl) (.cons (tr_mu rfl) (.cons tr_v (.cons tr_f (.cons tr_f .nil))))))))
    refine v_nil ?_
    refine q_n ?_
    refine w_t rfl ?_
    refine w_skip ?_
    refine q_n ?_
    refine w_seq ?_
    refine w_block ?_
    refine w_seq ?_
    refine w_reg rfl ?_
    refine v_fa_pt (off' := 0) lay28 rfl rfl rfl ?_
    refine v_load_pt (.c _) lay23 rfl rfl rfl rfl ?_
    refine v_move rfl ?_
    refine v_build [(0, 16), (16, 1), (17, 1), (18, 1)] [.f _ _, .f _ _, .f _ _, .f _ _, .f _ _, .f _ _, .f _ _, .f _ _, .f _ _, .f _ _, .f _ _, .f _ _, .f _ _, .f _ _, .f _ _, .f _ _, .f _ _, .f _ _, .f _ _] lay41 rfl rfl ?_
    refine v_lit (flat rdc [lr x]) (H' := [_, _, _, _, _, _, _, _, _, _, _, _, _]) lay23 lay41 rfl rfl ⟨by decide, by decide⟩ rfl rfl ?_
    refine v_app_flat (H' := [_, _, _, _, _, _, _, _, _, _, _, _, _, _]) rdc_sc rdc_len lay23 lay41 rfl rfl (by first | rfl | (simp; done)) rfl rfl (by first | rfl | (simp; done)) rfl rfl (⟨Nat.le_of_ble_eq_true rfl, Nat.le_of_ble_eq_true rfl⟩) rfl rfl ?_
    refine v_fa_pt (off' := 0) lay28 rfl rfl rfl ?_
    refine v_store (H' := [_, ⟨[_, _, _, _, _, _, _], 28, true⟩, _, _, _, _, _, _, _, _, _, _, _, _]) lay23 rfl rfl rfl rfl rfl rfl ?_
    refine v_nil ?_
    refine q_n ?_
    refine w_seq ?_
    refine w_reg rfl ?_
    refine v_fa_pt (off' := 1) lay28 rfl rfl rfl ?_
    refine v_load_pt (.c _) lay24 rfl rfl rfl rfl ?_
    refine v_lit (flat fe [some 0]) (H' := [_, _, _, _, _, _, _, _, _, _, _, _, _, _, _]) lay24 lay22 rfl rfl ⟨by decide, by decide⟩ rfl rfl ?_
    refine v_app_flat (H' := [_, _, _, _, _, _, _, _, _, _, _, _, _, _, _, _]) fe_sc fe_len lay24 lay22 rfl rfl (by first | rfl | (simp; done)) rfl rfl (by first | rfl | (simp; done)) rfl rfl (⟨Nat.le_of_ble_eq_true rfl, Nat.le_of_ble_eq_true rfl⟩) rfl rfl ?_
    refine v_fa_pt (off' := 1) lay28 rfl rfl rfl ?_
    refine v_store (H' := [_, ⟨[_, _, _, _, _, _, _], 28, true⟩, _, _, _, _, _, _, _, _, _, _, _, _, _, _]) lay24 rfl rfl rfl rfl rfl rfl ?_
    refine v_nil ?_
    refine q_n ?_
    refine w_seq ?_
    refine w_reg rfl ?_
    refine v_move rfl ?_
    refine v_gtr lay2 rfl rfl (fun h10 => ?_) (fun h10 => ?_)
    rotate_left
    · exact absurd (by decide) h10
    refine v_nil ?_
    refine q_n ?_
    refine w_t rfl ?_
    refine w_draw2 [0, 1, 0, 0, 8, 24, 0, 64, 252, 508, 1023, 2047, 4095] [⟨0, 0, []⟩, ⟨1, 0, []⟩, ⟨2, 0, []⟩, ⟨3, 0, []⟩, ⟨4, 0, []⟩, ⟨6, 0, []⟩] [⟨7, 1, [1, 2]⟩, ⟨8, 0, []⟩, ⟨9, 1, [1]⟩, ⟨10, 1, []⟩, ⟨11, 0, []⟩, ⟨12, 1, []⟩] [⟨5, 1, [1, 2]⟩, ⟨8, 0, []⟩, ⟨9, 1, [1]⟩, ⟨10, 1, []⟩, ⟨11, 0, []⟩, ⟨12, 1, []⟩] ⟨5, 1, [1, 2]⟩ ⟨7, 1, [1, 2]⟩ rfl rfl rfl rfl rfl rfl ?_
    refine d2_q rfl rfl rfl rfl rfl ?_
    refine v_fa_pt (off' := 2) lay28 rfl rfl rfl ?_
    refine v_nil ?_
    refine d2_q rfl rfl rfl rfl rfl ?_
    refine v_load_pt (.c _) lay25 rfl rfl rfl rfl ?_
    refine v_nil ?_
    refine d2_call (cEvS) rfl rfl rfl rfl rfl (.cons vw_v (.cons vw_v .nil)) ?_
    refine d2_q rfl rfl rfl rfl rfl ?_
    refine v_move rfl ?_
    refine v_nil ?_
    refine d2_q rfl rfl rfl rfl rfl ?_
    refine v_sub lay2 rfl rfl (i64r (by omega)) ?_
    refine v_nil ?_
    refine d2_q rfl rfl rfl rfl rfl ?_
    refine v_move rfl ?_
    refine v_nil ?_
    refine d2_nil ?_ ?_
    · refine d_e rfl rfl rfl ?_
      refine v_lit (flat int [_]) (H' := [_, _, _, _, _, _, _, _, _, _, _, _, _, _, _, _, _]) lay51 lay2 rfl rfl ⟨by decide, by decide⟩ rfl rfl ?_
      refine v_nil ⟨⟨ag_if rfl (ag_call (cEvS) rfl rfl rfl (.cons vw_v (.cons vw_v .nil))), ⟨ag_load_pt (.c _) lay25 rfl rfl rfl rfl, trivial⟩⟩, ?_⟩
      refine d_e rfl rfl rfl ?_
      refine v_lit (flat int [_]) (H' := [_, _, _, _, _, _, _, _, _, _, _, _, _, _, _, _, _, _]) lay51 lay2 rfl rfl ⟨by decide, by decide⟩ rfl rfl ?_
      refine v_nil ⟨⟨ag_if rfl (ag_call (cEvS) rfl rfl rfl (.cons vw_v (.cons vw_v .nil))), ⟨ag_load_pt (.c _) lay25 rfl rfl rfl rfl, trivial⟩⟩, ?_⟩
      refine d_q rfl rfl rfl rfl rfl ?_
      refine v_build [(0, 22), (22, 1), (23, 1), (24, 1)] [.v _, .v _, .f _ _, .f _ _, .f _ _, .f _ _, .f _ _, .f _ _, .f _ _, .f _ _, .f _ _, .f _ _, .f _ _, .f _ _, .f _ _, .f _ _, .f _ _, .f _ _, .f _ _, .f _ _, .f _ _, .f _ _, _, _, .v _] lay53 rfl rfl ?_
      refine v_nil ?_
      refine d_e rfl rfl rfl ?_
      refine v_lit ([.v _, .v _, .f _ _, .f _ _, .f _ _, .f _ _, .f _ _, .f _ _, .f _ _, .f _ _, .f _ _, .f _ _, .f _ _, .f _ _, .f _ _, .f _ _, .f _ _, .f _ _, .f _ _, .f _ _, .f _ _, .f _ _, .mu 16 0 _ 1, .mu 17 0 _ 1, .v _]) (H' := [_, _, _, _, _, _, _, _, _, _, _, _, _, _, _, _, _, _, _]) lay25 lay53 rfl rfl ⟨by decide, by decide⟩ rfl rfl ?_
      refine v_nil ⟨⟨trivial, ⟨ag_load_pt (.c _) lay25 rfl rfl rfl rfl, trivial⟩⟩, ?_⟩
      refine d_e rfl rfl rfl ?_
      refine v_app_any (H' := [_, _, _, _, _, _, _, _, _, _, _, _, _, _, _, _, _, _, _, _]) lay25 lay53 rfl rfl rfl rfl rfl rfl (by decide) rfl ⟨Nat.le_of_ble_eq_true rfl, Nat.le_of_ble_eq_true rfl⟩ rfl rfl ?_
      refine v_nil ⟨again_nil, ?_⟩
      refine d_q rfl rfl rfl rfl rfl ?_
      refine v_fa_pt (off' := 2) lay28 rfl rfl rfl ?_
      refine v_nil ?_
      refine d_e rfl rfl rfl ?_
      refine v_store (H' := [_, ⟨[_, _, _, _, _, _, _], 28, true⟩, _, _, _, _, _, _, _, _, _, _, _, _, _, _, _, _, _, _]) lay25 rfl rfl rfl rfl rfl rfl ?_
      refine v_nil ⟨again_nil, ?_⟩
      refine d_nil ?_
      refine q_bn ?_
      refine q_n ?_
      refine w_reg rfl ?_
      refine v_move rfl ?_
      refine v_add lay2 rfl rfl (i64r (by omega)) ?_
      refine v_assign rfl ?_
      refine v_nil ?_
      refine q_n ?_
      refine ⟨_, _, _, ?_, ⟨5, rfl, by omega, rfl, rfl⟩, by omega⟩
      exact turn [some 0, some 1, some 13, some 15, some 4, some 19, some 6, some 7, some 8, some 9, some 10, some 11, some 16, some 17] rfl rfl rfl (show TurnO _ _ _ [⟨[.v (.slice none 0 0), .v (.slice none 0 0), .v (.slice none 0 0), .v (.slice none 0 0), .v (.int .i64 0), .f .f32 (some 0), .f .f32 (some 0)], 28, true⟩, ⟨[.mu 2 0 5 19, .mu 3 0 5 1, .mu 5 0 4 25, .mu 4 0 0 3, .v (.int .i64 0), .f .f32 (some 0), .f .f32 (some 0)], 28, true⟩, ⟨flat rdc (List.replicate 5 (lr x)), 41, true⟩, ⟨flat fe (List.replicate 5 (some 0)), 22, true⟩, ⟨[], 74, true⟩, ⟨refsN JN 6 (jl 4), 53, true⟩, ⟨flat int [0], 2, true⟩, ⟨flat int [1], 2, true⟩, ⟨flat int [1], 2, true⟩, ⟨flat int [2], 2, true⟩, ⟨flat int [2], 2, true⟩, ⟨flat int [3], 2, true⟩, ⟨flat int [3], 2, true⟩, ⟨flat int [4], 2, true⟩] from ⟨⟨_, rfl, (show TrC _ _ [.v (.slice none 0 0), .v (.slice none 0 0), .v (.slice none 0 0), .v (.slice none 0 0), .v (.int .i64 0), .f .f32 (some 0), .f .f32 (some 0)] [.v (.slice none 0 0), .v (.slice none 0 0), .v (.slice none 0 0), .v (.slice none 0 0), .v (.int .i64 0), .f .f32 (some 0), .f .f32 (some 0)] from .cons tr_v (.cons tr_v (.cons tr_v (.cons tr_v (.cons tr_v (.cons tr_f (.cons tr_f .nil)))))))⟩, ⟨_, rfl, .cons (tr_mu rfl) (.cons (tr_mu rfl) (.cons (tr_mu rfl) (.cons (tr_mu rfl) (.cons tr_v (.cons tr_f (.cons tr_f .nil))))))⟩, ⟨_, rfl, trc_flat rdc_sc rfl⟩, ⟨_, rfl, trc_flat fe_sc rfl⟩, ⟨_, rfl, .nil⟩, ⟨_, rfl, (show TrC _ _ (refsN JN 6 (jl 3) ++ _) (refsN JN 6 (jl 3) ++ JN.cells 12 (je 3)) from trc_appL (trc_refsN JN_ok (by decide)) (.cons tr_v (.cons tr_v (.cons tr_f (.cons tr_f (.cons tr_f (.cons tr_f (.cons tr_f (.cons tr_f (.cons tr_f (.cons tr_f (.cons tr_f (.cons tr_f (.cons tr_f (.cons tr_f (.cons tr_f (.cons tr_f (.cons tr_f (.cons tr_f (.cons tr_f (.cons tr_f (.cons tr_f (.cons tr_f (.cons (tr_mu rfl) (.cons (tr_mu rfl) (.cons tr_v .nil))))))))))))))))))))))))))⟩, ⟨_, rfl, trc_flat int_sc rfl⟩, ⟨_, rfl, trc_flat int_sc rfl⟩, ⟨_, rfl, trc_flat int_sc rfl⟩, ⟨_, rfl, trc_flat int_sc rfl⟩, ⟨_, rfl, trc_flat int_sc rfl⟩, ⟨_, rfl, trc_flat int_sc rfl⟩, ⟨_, rfl, trc_flat int_sc rfl⟩, ⟨_, rfl, trc_flat int_sc rfl⟩, trivial⟩) ⟨tr_v, tr_f, tr_pt rfl, tr_pt rfl, tr_v, trivial⟩
    refine d_e rfl rfl rfl ?_
    refine v_lit (flat int [_]) (H' := [_, _, _, _, _, _, _, _, _, _, _, _, _, _, _, _, _]) lay51 lay2 rfl rfl ⟨by decide, by decide⟩ rfl rfl ?_
    refine v_nil ⟨⟨ag_if rfl (ag_call (cEvS) rfl rfl rfl (.cons vw_v (.cons vw_v .nil))), ⟨ag_load_pt (.c _) lay25 rfl rfl rfl rfl, trivial⟩⟩, ?_⟩
    refine d_e rfl rfl rfl ?_
    refine v_lit (flat int [_]) (H' := [_, _, _, _, _, _, _, _, _, _, _, _, _, _, _, _, _, _]) lay51 lay2 rfl rfl ⟨by decide, by decide⟩ rfl rfl ?_
    refine v_nil ⟨⟨ag_if rfl (ag_call (cEvS) rfl rfl rfl (.cons vw_v (.cons vw_v .nil))), ⟨ag_load_pt (.c _) lay25 rfl rfl rfl rfl, trivial⟩⟩, ?_⟩
    refine d_q rfl rfl rfl rfl rfl ?_
    refine v_build [(0, 22), (22, 1), (23, 1), (24, 1)] [.v _, .v _, .f _ _, .f _ _, .f _ _, .f _ _, .f _ _, .f _ _, .f _ _, .f _ _, .f _ _, .f _ _, .f _ _, .f _ _, .f _ _, .f _ _, .f _ _, .f _ _, .f _ _, .f _ _, .f _ _, .f _ _, _, _, .v _] lay53 rfl rfl ?_
    refine v_nil ?_
    refine d_e rfl rfl rfl ?_
    refine v_lit ([.v _, .v _, .f _ _, .f _ _, .f _ _, .f _ _, .f _ _, .f _ _, .f _ _, .f _ _, .f _ _, .f _ _, .f _ _, .f _ _, .f _ _, .f _ _, .f _ _, .f _ _, .f _ _, .f _ _, .f _ _, .f _ _, .mu 17 0 _ 1, .mu 16 0 _ 1, .v _]) (H' := [_, _, _, _, _, _, _, _, _, _, _, _, _, _, _, _, _, _, _]) lay25 lay53 rfl rfl ⟨by decide, by decide⟩ rfl rfl ?_
    refine v_nil ⟨⟨trivial, ⟨ag_load_pt (.c _) lay25 rfl rfl rfl rfl, trivial⟩⟩, ?_⟩
    refine d_e rfl rfl rfl ?_
    refine v_app_any (H' := [_, _, _, _, _, _, _, _, _, _, _, _, _, _, _, _, _, _, _, _]) lay25 lay53 rfl rfl rfl rfl rfl rfl (by decide) rfl ⟨Nat.le_of_ble_eq_true rfl, Nat.le_of_ble_eq_true rfl⟩ rfl rfl ?_
    refine v_nil ⟨again_nil, ?_⟩
    refine d_q rfl rfl rfl rfl rfl ?_
    refine v_fa_pt (off' := 2) lay28 rfl rfl rfl ?_
    refine v_nil ?_
    refine d_e rfl rfl rfl ?_
    refine v_store (H' := [_, ⟨[_, _, _, _, _, _, _], 28, true⟩, _, _, _, _, _, _, _, _, _, _, _, _, _, _, _, _, _, _]) lay25 rfl rfl rfl rfl rfl rfl ?_
    refine v_nil ⟨again_nil, ?_⟩
    refine d_nil ?_
    refine q_bn ?_
    refine q_n ?_
    refine w_reg rfl ?_
    refine v_move rfl ?_
    refine v_add lay2 rfl rfl (i64r (by omega)) ?_
    refine v_assign rfl ?_
    refine v_nil ?_
    refine q_n ?_
    refine ⟨_, _, _, ?_, ⟨5, rfl, by omega, rfl, rfl⟩, by omega⟩
    exact turn [some 0, some 1, some 13, some 15, some 4, some 19, some 6, some 7, some 8, some 9, some 10, some 11, some 17, some 16] rfl rfl rfl (show TurnO _ _ _ [⟨[.v (.slice none 0 0), .v (.slice none 0 0), .v (.slice none 0 0), .v (.slice none 0 0), .v (.int .i64 0), .f .f32 (some 0), .f .f32 (some 0)], 28, true⟩, ⟨[.mu 2 0 5 19, .mu 3 0 5 1, .mu 5 0 4 25, .mu 4 0 0 3, .v (.int .i64 0), .f .f32 (some 0), .f .f32 (some 0)], 28, true⟩, ⟨flat rdc (List.replicate 5 (lr x)), 41, true⟩, ⟨flat fe (List.replicate 5 (some 0)), 22, true⟩, ⟨[], 74, true⟩, ⟨refsN JN 6 (jl 4), 53, true⟩, ⟨flat int [0], 2, true⟩, ⟨flat int [1], 2, true⟩, ⟨flat int [1], 2, true⟩, ⟨flat int [2], 2, true⟩, ⟨flat int [2], 2, true⟩, ⟨flat int [3], 2, true⟩, ⟨flat int [3], 2, true⟩, ⟨flat int [4], 2, true⟩] from ⟨⟨_, rfl, (show TrC _ _ [.v (.slice none 0 0), .v (.slice none 0 0), .v (.slice none 0 0), .v (.slice none 0 0), .v (.int .i64 0), .f .f32 (some 0), .f .f32 (some 0)] [.v (.slice none 0 0), .v (.slice none 0 0), .v (.slice none 0 0), .v (.slice none 0 0), .v (.int .i64 0), .f .f32 (some 0), .f .f32 (some 0)] from .cons tr_v (.cons tr_v (.cons tr_v (.cons tr_v (.cons tr_v (.cons tr_f (.cons tr_f .nil)))))))⟩, ⟨_, rfl, .cons (tr_mu rfl) (.cons (tr_mu rfl) (.cons (tr_mu rfl) (.cons (tr_mu rfl) (.cons tr_v (.cons tr_f (.cons tr_f .nil))))))⟩, ⟨_, rfl, trc_flat rdc_sc rfl⟩, ⟨_, rfl, trc_flat fe_sc rfl⟩, ⟨_, rfl, .nil⟩, ⟨_, rfl, (show TrC _ _ (refsN JN 6 (jl 3) ++ _) (refsN JN 6 (jl 3) ++ JN.cells 12 (je 3)) from trc_appL (trc_refsN JN_ok (by decide)) (.cons tr_v (.cons tr_v (.cons tr_f (.cons tr_f (.cons tr_f (.cons tr_f (.cons tr_f (.cons tr_f (.cons tr_f (.cons tr_f (.cons tr_f (.cons tr_f (.cons tr_f (.cons tr_f (.cons tr_f (.cons tr_f (.cons tr_f (.cons tr_f (.cons tr_f (.cons tr_f (.cons tr_f (.cons tr_f (.cons (tr_mu rfl) (.cons (tr_mu rfl) (.cons tr_v .nil))))))))))))))))))))))))))⟩, ⟨_, rfl, trc_flat int_sc rfl⟩, ⟨_, rfl, trc_flat int_sc rfl⟩, ⟨_, rfl, trc_flat int_sc rfl⟩, ⟨_, rfl, trc_flat int_sc rfl⟩, ⟨_, rfl, trc_flat int_sc rfl⟩, ⟨_, rfl, trc_flat int_sc rfl⟩, ⟨_, rfl, trc_flat int_sc rfl⟩, ⟨_, rfl, trc_flat int_sc rfl⟩, trivial⟩) ⟨tr_v, tr_f, tr_pt rfl, tr_pt rfl, tr_v, trivial⟩
  · skip
    obtain rfl : H = [⟨[.v (.slice none 0 0), .v (.slice none 0 0), .v (.slice none 0 0), .v (.slice none 0 0), .v (.int .i64 0), .f .f32 (some 0), .f .f32 (some 0)], 28, true⟩, ⟨[.mu 2 0 5 19, .mu 3 0 5 1, .mu 5 0 4 25, .mu 4 0 0 3, .v (.int .i64 0), .f .f32 (some 0), .f .f32 (some 0)], 28, true⟩, ⟨flat rdc (List.replicate 5 (lr x)), 41, true⟩, ⟨flat fe (List.replicate 5 (some 0)), 22, true⟩, ⟨[], 74, true⟩, ⟨refsN JN 6 (jl 4), 53, true⟩, ⟨flat int [0], 2, true⟩, ⟨flat int [1], 2, true⟩, ⟨flat int [1], 2, true⟩, ⟨flat int [2], 2, true⟩, ⟨flat int [2], 2, true⟩, ⟨flat int [3], 2, true⟩, ⟨flat int [3], 2, true⟩, ⟨flat int [4], 2, true⟩] := hH
    refine w_seq ?_
    refine w_seq ?_
    refine w_reg rfl ?_
    refine v_move rfl ?_
    refine v_move rfl ?_
    refine v_lss lay2 rfl rfl (fun h11 => ?_) (fun h11 => ?_)
    · exact absurd h11 (by omega)
    have hne : n = 5 := by omega
    subst hne
    refine v_nil ?_
    refine q_n ?_
    refine w_f rfl ?_
    refine w_exit ?_
    refine q_e ?_
    refine q_e ?_
    refine q_hit ?_
    refine q_n ?_
    refine w_seq ?_
    refine w_reg rfl ?_
    refine v_load_pt (.agg [_, _, _, _, _, _, _]) lay28 rfl rfl rfl rfl ?_
    refine v_store (H' := [⟨[_, _, _, _, _, _, _], 28, true⟩, _, _, _, _, _, _, _, _, _, _, _, _, _]) lay28 rfl rfl rfl rfl rfl rfl ?_
    refine v_nil ?_
    refine q_n ?_
    refine w_ret ?_
    refine r_r rfl ?_
    exact l_ans [some 2, some 3, some 4, some 5, some 6, some 7, some 8, some 9, some 10, some 11, some 12, some 13] rfl rfl (show TurnO _ _ _ [⟨flat rdc (List.replicate 5 (lr x)), 41, true⟩, ⟨flat fe (List.replicate 5 (some 0)), 22, true⟩, ⟨[], 74, true⟩, ⟨refsN JN 4 (jl 4), 53, true⟩, ⟨flat int [0], 2, true⟩, ⟨flat int [1], 2, true⟩, ⟨flat int [1], 2, true⟩, ⟨flat int [2], 2, true⟩, ⟨flat int [2], 2, true⟩, ⟨flat int [3], 2, true⟩, ⟨flat int [3], 2, true⟩, ⟨flat int [4], 2, true⟩] from ⟨⟨_, rfl, trc_flat rdc_sc rfl⟩, ⟨_, rfl, trc_flat fe_sc rfl⟩, ⟨_, rfl, .nil⟩, ⟨_, rfl, (show TrC _ _ (refsN JN 6 (jl 4)) (refsN JN 4 (jl 4)) from trc_refsN JN_ok (by decide))⟩, ⟨_, rfl, trc_flat int_sc rfl⟩, ⟨_, rfl, trc_flat int_sc rfl⟩, ⟨_, rfl, trc_flat int_sc rfl⟩, ⟨_, rfl, trc_flat int_sc rfl⟩, ⟨_, rfl, trc_flat int_sc rfl⟩, ⟨_, rfl, trc_flat int_sc rfl⟩, ⟨_, rfl, trc_flat int_sc rfl⟩, ⟨_, rfl, trc_flat int_sc rfl⟩, trivial⟩) (tr_agg (.cons (tr_mu rfl) (.cons (tr_mu rfl) (.cons (tr_mu rfl) (.cons (tr_mu rfl) (.cons tr_v (.cons tr_f (.cons tr_f .nil))))))))
end Go.VL
namespace Go.VL
open Go.RowKit
set_option maxRecDepth 20000
set_option maxHeartbeats 8000000
/-! The law of towns of roads one behind the other -/
abbrev fts (N n m q : Nat) (tk : Int) (x y : Option Nat) : List C := [.mu (N + 0) 0 n 19, .mu (N + 1) 0 m 1, .mu (N + 3) 0 q 25, .mu (N + 2) 0 0 3, .v (.int .i64 tk), .f .f32 x, .f .f32 y]
theorem town_vwE {H : List Ob} (A B : List Ob) {N : Nat} {rs : List Rd} {os : List (Option Nat)} {js : List Jo} {tk : Int} {x y : Option Nat} {n m q : Nat} (e : H = A ++ (seg N (FT rs os js) ++ B)) (hN : A.length = N) (h1 : n = rs.length) (h2 : m = os.length) (h3 : q = js.length) : VwV H (.agg (fts N n m q tk x y)) (.agg (twf false (rs, os, js, [], tk, x, y))) := by
  subst e h1 h2 h3
  refine vw_agg (.cons (.c (vw_seg hN (c := .mu 0 0 rs.length 19) (dn_flat rdc_sc rdc_len rfl trivial rfl) rfl)) (.cons (.c (vw_seg hN (c := .mu 1 0 os.length 1) (dn_flat fe_sc fe_len rfl trivial rfl) rfl)) (.cons (.c (vw_seg hN (c := .mu 3 0 js.length 25) (ft_dn (fun _ => trivial) rs os js) rfl)) (.cons (.c (vw_seg hN (c := .mu 2 0 0 3) (dn_flatz (xs := []) plc_sc plc_len rfl trivial rfl) rfl)) (.cons vw_v (.cons vw_f (.cons vw_f .nil)))))))
theorem fta_cl (rs : List Rd) (os : List (Option Nat)) (js : List Jo) (tk : Int) (x y : Option Nat) : clV1 (FT rs os js).length (.agg (fta rs.length os.length js.length tk x y)) = true := by
  rw [FT_len]
  simp only [clV1, clC, List.all_cons, List.all_nil, Bool.and_true, Bool.and_eq_true, decide_eq_true_eq]
  omega
abbrev RM (rs : List Rd) : List Rd := (List.range rs.length).map (rmark 1)
abbrev OM (rs : List Rd) (os : List (Option Nat)) : List (Option Nat) := (List.range os.length).map (fmark (1 + 19 * rs.length))
abbrev KM (rs : List Rd) (os : List (Option Nat)) : Int := 1 + 19 * rs.length + os.length
theorem held_marked (rs : List Rd) (os : List (Option Nat)) (js : List Jo) (hr : rs.length ≤ 2 ^ 20) (ho : os.length ≤ 2 ^ 20) (hx : js.length ≤ 2 ^ 20) (hJ : ∀ j ∈ js, j.2.1.length ≤ 2 ^ 20 ∧ j.2.2.1.length ≤ 2 ^ 20) : PureC X 8 [.agg (twf false (RM rs, OM rs os, jmks (KM rs os) js, [], 0, some 0, some 0)), cI 1] (cI (jA (KM rs os) js js.length)) := by
  have l1 : (RM rs).length = rs.length := by simp
  have l2 : (OM rs os).length = os.length := by simp
  have h := cHdT (RM rs) (OM rs os) (jmks (KM rs os) js) js 0 (some 0) (some 0) 1 (by omega) (by omega) hx hJ (by decide) (by simp) (fun i h => rows_at i h) (fun i h => by
    rw [l1]
    exact rows_at i h) (fun i h => by
    rw [l1, l2]
    exact rows_at i h)
  rw [l1, l2] at h
  exact h
theorem fta_eq {n m q : Nat} {rs : List Rd} {os : List (Option Nat)} {js : List Jo} (h1 : rs.length = n) (h2 : os.length = m) (h3 : js.length = q) (tk : Int) (x y : Option Nat) : fta n m q tk x y = fta rs.length os.length js.length tk x y := by rw [h1, h2, h3]
theorem jl_B (q : Nat) : ∀ j ∈ jl q, j.2.1.length ≤ 2 ^ 20 ∧ j.2.2.1.length ≤ 2 ^ 20 := fun j hj => by
  obtain ⟨i, rfl⟩ := jl_mem hj
  exact ⟨Nat.le_of_ble_eq_true rfl, Nat.le_of_ble_eq_true rfl⟩
theorem cLnP (n : Nat) (x : Option Nat) (hn : 1 ≤ n ∧ n ≤ 5) : PureC X 10 [cI n, .c (.f .f32 x)] (.agg (twf true (lineT n x))) := by
  have h := cLnS n x hn
  rw [fta_eq (rs := List.replicate n (lr x)) (os := List.replicate n (some 0)) (js := jl (n - 1)) List.length_replicate List.length_replicate (jl_len _)] at h
  exact h.pure (ft_pure _ _ _ _ _ _)
theorem cLtS1 (n : Nat) (x : Option Nat) (hn : 1 ≤ n ∧ n ≤ 5) (hx : Sg x) (ho : roadOk (lr x)) : PureC X 4 [cI n, .c (.f .f32 x)] (.tup [.agg (twf true (lineT n x)), cI 0]) := by
  refine PureC.of_body (drawD_ok X) (fun _ _ => Go.Proofs.Try.call4 _ _) Go.Proofs.Try.func4 rfl (n := 18) rfl ?_
  refine w_seq ?_
  refine w_reg rfl ?_
  refine v_alloc (m := 0) (H' := [⟨[.v _, .v _, .v _, .v _, .v _, .f _ _, .f _ _], 28, true⟩]) lay28 rfl rfl ?_
  refine v_assign (c := .v (.int .i64 0)) rfl ?_
  refine v_nil ?_
  refine q_n ?_
  refine w_seq ?_
  refine w_seq ?_
  refine w_reg rfl ?_
  refine v_move rfl ?_
  refine v_callb (cIn _ _ _) rfl rfl (.cons vw_v (.cons vw_v (.cons vw_v .nil))) (fun h1 => ?_) (fun h1 => ?_)
  rotate_left
  · exact absurd (by omega) h1
  refine v_not false rfl rfl ?_
  refine v_nil ?_
  refine q_n ?_
  refine w_f rfl ?_
  refine w_skip ?_
  refine q_n ?_
  refine w_seq ?_
  refine w_reg rfl ?_
  refine v_move rfl ?_
  refine v_move rfl ?_
  refine v_call (cLnP n x hn) rfl rfl rfl (.cons vw_v (.cons vw_f .nil)) ?_
  refine v_alloc (m := 1) (H' := [_, ⟨[.v _, .v _, .v _, .v _, .v _, .f _ _, .f _ _], 28, true⟩]) lay28 rfl rfl ?_
  refine v_store (H' := [_, ⟨[_, _, _, _, _, _, _], 28, true⟩]) lay28 rfl rfl rfl rfl rfl rfl ?_
  refine v_nil ?_
  refine q_n ?_
  refine w_seq ?_
  refine w_seq ?_
  refine w_reg rfl ?_
  refine v_callb (cTwS (lineT n x) (lineT_B hn.2 x) (lineT_F hx)) rfl rfl (.cons (vw_pt rfl (.cons (.sl (fun h => by cases h)) (.cons (.sl (fun h => by cases h)) (.cons (.sl (fun h => by cases h)) (.cons (.sl (fun h => by cases h)) (.cons .v (.cons .f (.cons .f .nil)))))))) .nil) (fun h2 => ?_) (fun h2 => ?_)
  rotate_left
  · exact absurd ((line_ok hn x).2 ho) h2
  refine v_not false rfl rfl ?_
  refine v_nil ?_
  refine q_n ?_
  refine w_f rfl ?_
  refine w_skip ?_
  refine q_n ?_
  refine w_seq ?_
  refine w_reg rfl ?_
  refine v_load_pt (.agg [_, _, _, _, _, _, _]) lay28 rfl rfl rfl rfl ?_
  refine v_store (H' := [⟨[_, _, _, _, _, _, _], 28, true⟩, _]) lay28 rfl rfl rfl rfl rfl rfl ?_
  refine v_assign (c := .v (.int .i64 0)) rfl ?_
  refine v_nil ?_
  refine q_n ?_
  refine w_ret ?_
  refine r_r rfl ?_
  exact a_tup (.cons (a_agg (.cons tr_sl (.cons tr_sl (.cons tr_sl (.cons tr_sl (.cons tr_v (.cons tr_f (.cons tr_f .nil)))))))) (.cons tr_v .nil))
theorem cLtSr (a : Int) (x : Option Nat) (hno : ¬ (1 ≤ a ∧ a ≤ 5)) : LiveC X 4 [cI a, .c (.f .f32 x)] (.tup [.agg (fta 0 0 0 0 (some 0) (some 0)), cI 2]) (FT [] [] []) := by
  refine LiveC.of_body (drawD_ok X) (fun _ _ => Go.Proofs.Try.call4 _ _) Go.Proofs.Try.func4 rfl (n := 18) rfl ?_
  refine w_seq ?_
  refine w_reg rfl ?_
  refine v_alloc (m := 0) (H' := [⟨[.v _, .v _, .v _, .v _, .v _, .f _ _, .f _ _], 28, true⟩]) lay28 rfl rfl ?_
  refine v_assign (c := .v (.int .i64 0)) rfl ?_
  refine v_nil ?_
  refine q_n ?_
  refine w_seq ?_
  refine w_seq ?_
  refine w_reg rfl ?_
  refine v_move rfl ?_
  refine v_callb (cIn _ _ _) rfl rfl (.cons vw_v (.cons vw_v (.cons vw_v .nil))) (fun h1 => ?_) (fun h1 => ?_)
  · exact absurd (by omega) hno
  refine v_not true rfl rfl ?_
  refine v_nil ?_
  refine q_n ?_
  refine w_t rfl ?_
  refine w_seq ?_
  refine w_reg rfl ?_
  refine v_build [(0, 1), (1, 1), (2, 1), (3, 1), (4, 1), (5, 1), (6, 1)] [.v _, .v _, .v _, .v _, .v _, .f _ _, .f _ _] lay28 rfl rfl ?_
  refine v_store (H' := [⟨[_, _, _, _, _, _, _], 28, true⟩]) lay28 rfl rfl rfl rfl rfl rfl ?_
  refine v_assign (c := .v (.int .i64 2)) rfl ?_
  refine v_nil ?_
  refine q_n ?_
  refine w_ret (q_r ?_)
  refine r_r rfl ?_
  exact l_ans [none, none, none, none] rfl rfl (show TurnO _ _ _ (FT [] [] []) from ⟨rfl, rfl, rfl, rfl, trivial⟩) (a_tup (.cons (tr_agg (.cons (tr_nil rfl) (.cons (tr_nil rfl) (.cons (tr_nil rfl) (.cons (tr_nil rfl) (.cons tr_v (.cons tr_f (.cons tr_f .nil)))))))) (.cons tr_v .nil)))
theorem cLtSb (n : Nat) (x : Option Nat) (hn : 1 ≤ n ∧ n ≤ 5) (hx : Sg x) (ho : ¬ roadOk (lr x)) : LiveC X 4 [cI n, .c (.f .f32 x)] (.tup [.agg (fta 0 0 0 0 (some 0) (some 0)), cI 2]) (FT [] [] []) := by
  refine LiveC.of_body (drawD_ok X) (fun _ _ => Go.Proofs.Try.call4 _ _) Go.Proofs.Try.func4 rfl (n := 18) rfl ?_
  refine w_seq ?_
  refine w_reg rfl ?_
  refine v_alloc (m := 0) (H' := [⟨[.v _, .v _, .v _, .v _, .v _, .f _ _, .f _ _], 28, true⟩]) lay28 rfl rfl ?_
  refine v_assign (c := .v (.int .i64 0)) rfl ?_
  refine v_nil ?_
  refine q_n ?_
  refine w_seq ?_
  refine w_seq ?_
  refine w_reg rfl ?_
  refine v_move rfl ?_
  refine v_callb (cIn _ _ _) rfl rfl (.cons vw_v (.cons vw_v (.cons vw_v .nil))) (fun h1 => ?_) (fun h1 => ?_)
  rotate_left
  · exact absurd (by omega) h1
  refine v_not false rfl rfl ?_
  refine v_nil ?_
  refine q_n ?_
  refine w_f rfl ?_
  refine w_skip ?_
  refine q_n ?_
  refine w_seq ?_
  refine w_reg rfl ?_
  refine v_move rfl ?_
  refine v_move rfl ?_
  refine v_call (cLnP n x hn) rfl rfl rfl (.cons vw_v (.cons vw_f .nil)) ?_
  refine v_alloc (m := 1) (H' := [_, ⟨[.v _, .v _, .v _, .v _, .v _, .f _ _, .f _ _], 28, true⟩]) lay28 rfl rfl ?_
  refine v_store (H' := [_, ⟨[_, _, _, _, _, _, _], 28, true⟩]) lay28 rfl rfl rfl rfl rfl rfl ?_
  refine v_nil ?_
  refine q_n ?_
  refine w_seq ?_
  refine w_seq ?_
  refine w_reg rfl ?_
  refine v_callb (cTwS (lineT n x) (lineT_B hn.2 x) (lineT_F hx)) rfl rfl (.cons (vw_pt rfl (.cons (.sl (fun h => by cases h)) (.cons (.sl (fun h => by cases h)) (.cons (.sl (fun h => by cases h)) (.cons (.sl (fun h => by cases h)) (.cons .v (.cons .f (.cons .f .nil)))))))) .nil) (fun h2 => ?_) (fun h2 => ?_)
  · exact absurd ((line_ok hn x).1 h2) ho
  refine v_not true rfl rfl ?_
  refine v_nil ?_
  refine q_n ?_
  refine w_t rfl ?_
  refine w_seq ?_
  refine w_reg rfl ?_
  refine v_build [(0, 1), (1, 1), (2, 1), (3, 1), (4, 1), (5, 1), (6, 1)] [.v _, .v _, .v _, .v _, .v _, .f _ _, .f _ _] lay28 rfl rfl ?_
  refine v_store (H' := [⟨[_, _, _, _, _, _, _], 28, true⟩, _]) lay28 rfl rfl rfl rfl rfl rfl ?_
  refine v_assign (c := .v (.int .i64 2)) rfl ?_
  refine v_nil ?_
  refine q_n ?_
  refine w_ret (q_r ?_)
  refine r_r rfl ?_
  exact l_ans [none, none, none, none] rfl rfl (show TurnO _ _ _ (FT [] [] []) from ⟨rfl, rfl, rfl, rfl, trivial⟩) (a_tup (.cons (tr_agg (.cons (tr_nil rfl) (.cons (tr_nil rfl) (.cons (tr_nil rfl) (.cons (tr_nil rfl) (.cons tr_v (.cons tr_f (.cons tr_f .nil)))))))) (.cons tr_v .nil)))
theorem cLnIr (a : Int) (x : Option Nat) (hx : Sg x) (hno : ¬ (1 ≤ a ∧ a ≤ 5)) (ho : roadOk (lr x)) : LiveC X 5 [cI a, .c (.f .f32 x)] (.tup [.agg (fta 0 0 0 0 (some 0) (some 0)), cI 2]) (FT [] [] []) := by
  refine LiveC.of_body (drawD_ok X) (fun _ _ => Go.Proofs.Try.call5 _ _) Go.Proofs.Try.func5 rfl (n := 55) rfl ?_
  refine w_seq ?_
  refine w_reg rfl ?_
  refine v_alloc (m := 0) (H' := [⟨[.v _, .v _, .v _, .v _, .v _, .f _ _, .f _ _], 28, true⟩]) lay28 rfl rfl ?_
  refine v_assign (c := .v (.int .i64 0)) rfl ?_
  refine v_nil ?_
  refine q_n ?_
  refine w_seq ?_
  refine w_reg rfl ?_
  refine v_move rfl ?_
  refine v_call (cMrT _ _ _ (lr_w hx) ho) rfl rfl rfl (.cons vw_f (.cons vw_f (.cons vw_f .nil))) ?_
  refine v_move_t rfl ?_
  refine v_extract_a rfl rfl ?_
  refine v_extract_c rfl rfl ?_
  refine v_alloc (m := 1) (H' := [_, ⟨[.f _ _, .f _ _, .f _ _, .f _ _, .f _ _, .f _ _, .f _ _, .f _ _, .f _ _, .f _ _, .f _ _, .f _ _, .f _ _, .f _ _, .f _ _, .f _ _, .f _ _, .f _ _, .f _ _], 41, true⟩]) lay41 rfl rfl ?_
  refine v_store (H' := [_, ⟨[_, _, _, _, _, _, _, _, _, _, _, _, _, _, _, _, _, _, _], 41, true⟩]) lay41 rfl rfl rfl rfl rfl rfl ?_
  refine v_assign rfl ?_
  refine v_nil ?_
  refine q_n ?_
  refine w_seq ?_
  refine w_seq ?_
  refine w_reg rfl ?_
  refine v_move rfl ?_
  refine v_callb (cInR _ _ _) rfl rfl (.cons vw_v (.cons vw_v (.cons vw_v .nil))) (fun h1 => ?_) (fun h1 => ?_)
  · exact absurd (by omega) hno
  refine v_not true rfl rfl ?_
  refine v_move rfl ?_
  refine v_guard_off rfl rfl rfl ?_
  refine v_guard_off rfl rfl rfl ?_
  refine v_pick_t (v := .v (.bool true)) rfl rfl ?_
  refine v_nil ?_
  refine q_n ?_
  refine w_t rfl ?_
  refine w_seq ?_
  refine w_reg rfl ?_
  refine v_build [(0, 1), (1, 1), (2, 1), (3, 1), (4, 1), (5, 1), (6, 1)] [.v _, .v _, .v _, .v _, .v _, .f _ _, .f _ _] lay28 rfl rfl ?_
  refine v_store (H' := [⟨[_, _, _, _, _, _, _], 28, true⟩, _]) lay28 rfl rfl rfl rfl rfl rfl ?_
  refine v_assign (c := .v (.int .i64 2)) rfl ?_
  refine v_nil ?_
  refine q_n ?_
  refine w_ret (q_r ?_)
  refine r_r rfl ?_
  exact l_ans [none, none, none, none] rfl rfl (show TurnO _ _ _ (FT [] [] []) from ⟨rfl, rfl, rfl, rfl, trivial⟩) (a_tup (.cons (tr_agg (.cons (tr_nil rfl) (.cons (tr_nil rfl) (.cons (tr_nil rfl) (.cons (tr_nil rfl) (.cons tr_v (.cons tr_f (.cons tr_f .nil)))))))) (.cons tr_v .nil)))
theorem cLnIb (a : Int) (x : Option Nat) (hx : Sg x) (ho : ¬ roadOk (lr x)) : LiveC X 5 [cI a, .c (.f .f32 x)] (.tup [.agg (fta 0 0 0 0 (some 0) (some 0)), cI 2]) (FT [] [] []) := by
  refine LiveC.of_body (drawD_ok X) (fun _ _ => Go.Proofs.Try.call5 _ _) Go.Proofs.Try.func5 rfl (n := 55) rfl ?_
  refine w_seq ?_
  refine w_reg rfl ?_
  refine v_alloc (m := 0) (H' := [⟨[.v _, .v _, .v _, .v _, .v _, .f _ _, .f _ _], 28, true⟩]) lay28 rfl rfl ?_
  refine v_assign (c := .v (.int .i64 0)) rfl ?_
  refine v_nil ?_
  refine q_n ?_
  refine w_seq ?_
  refine w_reg rfl ?_
  refine v_move rfl ?_
  refine v_call (cMrF _ _ _ (lr_w hx) ho) rfl rfl rfl (.cons vw_f (.cons vw_f (.cons vw_f .nil))) ?_
  refine v_move_t rfl ?_
  refine v_extract_a rfl rfl ?_
  refine v_extract_c rfl rfl ?_
  refine v_alloc (m := 1) (H' := [_, ⟨[.f _ _, .f _ _, .f _ _, .f _ _, .f _ _, .f _ _, .f _ _, .f _ _, .f _ _, .f _ _, .f _ _, .f _ _, .f _ _, .f _ _, .f _ _, .f _ _, .f _ _, .f _ _, .f _ _], 41, true⟩]) lay41 rfl rfl ?_
  refine v_store (H' := [_, ⟨[_, _, _, _, _, _, _, _, _, _, _, _, _, _, _, _, _, _, _], 41, true⟩]) lay41 rfl rfl rfl rfl rfl rfl ?_
  refine v_assign rfl ?_
  refine v_nil ?_
  refine q_n ?_
  refine w_seq ?_
  refine w_seq ?_
  refine w_reg rfl ?_
  refine v_move rfl ?_
  refine v_callb (cInR _ _ _) rfl rfl (.cons vw_v (.cons vw_v (.cons vw_v .nil))) (fun h1 => ?_) (fun h1 => ?_)
  rotate_left
  · refine v_not true rfl rfl ?_
    refine v_move rfl ?_
    refine v_guard_off rfl rfl rfl ?_
    refine v_guard_off rfl rfl rfl ?_
    refine v_pick_t (v := .v (.bool true)) rfl rfl ?_
    refine v_nil ?_
    refine q_n ?_
    refine w_t rfl ?_
    refine w_seq ?_
    refine w_reg rfl ?_
    refine v_build [(0, 1), (1, 1), (2, 1), (3, 1), (4, 1), (5, 1), (6, 1)] [.v _, .v _, .v _, .v _, .v _, .f _ _, .f _ _] lay28 rfl rfl ?_
    refine v_store (H' := [⟨[_, _, _, _, _, _, _], 28, true⟩, _]) lay28 rfl rfl rfl rfl rfl rfl ?_
    refine v_assign (c := .v (.int .i64 2)) rfl ?_
    refine v_nil ?_
    refine q_n ?_
    refine w_ret (q_r ?_)
    refine r_r rfl ?_
    exact l_ans [none, none, none, none] rfl rfl (show TurnO _ _ _ (FT [] [] []) from ⟨rfl, rfl, rfl, rfl, trivial⟩) (a_tup (.cons (tr_agg (.cons (tr_nil rfl) (.cons (tr_nil rfl) (.cons (tr_nil rfl) (.cons (tr_nil rfl) (.cons tr_v (.cons tr_f (.cons tr_f .nil)))))))) (.cons tr_v .nil)))
  refine v_not false rfl rfl ?_
  refine v_move rfl ?_
  refine v_guard_on rfl rfl ?_
  refine v_move rfl ?_
  refine v_guard_on rfl rfl ?_
  refine v_neq lay2 rfl rfl (fun h2 => ?_) (fun h2 => ?_)
  rotate_left
  · exact absurd h2 (by decide)
  refine v_pick_f rfl rfl ?_
  refine v_nil ?_
  refine q_n ?_
  refine w_t rfl ?_
  refine w_seq ?_
  refine w_reg rfl ?_
  refine v_build [(0, 1), (1, 1), (2, 1), (3, 1), (4, 1), (5, 1), (6, 1)] [.v _, .v _, .v _, .v _, .v _, .f _ _, .f _ _] lay28 rfl rfl ?_
  refine v_store (H' := [⟨[_, _, _, _, _, _, _], 28, true⟩, _]) lay28 rfl rfl rfl rfl rfl rfl ?_
  refine v_assign (c := .v (.int .i64 2)) rfl ?_
  refine v_nil ?_
  refine q_n ?_
  refine w_ret (q_r ?_)
  refine r_r rfl ?_
  exact l_ans [none, none, none, none] rfl rfl (show TurnO _ _ _ (FT [] [] []) from ⟨rfl, rfl, rfl, rfl, trivial⟩) (a_tup (.cons (tr_agg (.cons (tr_nil rfl) (.cons (tr_nil rfl) (.cons (tr_nil rfl) (.cons (tr_nil rfl) (.cons tr_v (.cons tr_f (.cons tr_f .nil)))))))) (.cons tr_v .nil)))
theorem line_ex (a : Int) (x : Option Nat) (hx : Sg x) : ∃ (rs : List Rd) (os : List (Option Nat)) (js : List Jo) (cd : Int), (rs.length ≤ 2 ^ 20 ∧ os.length ≤ 2 ^ 20 ∧ js.length ≤ 2 ^ 20 ∧ ∀ j ∈ js, j.2.1.length ≤ 2 ^ 20 ∧ j.2.2.1.length ≤ 2 ^ 20) ∧ tB (2 ^ 20) (rs, os, js, [], 0, some 0, some 0) ∧ tF (rs, os, js, [], 0, some 0, some 0)
    ∧ LiveC X 5 [cI a, .c (.f .f32 x)] (.tup [.agg (fta rs.length os.length js.length 0 (some 0) (some 0)), cI cd]) (FT rs os js) ∧ PureC X 4 [cI a, .c (.f .f32 x)] (.tup [.agg (twf true (rs, os, js, [], 0, some 0, some 0)), cI cd]) := by
  have hz : ∀ {g : FuncId}, LiveC X g [cI a, .c (.f .f32 x)] (.tup [.agg (fta 0 0 0 0 (some 0) (some 0)), cI 2]) (FT [] [] []) → PureC X g [cI a, .c (.f .f32 x)] (.tup [.agg (twf true ([], [], [], [], 0, some 0, some 0)), cI 2]) := fun h => h.pure (a_tup (.cons (ft_pure [] [] [] 0 (some 0) (some 0)) (.cons tr_v .nil)))
  by_cases hr : 1 ≤ a ∧ a ≤ 5
  · obtain ⟨n, rfl⟩ := Int.eq_ofNat_of_zero_le (show 0 ≤ a by omega)
    have hn : 1 ≤ n ∧ n ≤ 5 := by omega
    by_cases ho : roadOk (lr x)
    · have h := cLnI n x hn hx ho
      rw [fta_eq (rs := List.replicate n (lr x)) (os := List.replicate n (some 0)) (js := jl (n - 1)) List.length_replicate List.length_replicate (jl_len _)] at h
      exact ⟨_, _, _, 0, ⟨(lineT_B hn.2 x).1, (lineT_B hn.2 x).2.1, (lineT_B hn.2 x).2.2.1, jl_B _⟩, lineT_B hn.2 x, lineT_F hx, h, cLtS1 n x hn hx ho⟩
    · exact ⟨[], [], [], 2, ⟨Nat.zero_le _, Nat.zero_le _, Nat.zero_le _, fun j hj => by cases hj⟩, zT_B, zT_F, cLnIb _ x hx ho, hz (cLtSb n x hn hx ho)⟩
  · by_cases ho : roadOk (lr x)
    · exact ⟨[], [], [], 2, ⟨Nat.zero_le _, Nat.zero_le _, Nat.zero_le _, fun j hj => by cases hj⟩, zT_B, zT_F, cLnIr a x hx hr ho, hz (cLtSr a x hr)⟩
    · exact ⟨[], [], [], 2, ⟨Nat.zero_le _, Nat.zero_le _, Nat.zero_le _, fun j hj => by cases hj⟩, zT_B, zT_F, cLnIb a x hx ho, hz (cLtSr a x hr)⟩
theorem cLaw (a : Int) (x : Option Nat) (hx : Sg x) : PureC X 3 [cI a, .c (.f .f32 x)] (cB true) := by
  refine PureC.of_body (drawD_ok X) (fun _ _ => Go.Proofs.Try.call3 _ _) Go.Proofs.Try.func3 rfl (n := 68) rfl ?_
  obtain ⟨rs, os, js, cd, ⟨b1, b2, b3, b4⟩, hB, hF, hLv, hPu⟩ := line_ex a x hx
  have hA1 : ((⟨twf true (rs, os, js, [], 0, some 0, some 0), 28, true⟩ : Ob) :: seg 1 (FT rs os js)).length = 2 * js.length + 5 := by rw [List.length_cons, List.length_map, FT_len]
  have hjl : (jmks (KM rs os) js).length = js.length := by simp
  have hA2 : ((⟨twf true (rs, os, js, [], 0, some 0, some 0), 28, true⟩ : Ob) :: seg 1 (FT (RM rs) (OM rs os) (jmks (KM rs os) js))).length = 2 * js.length + 5 := by rw [List.length_cons, List.length_map, FT_len, hjl]
  have hN2 : (((⟨twf true (rs, os, js, [], 0, some 0, some 0), 28, true⟩ : Ob) :: seg 1 (FT (RM rs) (OM rs os) (jmks (KM rs os) js))) ++ [(⟨fts (1) rs.length os.length js.length 0 (some 0) (some 0), 28, true⟩ : Ob)]).length = 2 * js.length + 6 := by rw [List.length_append, hA2]; rfl
  have hA3 : ((((⟨twf true (rs, os, js, [], 0, some 0, some 0), 28, true⟩ : Ob) :: seg 1 (FT (RM rs) (OM rs os) (jmks (KM rs os) js))) ++ [(⟨fts (1) rs.length os.length js.length 0 (some 0) (some 0), 28, true⟩ : Ob)]) ++ seg (2 * js.length + 6) (FT rs os js)).length = 4 * js.length + 10 := by rw [List.length_append, hN2, List.length_map, FT_len]; omega
  have hb7 : (((((⟨twf true (rs, os, js, [], 0, some 0, some 0), 28, true⟩ : Ob) :: seg 1 (FT (RM rs) (OM rs os) (jmks (KM rs os) js))) ++ [(⟨fts (1) rs.length os.length js.length 0 (some 0) (some 0), 28, true⟩ : Ob)]) ++ seg (2 * js.length + 6) (FT rs os js)) ++ [(⟨fts (2 * js.length + 6) rs.length os.length js.length 0 (some 0) (some 0), 28, true⟩ : Ob)])[2 * js.length + 5 + 0]? = some (⟨fts (1) rs.length os.length js.length 0 (some 0) (some 0), 28, true⟩ : Ob) := by
    rw [List.getElem?_append_left (by omega), List.getElem?_append_left (by omega), List.getElem?_append_right (by omega), hA2]
    simp
  have hjr := jA_rng (a := KM rs os) b4 (i := js.length) (Nat.le_refl _)
  have hkm : 0 ≤ KM rs os := by show 0 ≤ 1 + 19 * (rs.length : Int) + os.length; omega
  refine w_seq ?_
  refine w_reg rfl ?_
  refine v_assign (c := .v (.bool false)) rfl ?_
  refine v_nil ?_
  refine q_n ?_
  refine w_seq ?_
  refine w_reg rfl ?_
  refine v_move rfl ?_
  refine v_move rfl ?_
  refine v_call (hPu) rfl rfl rfl (.cons vw_v (.cons vw_f .nil)) ?_
  refine v_move_t rfl ?_
  refine v_extract_a rfl rfl ?_
  refine v_extract_c rfl rfl ?_
  refine v_alloc (m := 0) (H' := [⟨[.v _, .v _, .v _, .v _, .v _, .f _ _, .f _ _], 28, true⟩]) lay28 rfl rfl ?_
  refine v_store (H' := [⟨[_, _, _, _, _, _, _], 28, true⟩]) lay28 rfl rfl rfl rfl rfl rfl ?_
  refine v_assign rfl ?_
  refine v_nil ?_
  refine q_n ?_
  refine w_seq ?_
  refine w_reg rfl ?_
  refine v_move rfl ?_
  refine v_move rfl ?_
  refine v_live (N := 1) (H' := ((⟨twf true (rs, os, js, [], 0, some 0, some 0), 28, true⟩ : Ob) :: seg 1 (FT rs os js)) ++ []) hLv rfl rfl (FT_ans rs os js) rfl (List.append_nil _).symm rfl rfl (.cons vw_v (.cons vw_f .nil)) ?_
  refine v_move_t rfl ?_
  refine v_extract_a rfl rfl ?_
  refine v_extract_c rfl rfl ?_
  refine p_alloc hA1 (m := 0) (H' := [⟨[.v _, .v _, .v _, .v _, .v _, .f _ _, .f _ _], 28, true⟩]) lay28 rfl rfl ?_
  refine p_store hA1 (H' := [⟨[_, _, _, _, _, _, _], 28, true⟩]) lay28 rfl rfl rfl rfl rfl rfl ?_
  refine v_assign rfl ?_
  refine v_nil ?_
  refine q_n ?_
  refine w_seq ?_
  refine w_seq ?_
  refine w_reg rfl ?_
  refine p_load_pt hA1 (.agg [_, _, _, _, _, _, _]) lay28 rfl rfl rfl rfl ?_
  refine v_load_pt (.agg (twf true (rs, os, js, [], 0, some 0, some 0))) lay28 rfl rfl rfl rfl ?_
  refine v_callb (cEqTown (rs, os, js, [], 0, some 0, some 0) hB hF) rfl rfl (.cons (town_vwE [(⟨twf true (rs, os, js, [], 0, some 0, some 0), 28, true⟩ : Ob)] [(⟨fts (1) rs.length os.length js.length 0 (some 0) (some 0), 28, true⟩ : Ob)] (rs := rs) (os := os) (js := js) rfl rfl rfl rfl rfl) (.cons (vw_agg (.cons vw_sl (.cons vw_sl (.cons vw_sl (.cons vw_sl (.cons vw_v (.cons vw_f (.cons vw_f .nil)))))))) .nil)) (fun h1 => ?_) (fun h1 => ?_)
  rotate_left
  · exact absurd trivial h1
  refine v_not false rfl rfl ?_
  refine v_move rfl ?_
  refine v_guard_on rfl rfl ?_
  refine v_move rfl ?_
  refine v_guard_on rfl rfl ?_
  refine v_move rfl ?_
  refine v_guard_on rfl rfl ?_
  refine v_neq lay2 rfl rfl (fun h2 => ?_) (fun h2 => ?_)
  · exact absurd rfl h2
  refine v_pick_f rfl rfl ?_
  refine v_nil ?_
  refine q_n ?_
  refine w_f rfl ?_
  refine w_skip ?_
  refine q_n ?_
  refine w_seq ?_
  refine w_reg rfl ?_
  refine v_assign (c := .v (.int .i64 1)) rfl ?_
  refine v_nil ?_
  refine q_n ?_
  refine w_seq ?_
  refine w_reg rfl ?_
  refine p_load_pt hA1 (.agg [_, _, _, _, _, _, _]) lay28 rfl rfl rfl rfl ?_
  refine v_move rfl ?_
  refine v_segdet (A := [(⟨twf true (rs, os, js, [], 0, some 0, some 0), 28, true⟩ : Ob)]) (B := [(⟨fts (1) rs.length os.length js.length 0 (some 0) (some 0), 28, true⟩ : Ob)]) (args0 := [.agg (fta rs.length os.length js.length 0 (some 0) (some 0)), cI 1]) (H' := ((⟨twf true (rs, os, js, [], 0, some 0, some 0), 28, true⟩ : Ob) :: seg 1 (FT (RM rs) (OM rs os) (jmks (KM rs os) js))) ++ [(⟨fts (1) rs.length os.length js.length 0 (some 0) (some 0), 28, true⟩ : Ob)]) (cMkT rs os js 0 (some 0) (some 0) 1 b1 b2 b3 b4 (by decide)) rfl rfl (by rw [FT_len, FT_len]; simp) (FT_live rs os js) (FT_cl rs os js (FT_len rs os js).symm) (FT_cl _ _ _ (by rw [FT_len]; simp)) (fun v hv => by
    rcases List.mem_cons.1 hv with rfl | hv
    · exact fta_cl rs os js _ _ _
    · rw [List.mem_singleton] at hv; subst hv; rfl) rfl rfl rfl rfl rfl ?_
  refine v_assign rfl ?_
  refine v_nil ?_
  refine q_n ?_
  refine w_seq ?_
  refine w_reg rfl ?_
  refine v_assign (c := .v (.int .i64 1)) rfl ?_
  refine v_nil ?_
  refine q_n ?_
  refine w_seq ?_
  refine w_reg rfl ?_
  refine p_load_pt hA2 (.agg [_, _, _, _, _, _, _]) lay28 rfl rfl rfl rfl ?_
  refine v_move rfl ?_
  refine v_call (held_marked rs os js b1 b2 b3 b4) rfl rfl rfl (.cons (town_vwE [(⟨twf true (rs, os, js, [], 0, some 0, some 0), 28, true⟩ : Ob)] [(⟨fts (1) rs.length os.length js.length 0 (some 0) (some 0), 28, true⟩ : Ob)] (rs := RM rs) (os := OM rs os) (js := jmks (KM rs os) js) rfl rfl (by simp) (by simp) (by simp)) (.cons vw_v .nil)) ?_
  refine v_assign rfl ?_
  refine v_nil ?_
  refine q_n ?_
  refine w_seq ?_
  refine w_seq ?_
  refine w_reg rfl ?_
  refine v_move rfl ?_
  refine v_lss lay3 rfl rfl (fun h3 => ?_) (fun h3 => ?_)
  · exact absurd h3 (by omega)
  refine v_nil ?_
  refine q_n ?_
  refine w_f rfl ?_
  refine w_skip ?_
  refine q_n ?_
  refine w_seq ?_
  refine w_seq ?_
  refine w_reg rfl ?_
  refine v_move rfl ?_
  refine v_move rfl ?_
  refine v_neq lay3 rfl rfl (fun h4 => ?_) (fun h4 => ?_)
  · exact absurd rfl h4
  refine v_nil ?_
  refine q_n ?_
  refine w_f rfl ?_
  refine w_skip ?_
  refine q_n ?_
  refine w_seq ?_
  refine w_reg rfl ?_
  refine v_move rfl ?_
  refine v_move rfl ?_
  refine v_live (N := 2 * js.length + 6) (H' := ((((⟨twf true (rs, os, js, [], 0, some 0, some 0), 28, true⟩ : Ob) :: seg 1 (FT (RM rs) (OM rs os) (jmks (KM rs os) js))) ++ [(⟨fts (1) rs.length os.length js.length 0 (some 0) (some 0), 28, true⟩ : Ob)]) ++ seg (2 * js.length + 6) (FT rs os js)) ++ []) hLv hN2 rfl (FT_ans rs os js) rfl (List.append_nil _).symm rfl rfl (.cons vw_v (.cons vw_f .nil)) ?_
  refine v_move_t rfl ?_
  refine v_extract_a rfl rfl ?_
  refine v_extract_c rfl rfl ?_
  refine p_alloc hA3 (m := 0) (H' := [⟨[.v _, .v _, .v _, .v _, .v _, .f _ _, .f _ _], 28, true⟩]) lay28 rfl rfl ?_
  refine p_store hA3 (H' := [⟨[_, _, _, _, _, _, _], 28, true⟩]) lay28 rfl rfl rfl rfl rfl rfl ?_
  refine v_assign rfl ?_
  refine v_nil ?_
  refine q_n ?_
  refine w_seq ?_
  refine w_seq ?_
  refine w_reg rfl ?_
  refine p_load_pt hA3 (.agg [_, _, _, _, _, _, _]) lay28 rfl rfl rfl rfl ?_
  refine v_load_pt (.agg (twf true (rs, os, js, [], 0, some 0, some 0))) lay28 rfl rfl rfl rfl ?_
  refine v_callb (cEqTown (rs, os, js, [], 0, some 0, some 0) hB hF) rfl rfl (.cons (town_vwE (((⟨twf true (rs, os, js, [], 0, some 0, some 0), 28, true⟩ : Ob) :: seg 1 (FT (RM rs) (OM rs os) (jmks (KM rs os) js))) ++ [(⟨fts (1) rs.length os.length js.length 0 (some 0) (some 0), 28, true⟩ : Ob)]) [(⟨fts (2 * js.length + 6) rs.length os.length js.length 0 (some 0) (some 0), 28, true⟩ : Ob)] (N := 2 * js.length + 6) (rs := rs) (os := os) (js := js) (List.append_assoc ..) hN2 rfl rfl rfl) (.cons (vw_agg (.cons vw_sl (.cons vw_sl (.cons vw_sl (.cons vw_sl (.cons vw_v (.cons vw_f (.cons vw_f .nil)))))))) .nil)) (fun h5 => ?_) (fun h5 => ?_)
  rotate_left
  · exact absurd trivial h5
  refine v_not false rfl rfl ?_
  refine v_move rfl ?_
  refine v_guard_on rfl rfl ?_
  refine v_move rfl ?_
  refine v_guard_on rfl rfl ?_
  refine v_move rfl ?_
  refine v_guard_on rfl rfl ?_
  refine v_neq lay2 rfl rfl (fun h6 => ?_) (fun h6 => ?_)
  · exact absurd rfl h6
  refine v_pick_f rfl rfl ?_
  refine v_nil ?_
  refine q_n ?_
  refine w_f rfl ?_
  refine w_skip ?_
  refine q_n ?_
  refine w_seq ?_
  refine w_reg rfl ?_
  refine v_assign (c := .v (.int .i64 1)) rfl ?_
  refine v_nil ?_
  refine q_n ?_
  refine w_seq ?_
  refine w_reg rfl ?_
  refine v_load_pt (.agg (fts 1 rs.length os.length js.length 0 (some 0) (some 0))) lay28 rfl hb7 rfl rfl ?_
  refine v_move rfl ?_
  refine v_call (held_marked rs os js b1 b2 b3 b4) rfl rfl rfl (.cons (town_vwE [(⟨twf true (rs, os, js, [], 0, some 0, some 0), 28, true⟩ : Ob)] ([(⟨fts (1) rs.length os.length js.length 0 (some 0) (some 0), 28, true⟩ : Ob)] ++ (seg (2 * js.length + 6) (FT rs os js) ++ [(⟨fts (2 * js.length + 6) rs.length os.length js.length 0 (some 0) (some 0), 28, true⟩ : Ob)])) (rs := RM rs) (os := OM rs os) (js := jmks (KM rs os) js) (by simp only [List.append_assoc, List.cons_append, List.nil_append]; rfl) rfl (by simp) (by simp) (by simp)) (.cons vw_v .nil)) ?_
  refine v_assign rfl ?_
  refine v_nil ?_
  refine q_n ?_
  refine w_seq ?_
  refine w_seq ?_
  refine w_reg rfl ?_
  refine v_move rfl ?_
  refine v_lss lay3 rfl rfl (fun h7 => ?_) (fun h7 => ?_)
  · exact absurd h7 (by omega)
  refine v_nil ?_
  refine q_n ?_
  refine w_f rfl ?_
  refine w_skip ?_
  refine q_n ?_
  refine w_seq ?_
  refine w_seq ?_
  refine w_reg rfl ?_
  refine v_move rfl ?_
  refine v_move rfl ?_
  refine v_neq lay3 rfl rfl (fun h8 => ?_) (fun h8 => ?_)
  · exact absurd rfl h8
  refine v_nil ?_
  refine q_n ?_
  refine w_f rfl ?_
  refine w_skip ?_
  refine q_n ?_
  refine w_seq ?_
  refine w_reg rfl ?_
  refine v_assign (c := .v (.bool true)) rfl ?_
  refine v_nil ?_
  refine q_n ?_
  refine w_ret ?_
  refine r_r rfl ?_
  exact tr_v
end Go.VL
namespace Go.Proofs.Ytblmipdcifaamaa
namespace B0
open Go.RowKit Go.WideShapes Go.ChangeShapes Go.ChangeAt
section
variable {H : Type} {enc : TypeId × Value → H} {P : Program}

theorem post_of_below {f : Func} {s : ChangeSpec} {apart fresh handsOn again : Bool} {W W' : World} {args : Array Value} {v : Value} {ds gs : List (DataW H)} {before pa pv : List MemPlace}
    (hW : DataW.Whole enc P f.params.toList s.vars apart W args.toList ds gs before)
    (hres : ∀ (b : Nat) (sp : Nat → Bool) (hd : Bool), DataW.TrodAll enc P W' b sp hd f.resultTypes.toList (v.resultList f.resultTypes.size) (s.fn H (ds ++ gs)).results [])
    (hargs : ∀ sp : Nat → Bool, (∀ p ∈ before, sp p.block = true) → DataW.TrodAll enc P W' 0 sp true f.params.toList args.toList (s.fn H (ds ++ gs)).args pa)
    (hvars : ∀ sp : Nat → Bool, (∀ p ∈ before, sp p.block = true) → DataW.TrodVars enc P W' sp s.vars (s.fn H (ds ++ gs)).vars pv)
    (hps : before = pa ++ pv) (hb : Below W.heap.size W W')
    (hok : ∀ (j : Nat) (t : TypeId) (r : Value), f.resultTypes[j]? = some t → (v.resultList f.resultTypes.size)[j]? = some r → Value.okWide P W' .any 0 t r) :
    s.post enc P f apart fresh handsOn again W args v W' := by
  have hlt : ∀ p ∈ before, p.block < W.heap.size := fun p hp => hW.lt p hp
  have hold : ∀ p ∈ before, (fun b => decide (b < W.heap.size)) p.block = true := fun p hp => by simpa using hlt p hp
  refine ⟨ds, gs, before, [], pa, pv, hW, hres _ _ _, hargs _ hold, hvars _ hold, World.keptBut_mono (fun p hp => ⟨hp, ?_⟩) (hb.frame (· ∈ before)), fun _ => ?_⟩
  · rw [hps, List.mem_append] at hp
    exact Or.inr hp
  · obtain ⟨_, _, _, _, _, hz, hn⟩ := hW
    refine ⟨hok, _, _, ([] ++ pa) ++ pv, ⟨[] ++ pa, pv, trodAll_append (hargs _ (fun _ _ => rfl)) (hres _ _ _), hvars _ (fun _ _ => rfl), rfl, ?_, ?_⟩, ?_⟩
    · intro b off hp
      have hin : MemPlace.cell b off ∈ before := by rw [hps]; simpa using hp
      rw [hb.frozen (hlt _ hin)]
      exact hz b off hin
    · intro ha
      have := hn ha
      rw [hps] at this
      simpa using this
    · intro p hp _
      rw [hps]
      simpa using hp

theorem trodAll_stays (hl : laidOutB P = true) {W W' : World} {sp' : Nat → Bool} : ∀ {ts : List TypeId} {vs : List Value} {ds : List (DataW H)} {ps : List MemPlace},
    (∀ t ∈ ts, P.readableRec t = true ∧ t < P.types.size) → DataW.TrodAll enc P W 0 (fun _ => true) true ts vs ds ps → (∀ p ∈ ps, W.sameAt W' p) → (∀ p ∈ ps, sp' p.block = true) →
    DataW.TrodAll enc P W' 0 sp' true ts vs ds ps
  | [], vs, ds, ps, _, h, _, _ => by
    obtain ⟨rfl, rfl, rfl⟩ := trodAll_nil h
    exact rfl
  | t :: ts, vs, ds, ps, ht, h, hsame, hsp => by
    obtain ⟨v, vs', d, ds', p, q, rfl, rfl, rfl, h0, h1⟩ := trodAll_cons h
    exact ⟨p, q, Go.WideElems.Trod_stays hl (ht t (by simp)).1 (ht t (by simp)).2 h0 (fun x hx => hsame x (by simp [hx])) (fun x hx => hsp x (by simp [hx])),
      trodAll_stays hl (fun u hu => ht u (by simp [hu])) h1 (fun x hx => hsame x (by simp [hx])) (fun x hx => hsp x (by simp [hx])), rfl⟩

/-- A law: whatever the arguments, the call returns true and turns nothing that was there. -/
theorem lift {C : Checked} {os : Os} {f : FuncId} {fn : Func} {s : ChangeSpec} {conds : List PathCond} {tb : TypeId}
    (own : ownKnob C.prog.godebug = none) (started : os.Started) (noInit : C.prog.inits.idxOf? f = none) (hfn : C.prog.funcs[f]? = some fn)
    (witness : ∃ (w : World) (tape : Tape) (i : Input), w.os = os ∧ (w.forCall tape i).Shaped C.prog ∧ i.vars = [] ∧ Input.okWide C.prog (w.forCall tape i) .any w.heap.size f i ∧
      s.pre6 enc C.prog fn conds false (w.forCall tape i).memory i.args ∧ ({} : Assume).holds C.prog (lone (Frame.enter C.prog f i.args .normal) [] (w.forCall tape i)))
    (hl : laidOutB C.prog = true) (hp : (fn.params.toList.all fun t => C.prog.readableRec t && decide (t < C.prog.types.size)) = true)
    (hv : s.vars = []) (hr : fn.resultTypes = #[tb]) (htb : C.prog.underlying tb = some .bool)
    (hs : ∀ ds : List (DataW H), ds.length = fn.params.toList.length → s.fn H ds = { results := [.lit (.bool true)], args := ds })
    (contract : ∀ (W : World) (base : Nat) (args : Array Value) (ds : List (DataW H)) (p : List MemPlace),
      (∀ (j : Nat) t v, fn.params[j]? = some t → args[j]? = some v → Value.okWide C.prog W .any base t v) →
      DataW.TrodAll enc C.prog W 0 (fun _ => true) true fn.params.toList args.toList ds p →
      Calls C.prog f args W fun e W' => e = .returned (.bool true) ∧ Below W.heap.size W W') :
    ReturnsInHanded {} C os f .any (s.pre6 enc C.prog fn conds false) (s.post enc C.prog fn false true false false) := by
  refine returnsInHanded_of_change own started noInit hfn witness ?_
  intro W base args ds gs before hval hW _ _
  have hW' := hW
  obtain ⟨p, q, hA, hV, rfl, hfz, hnd⟩ := hW
  rw [hv] at hV
  obtain ⟨rfl, rfl⟩ := trodVars_none hV
  have hlen : ∀ {ts : List TypeId} {vs : List Value} {ds : List (DataW H)} {ps : List MemPlace}, DataW.TrodAll enc C.prog W 0 (fun _ => true) true ts vs ds ps → ds.length = ts.length := by
    intro ts
    induction ts with
    | nil => intro vs ds ps h; obtain ⟨rfl, rfl, rfl⟩ := trodAll_nil h; rfl
    | cons t ts ih => intro vs ds ps h; obtain ⟨v, vs', d, ds', p, q, rfl, rfl, rfl, h0, h1⟩ := trodAll_cons h; simp [ih h1]
  have hsd : s.fn H (ds ++ []) = { results := [.lit (.bool true)], args := ds } := by rw [List.append_nil]; exact hs ds (hlen hA)
  have hp' : ∀ t ∈ fn.params.toList, C.prog.readableRec t = true ∧ t < C.prog.types.size := fun t ht => by simpa using List.all_eq_true.1 hp t ht
  refine (contract W base args ds p hval hA).mono fun e W' ⟨he, hb⟩ => ?_
  refine ⟨.bool true, he, post_of_below (pa := p) (pv := []) hW' ?_ ?_ ?_ rfl hb ?_⟩
  · intro b sp hd
    rw [hsd, hr]
    exact trodAll_mk1 ⟨1, by simp [DataW.trod, Value.cells, htb]⟩
  · intro sp hsp
    rw [hsd]
    exact trodAll_stays hl hp' hA (fun x hx => hb.same (hW'.lt x (by simp [hx]))) (fun x hx => hsp x (by simp [hx]))
  · intro sp hsp
    rw [hsd, hv]
    exact rfl
  · exact ok_one hr rfl (okWide_bool_mk htb true)
end
end B0
end Go.Proofs.Ytblmipdcifaamaa
