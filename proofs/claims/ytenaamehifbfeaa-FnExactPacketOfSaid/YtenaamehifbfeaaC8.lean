/- Walks: tallies out of bytes. -/
import Derived.Test.YtenaamehifbfeaaC7
namespace Go.VL
open Go.RowKit
set_option maxRecDepth 20000
set_option maxHeartbeats 4000000
/-- A number out of two bytes. -/
def two (xs : List Int) (j : Nat) : Int := xs.getD j 0 + 256 * xs.getD (j + 1) 0
theorem getD_i {xs : List Int} {i : Nat} (hi : i < xs.length) : xs.getD i 0 = xs[i] := by
  rw [List.getD_eq_getElem?_getD, List.getElem?_eq_getElem hi, Option.getD_some]
theorem two_eq {xs : List Int} {j : Nat} (hb : B8 xs) (hj : j + 1 < xs.length) : bits .or .i64 xs[j] (IntKind.i64.wrap (xs[j + 1] * 2 ^ min (8 : Int).toNat IntKind.i64.bits)) = two xs j := by
  unfold two
  rw [getD_i (by omega), getD_i hj]
  exact or_eq (bytes_in hb _) (bytes_in hb _)
def six (ds : List Int) (i : Nat) : List Int := (ds.drop (3 + 7 * i)).take 6
theorem six_len {ds : List Int} {i : Nat} (hl : 3 + 7 * i + 7 ≤ ds.length) : (six ds i).length = 6 := by unfold six; simp; omega
theorem six_b8 {ds : List Int} (hb : B8 ds) (i : Nat) : B8 (six ds i) := fun x hx => hb x (List.mem_of_mem_drop (List.mem_of_mem_take hx))
theorem b8_app {a : Int} {xs : List Int} (ha : 0 ≤ a ∧ a ≤ 255) (hx : B8 xs) : B8 ([a] ++ xs) := fun x hm => by
  rcases List.mem_append.1 hm with h | h
  · simp at h; subst h; exact ha
  · exact hx x h
/-- The tally that six bytes tell. -/
def tl6 (s : List Int) : Tal := (two s 0, IntKind.i16.wrap (two s 2), IntKind.i16.wrap (two s 4))
def t3 (s : List Int) : List Int := [two s 0, two s 2, two s 4]
/-- Is the check of a tally's bytes right? -/
def rgt (ds : List Int) (i : Nat) : Prop := (ck ([IntKind.u8.wrap i] ++ six ds i)).2 = ds.getD (3 + 7 * i + 6) 0
instance (ds : List Int) (i : Nat) : Decidable (rgt ds i) := by unfold rgt; infer_instance
theorem rgt_iff {ds : List Int} {i q : Nat} (hq : q < ds.length) (e : 3 + 7 * (i : Int) + 6 = q) : rgt ds i ↔ (ck ([IntKind.u8.wrap i] ++ six ds i)).2 = ds[q] := by
  obtain rfl : q = 3 + 7 * i + 6 := by omega
  unfold rgt
  rw [getD_i hq]
theorem t3_step {s : List Int} {j q q' : Nat} (hj : j < 3) (hq : q < s.length) (hq' : q' < s.length) (e : 2 * (j : Int) = q) (e' : 2 * (j : Int) + 1 = q') : ((t3 s).take j ++ List.replicate (3 - j) 0).set j (s[q] + 256 * s[q']) = (t3 s).take (j + 1) ++ List.replicate (3 - (j + 1)) 0 := by
  have h := fill_step (xs := t3 s) (i := j) (a := (0 : Int)) (by simpa [t3] using hj)
  have hv : (t3 s)[j]'(by simpa [t3] using hj) = s[q] + 256 * s[q'] := by
    obtain rfl : q = 2 * j := by omega
    obtain rfl : q' = 2 * j + 1 := by omega
    have h1 : s[2 * j] + 256 * s[2 * j + 1] = two s (2 * j) := by unfold two; rw [getD_i hq, getD_i hq']
    rw [h1]
    match j, hj with
    | 0, _ => rfl
    | 1, _ => rfl
    | 2, _ => rfl
  rw [hv] at h
  exact h
theorem tr_sln {α : Type} {H : List Ob} {g : List (Option Nat)} {enc : α → List C} {b : Bool} {n n' k : Nat} {xs xs' : List α} (hn : n = n') (hx : xs = xs') : TrV H g (.c (.sl b n k (flat enc xs))) (.c (.sl b n' k (flat enc xs'))) := by rw [hn, hx]; exact tr_sl
theorem c116 (xs : List Int) (j : Nat) (hj : j + 1 < xs.length) (hx : xs.length ≤ 2 ^ 40) (hb : B8 xs) : PureC X 116 [cI j, .c (.vw false [bys false xs] 0)] (cI (two xs j)) := by
  refine PureC.of_body (drawD_ok X) (fun _ _ => Go.Proofs.Try.call116 _ _) Go.Proofs.Try.func116 rfl (n := 17) rfl ?_
  refine w_seq ?_
  refine w_reg rfl ?_
  refine v_assign (c := .v (.int .i64 0)) rfl ?_
  refine v_nil ?_
  refine q_n ?_
  refine w_seq ?_
  refine w_draw [0, 0, 3, 7, 15, 0, 0, 64, 224, 480, 992, 2016, 4095, 8191] [⟨0, 0, []⟩, ⟨1, 0, []⟩, ⟨2, 0, []⟩, ⟨3, 0, []⟩, ⟨4, 0, []⟩, ⟨5, 0, []⟩, ⟨6, 0, []⟩, ⟨7, 0, []⟩, ⟨8, 0, []⟩, ⟨9, 0, []⟩, ⟨10, 0, []⟩, ⟨11, 0, []⟩, ⟨12, 0, []⟩, ⟨13, 0, []⟩] rfl rfl ?_
  refine d_q rfl rfl rfl rfl rfl ?_
  refine v_load_vw (.c (_)) lay47 rfl rfl rfl ?_
  refine v_nil ?_
  refine d_q rfl rfl rfl rfl rfl ?_
  refine v_move rfl ?_
  refine v_nil ?_
  refine d_q rfl rfl rfl rfl rfl ?_
  refine v_idx (k := 1) be_len lay47 lay5 rfl rfl rfl (rfl) rfl (by omega) (fun q1 hq1 e1 => ?_)
  obtain rfl : j = q1 := by omega
  refine v_nil ?_
  refine d_q rfl rfl rfl rfl rfl ?_
  refine v_load_vw (.c (.v _)) lay5 rfl rfl rfl ?_
  refine v_nil ?_
  refine d_q rfl rfl rfl rfl rfl ?_
  refine v_conv_ii lay5 lay2 rfl (by first | exact i64r (by have hx1 := bytes_in hb hq1; omega) | exact i64r (by have hx1 := bytes_in hb hq2; omega)) ?_
  refine v_nil ?_
  refine d_q rfl rfl rfl rfl rfl ?_
  refine v_load_vw (.c (_)) lay47 rfl rfl rfl ?_
  refine v_nil ?_
  refine d_q rfl rfl rfl rfl rfl ?_
  refine v_move rfl ?_
  refine v_nil ?_
  refine d_q rfl rfl rfl rfl rfl ?_
  refine v_add lay3 rfl rfl (i64r (by omega)) ?_
  refine v_nil ?_
  refine d_q rfl rfl rfl rfl rfl ?_
  refine v_idx (k := 1) be_len lay47 lay5 rfl rfl rfl (rfl) rfl (by omega) (fun q2 hq2 e2 => ?_)
  obtain rfl : q2 = j + 1 := by omega
  refine v_nil ?_
  refine d_q rfl rfl rfl rfl rfl ?_
  refine v_load_vw (.c (.v _)) lay5 rfl rfl rfl ?_
  refine v_nil ?_
  refine d_q rfl rfl rfl rfl rfl ?_
  refine v_conv_ii lay5 lay2 rfl (by first | exact i64r (by have hx1 := bytes_in hb hq1; omega) | exact i64r (by have hx1 := bytes_in hb hq2; omega)) ?_
  refine v_nil ?_
  refine d_q rfl rfl rfl rfl rfl ?_
  refine v_bin (c := .v (.int .i64 _)) lay2 rfl rfl rfl ?_
  refine v_nil ?_
  refine d_q rfl rfl rfl rfl rfl ?_
  refine v_bin (c := .v (.int .i64 _)) lay2 rfl rfl rfl ?_
  refine v_nil ?_
  refine d_q rfl rfl rfl rfl rfl ?_
  refine v_assign rfl ?_
  refine v_nil ?_
  refine d_nil ?_
  refine q_n ?_
  refine w_ret ?_
  refine r_r rfl ?_
  exact a_i (two_eq hb hj)

theorem c89 (xs : List Int) (hl : 6 ≤ xs.length) (hx : xs.length ≤ 2 ^ 40) (hb : B8 xs) : PureC X 89 [.c (bys false xs)] (.agg (tal (two xs 0) (IntKind.i16.wrap (two xs 2)) (IntKind.i16.wrap (two xs 4)))) := by
  refine PureC.of_body (drawD_ok X) (fun _ _ => Go.Proofs.Try.call89 _ _) Go.Proofs.Try.func89 rfl (n := 14) rfl ?_
  refine w_seq ?_
  refine w_reg rfl ?_
  refine v_box (m := 0) (H' := [_]) lay47 rfl rfl rfl ?_
  refine v_alloc (m := 1) (H' := [_, ⟨[.v _, .v _, .v _], 27, true⟩]) lay27 rfl rfl ?_
  refine v_nil ?_
  refine q_n ?_
  refine w_seq ?_
  refine w_reg rfl ?_
  refine v_fn rfl ?_
  refine v_assign rfl ?_
  refine v_nil ?_
  refine q_n ?_
  refine w_seq ?_
  refine w_reg rfl ?_
  refine v_move rfl ?_
  refine v_call (c116 xs 0 (by omega) hx hb) rfl rfl rfl (.cons vw_v (.cons (vw_pt rfl (.cons (.sl (fun h => by cases h)) .nil)) .nil)) ?_
  refine v_move rfl ?_
  refine v_call (c116 xs 2 (by omega) hx hb) rfl rfl rfl (.cons vw_v (.cons (vw_pt rfl (.cons (.sl (fun h => by cases h)) .nil)) .nil)) ?_
  refine v_conv_iw lay2 lay23 rfl ?_
  refine v_move rfl ?_
  refine v_call (c116 xs 4 (by omega) hx hb) rfl rfl rfl (.cons vw_v (.cons (vw_pt rfl (.cons (.sl (fun h => by cases h)) .nil)) .nil)) ?_
  refine v_conv_iw lay2 lay23 rfl ?_
  refine v_build [(0, 1), (1, 1), (2, 1)] [.v _, .v _, .v _] lay27 rfl rfl ?_
  refine v_store (H' := [_, ⟨[_, _, _], 27, true⟩]) lay27 rfl rfl rfl rfl rfl rfl ?_
  refine v_nil ?_
  refine q_n ?_
  refine w_ret ?_
  refine r_r rfl ?_
  exact a_agg (.cons tr_v (.cons tr_v (.cons tr_v .nil)))

theorem c91n (n : Nat) (xs : List Int) (hn : n = xs.length) (hx : xs.length ≤ 2 ^ 40) (hb : B8 xs) : PureC X 91 [.c (.sl false n 1 (flat be xs))] (.c (.v (.int .u8 (ck xs).2))) := by rw [hn]; exact c91 xs hx hb
theorem c76n (n : Nat) (xs : List Int) (hn : n = xs.length) (hx : xs.length ≤ 2 ^ 40) (hb : B8 xs) : PureC X 76 [.c (.sl false n 1 (flat be xs))] (.c (.v (.int .u8 (ck xs).2))) := by rw [hn]; exact c76 xs hx hb
theorem c89n (n : Nat) (xs : List Int) (hn : n = xs.length) (hl : 6 ≤ xs.length) (hx : xs.length ≤ 2 ^ 40) (hb : B8 xs) : PureC X 89 [.c (.sl false n 1 (flat be xs))] (.agg (tal (two xs 0) (IntKind.i16.wrap (two xs 2)) (IntKind.i16.wrap (two xs 4)))) := by rw [hn]; exact c89 xs hl hx hb
theorem c90n (n : Nat) (xs ys : List Int) (hn : n = ys.length) (hx : B8 xs) (hy : B8 ys) : PureC X 90 [.c (bys false xs), .c (.sl false n 1 (flat be ys))] (cB (decide (xs = ys))) := by rw [hn]; exact c90 xs ys hx hy

theorem c86 (ds : List Int) (i : Nat) (hl : 3 + 7 * i + 7 ≤ ds.length) (hx : ds.length ≤ 2 ^ 40) (hb : B8 ds) : PureC X 86 [.c (bys false ds), cI i] (.tup [.agg (te (tl6 (six ds i))), cB (decide (rgt ds i))]) := by
  refine PureC.of_body (drawD_ok X) (fun _ _ => Go.Proofs.Try.call86 _ _) Go.Proofs.Try.func86 rfl (n := 63) rfl ?_
  refine w_seq ?_
  refine w_reg rfl ?_
  refine v_alloc (m := 0) (H' := [⟨[.v _, .v _, .v _], 27, true⟩]) lay27 rfl rfl ?_
  refine v_assign (c := .v (.bool false)) rfl ?_
  refine v_nil ?_
  refine q_n ?_
  refine w_seq ?_
  refine w_reg rfl ?_
  refine v_move rfl ?_
  refine v_mul lay3 rfl rfl (by first | exact i64r (by omega) | exact i64r (by have hx2 := bytes_in (six_b8 hb i) hq3; omega) | exact i64r (by have hx1 := bytes_in (six_b8 hb i) hq2; have hx2 := bytes_in (six_b8 hb i) hq3; omega)) ?_
  refine v_add lay3 rfl rfl (by first | exact i64r (by omega) | exact i64r (by have hx2 := bytes_in (six_b8 hb i) hq3; omega) | exact i64r (by have hx1 := bytes_in (six_b8 hb i) hq2; have hx2 := bytes_in (six_b8 hb i) hq3; omega)) ?_
  refine v_assign rfl ?_
  refine v_nil ?_
  refine q_n ?_
  refine w_seq ?_
  refine w_reg rfl ?_
  refine v_move rfl ?_
  refine v_move rfl ?_
  refine v_move rfl ?_
  refine v_add lay3 rfl rfl (by first | exact i64r (by omega) | exact i64r (by have hx2 := bytes_in (six_b8 hb i) hq3; omega) | exact i64r (by have hx1 := bytes_in (six_b8 hb i) hq2; have hx2 := bytes_in (six_b8 hb i) hq3; omega)) ?_
  refine v_slice_sl (3 + 7 * i) (3 + 7 * i + 6) be_len lay47 lay5 rfl rfl rfl rfl rfl (by omega) (by omega) (by omega) ?_
  refine v_assign rfl ?_
  refine v_nil ?_
  refine q_n ?_
  refine w_seq ?_
  refine w_reg rfl ?_
  refine v_build_a [.v _, .v _, .v _] lay128 lay2 rfl ?_
  refine v_alloc (m := 1) (H' := [_, ⟨[.v _, .v _, .v _], 128, true⟩]) lay128 rfl rfl ?_
  refine v_store (H' := [_, ⟨[_, _, _], 128, true⟩]) lay128 rfl rfl rfl rfl rfl rfl ?_
  refine v_nil ?_
  refine q_n ?_
  refine w_seq ?_
  refine w_seq ?_
  refine w_reg rfl ?_
  refine v_assign (c := .v (.int .i64 0)) rfl ?_
  refine v_nil ?_
  refine q_n ?_
  refine w_block ?_
  refine w_loop (fun k sl H => ∃ j : Nat, k = 3 - j ∧ j ≤ 3 ∧ sl = sls [(0, .c (bys false ds)), (1, cI i), (4, .c (.pt 0 0)), (6, cI (3 + 7 * (i : Int))), (7, .c (.sl false 6 1 (flat be (six ds i)))), (8, .c (.pt 1 0)), (9, cI j)] ∧ H = [⟨te (0, 0, 0), 27, true⟩, ⟨flat int ((t3 (six ds i)).take j ++ List.replicate (3 - j) 0), 128, true⟩]) ?_ ?_
  · refine ⟨_, _, _, ?_, 0, rfl, Nat.zero_le _, rfl, rfl⟩
    exact turn [some 0, some 1] rfl rfl rfl ⟨⟨_, rfl, .stay (stay_te (0, 0, 0))⟩, ⟨_, rfl, trc_flat int_sc rfl⟩, trivial⟩ ⟨tr_sl, tr_v, tr_pt rfl, tr_v, tr_sln (by omega) (by rw [show 3 + 7 * i + 6 - (3 + 7 * i) = 6 by omega]; rfl), tr_pt rfl, tr_v, trivial⟩
  · rintro k sl H ⟨j, rfl, hj, rfl, rfl⟩
    refine w_seq ?_
    refine w_seq ?_
    refine w_reg rfl ?_
    refine v_move rfl ?_
    refine v_lss lay3 rfl rfl (fun h1 => ?_) (fun h1 => ?_)
    · skip
      refine v_nil ?_
      refine q_n ?_
      refine w_t rfl ?_
      refine w_skip ?_
      refine q_n ?_
      refine w_seq ?_
      refine w_block ?_
      refine w_draw [0, 0, 0, 4, 14, 30, 62, 0, 0, 256, 768, 1920, 3968, 8064, 16256, 32766, 65535, 131071] [⟨0, 0, []⟩, ⟨1, 0, []⟩, ⟨2, 0, []⟩, ⟨3, 0, []⟩, ⟨4, 0, []⟩, ⟨5, 0, []⟩, ⟨6, 0, []⟩, ⟨7, 0, []⟩, ⟨8, 0, []⟩, ⟨9, 0, []⟩, ⟨10, 0, []⟩, ⟨11, 0, []⟩, ⟨12, 0, []⟩, ⟨13, 0, []⟩, ⟨14, 0, []⟩, ⟨15, 0, []⟩, ⟨16, 0, []⟩, ⟨17, 1, []⟩] rfl rfl ?_
      refine d_q rfl rfl rfl rfl rfl ?_
      refine v_move rfl ?_
      refine v_nil ?_
      refine d_q rfl rfl rfl rfl rfl ?_
      refine v_move rfl ?_
      refine v_nil ?_
      refine d_q rfl rfl rfl rfl rfl ?_
      refine v_move rfl ?_
      refine v_nil ?_
      refine d_q rfl rfl rfl rfl rfl ?_
      refine v_mul lay3 rfl rfl (by first | exact i64r (by omega) | exact i64r (by have hx2 := bytes_in (six_b8 hb i) hq3; omega) | exact i64r (by have hx1 := bytes_in (six_b8 hb i) hq2; have hx2 := bytes_in (six_b8 hb i) hq3; omega)) ?_
      refine v_nil ?_
      refine d_q rfl rfl rfl rfl rfl ?_
      refine v_idx (k := 1) be_len lay47 lay5 rfl rfl rfl ((six_len hl).symm) rfl (by rw [six_len hl]; omega) (fun q2 hq2 e2 => ?_)
      refine v_nil ?_
      refine d_q rfl rfl rfl rfl rfl ?_
      refine v_load_vw (.c (.v _)) lay5 rfl rfl rfl ?_
      refine v_nil ?_
      refine d_q rfl rfl rfl rfl rfl ?_
      refine v_conv_ii lay5 lay2 rfl (i64r (by first | (have hx2 := bytes_in (six_b8 hb i) hq3; omega) | (have hx1 := bytes_in (six_b8 hb i) hq2; omega))) ?_
      refine v_nil ?_
      refine d_q rfl rfl rfl rfl rfl ?_
      refine v_move rfl ?_
      refine v_nil ?_
      refine d_q rfl rfl rfl rfl rfl ?_
      refine v_move rfl ?_
      refine v_nil ?_
      refine d_q rfl rfl rfl rfl rfl ?_
      refine v_mul lay3 rfl rfl (by first | exact i64r (by omega) | exact i64r (by have hx2 := bytes_in (six_b8 hb i) hq3; omega) | exact i64r (by have hx1 := bytes_in (six_b8 hb i) hq2; have hx2 := bytes_in (six_b8 hb i) hq3; omega)) ?_
      refine v_nil ?_
      refine d_q rfl rfl rfl rfl rfl ?_
      refine v_add lay3 rfl rfl (by first | exact i64r (by omega) | exact i64r (by have hx2 := bytes_in (six_b8 hb i) hq3; omega) | exact i64r (by have hx1 := bytes_in (six_b8 hb i) hq2; have hx2 := bytes_in (six_b8 hb i) hq3; omega)) ?_
      refine v_nil ?_
      refine d_q rfl rfl rfl rfl rfl ?_
      refine v_idx (k := 1) be_len lay47 lay5 rfl rfl rfl ((six_len hl).symm) rfl (by rw [six_len hl]; omega) (fun q3 hq3 e3 => ?_)
      refine v_nil ?_
      refine d_q rfl rfl rfl rfl rfl ?_
      refine v_load_vw (.c (.v _)) lay5 rfl rfl rfl ?_
      refine v_nil ?_
      refine d_q rfl rfl rfl rfl rfl ?_
      refine v_conv_ii lay5 lay2 rfl (i64r (by first | (have hx2 := bytes_in (six_b8 hb i) hq3; omega) | (have hx1 := bytes_in (six_b8 hb i) hq2; omega))) ?_
      refine v_nil ?_
      refine d_q rfl rfl rfl rfl rfl ?_
      refine v_mul lay2 rfl rfl (by first | exact i64r (by omega) | exact i64r (by have hx2 := bytes_in (six_b8 hb i) hq3; omega) | exact i64r (by have hx1 := bytes_in (six_b8 hb i) hq2; have hx2 := bytes_in (six_b8 hb i) hq3; omega)) ?_
      refine v_nil ?_
      refine d_q rfl rfl rfl rfl rfl ?_
      refine v_add lay2 rfl rfl (by first | exact i64r (by omega) | exact i64r (by have hx2 := bytes_in (six_b8 hb i) hq3; omega) | exact i64r (by have hx1 := bytes_in (six_b8 hb i) hq2; have hx2 := bytes_in (six_b8 hb i) hq3; omega)) ?_
      refine v_nil ?_
      refine d_q rfl rfl rfl rfl rfl ?_
      refine v_idx_arr (k := 1) lay128 lay2 rfl rfl rfl (by omega) (fun q4 hq4 e4 => ?_)
      obtain rfl : j = q4 := by omega
      refine v_nil ?_
      refine d_e rfl rfl rfl ?_
      refine v_store_flat (H' := [_, _]) j 0 (_) int_len lay2 rfl rfl rfl (by omega) (by simp [t3]; try omega) rfl rfl (rfl) rfl ?_
      refine v_nil ⟨again_nil, ?_⟩
      refine d_nil ?_
      refine q_bn ?_
      refine q_n ?_
      refine w_reg rfl ?_
      refine v_move rfl ?_
      refine v_add lay3 rfl rfl (by first | exact i64r (by omega) | exact i64r (by have hx2 := bytes_in (six_b8 hb i) hq3; omega) | exact i64r (by have hx1 := bytes_in (six_b8 hb i) hq2; have hx2 := bytes_in (six_b8 hb i) hq3; omega)) ?_
      refine v_assign rfl ?_
      refine v_nil ?_
      refine q_n ?_
      refine ⟨_, _, _, ?_, ⟨j + 1, rfl, by omega, rfl, rfl⟩, by omega⟩
      exact turn [some 0, some 1] rfl rfl rfl ⟨⟨_, rfl, .stay (stay_te (0, 0, 0))⟩, ⟨_, rfl, trc_flat int_sc (congrArg (flat int) (t3_step (by omega) hq2 hq3 e2 e3))⟩, trivial⟩ ⟨tr_sl, tr_v, tr_pt rfl, tr_v, tr_sl, tr_pt rfl, tr_v, trivial⟩
    · skip
      obtain rfl : j = 3 := by omega
      refine v_nil ?_
      refine q_n ?_
      refine w_f rfl ?_
      refine w_exit ?_
      refine q_e ?_
      refine q_e ?_
      refine q_hit ?_
      refine q_n ?_
      refine w_seq ?_
      refine w_reg rfl ?_
      refine v_idx_arr (k := 1) lay128 lay2 rfl rfl rfl (by omega) (fun q5 hq5 e5 => ?_)
      obtain rfl : q5 = 0 := by omega
      refine v_load_flat 0 0 (.c (.v _)) int_len lay2 rfl rfl (by omega) (by simp [t3]; try omega) rfl rfl ?_
      refine v_idx_arr (k := 1) lay128 lay2 rfl rfl rfl (by omega) (fun q6 hq6 e6 => ?_)
      obtain rfl : q6 = 1 := by omega
      refine v_load_flat 1 0 (.c (.v _)) int_len lay2 rfl rfl (by omega) (by simp [t3]; try omega) rfl rfl ?_
      refine v_conv_iw lay2 lay23 rfl ?_
      refine v_idx_arr (k := 1) lay128 lay2 rfl rfl rfl (by omega) (fun q7 hq7 e7 => ?_)
      obtain rfl : q7 = 2 := by omega
      refine v_load_flat 2 0 (.c (.v _)) int_len lay2 rfl rfl (by omega) (by simp [t3]; try omega) rfl rfl ?_
      refine v_conv_iw lay2 lay23 rfl ?_
      refine v_build [(0, 1), (1, 1), (2, 1)] [.v _, .v _, .v _] lay27 rfl rfl ?_
      refine v_alloc (m := 2) (H' := [_, _, ⟨[.v _, .v _, .v _], 27, true⟩]) lay27 rfl rfl ?_
      refine v_store (H' := [_, _, ⟨[_, _, _], 27, true⟩]) lay27 rfl rfl rfl rfl rfl rfl ?_
      refine v_nil ?_
      refine q_n ?_
      refine w_seq ?_
      refine w_draw [0, 0, 2, 6, 0, 30, 62, 0, 0, 256, 896, 1920, 4094, 127, 16383] [⟨0, 0, []⟩, ⟨1, 0, []⟩, ⟨2, 0, []⟩, ⟨4, 0, []⟩, ⟨7, 0, []⟩, ⟨8, 0, []⟩, ⟨9, 0, []⟩, ⟨10, 0, []⟩, ⟨11, 0, []⟩, ⟨3, 1, [0, 11]⟩, ⟨5, 1, [0, 11]⟩, ⟨6, 0, []⟩, ⟨12, 0, []⟩, ⟨13, 1, [11]⟩, ⟨14, 0, []⟩] rfl rfl ?_
      refine d_q rfl rfl rfl rfl rfl ?_
      refine v_load_pt (.agg [_, _, _]) lay27 rfl rfl rfl rfl ?_
      refine v_nil ?_
      refine d_q rfl rfl rfl rfl rfl ?_
      refine v_move rfl ?_
      refine v_nil ?_
      refine d_q rfl rfl rfl rfl rfl ?_
      refine v_conv_iw lay3 lay5 rfl ?_
      refine v_nil ?_
      refine d_q rfl rfl rfl rfl rfl ?_
      refine v_move rfl ?_
      refine v_nil ?_
      refine d_q rfl rfl rfl rfl rfl ?_
      refine v_move rfl ?_
      refine v_nil ?_
      refine d_q rfl rfl rfl rfl rfl ?_
      refine v_move rfl ?_
      refine v_nil ?_
      refine d_q rfl rfl rfl rfl rfl ?_
      refine v_add lay3 rfl rfl (by first | exact i64r (by omega) | exact i64r (by have hx2 := bytes_in (six_b8 hb i) hq3; omega) | exact i64r (by have hx1 := bytes_in (six_b8 hb i) hq2; have hx2 := bytes_in (six_b8 hb i) hq3; omega)) ?_
      refine v_nil ?_
      refine d_q rfl rfl rfl rfl rfl ?_
      refine v_idx (k := 1) be_len lay47 lay5 rfl rfl rfl (rfl) rfl (by omega) (fun q8 hq8 e8 => ?_)
      refine v_nil ?_
      refine d_q rfl rfl rfl rfl rfl ?_
      refine v_load_vw (.c (.v _)) lay5 rfl rfl rfl ?_
      refine v_nil ?_
      refine d_e rfl rfl rfl ?_
      refine v_lit (flat be [_]) (H' := [_, _, _, _]) lay47 lay5 rfl rfl ⟨by decide, by decide⟩ rfl rfl ?_
      refine v_nil ⟨⟨rfl, ⟨rfl, trivial⟩⟩, ?_⟩
      refine d_e rfl rfl rfl ?_
      refine v_app_flat_sl (H' := [_, _, _, _, _]) be_sc be_len lay47 lay5 rfl rfl (by simp) rfl rfl rfl (by simp [maxLen]) rfl rfl ?_
      refine v_nil ⟨⟨rfl, ⟨rfl, trivial⟩⟩, ?_⟩
      refine d_call (c91n _ _ (by rw [List.length_append, six_len hl]; rfl) (by rw [List.length_append, six_len hl]; simp) (b8_app (w8_in _) (six_b8 hb i))) rfl rfl rfl rfl rfl (.cons (vw_mu2 be_sc be_len rfl (by rw [List.length_append, six_len hl]; rfl)) .nil) ?_
      refine d_q rfl rfl rfl rfl rfl ?_
      refine v_eql lay5 rfl rfl (fun h9 => ?_) (fun h9 => ?_)
      · skip
        refine v_nil ?_
        refine d_e rfl rfl rfl ?_
        refine v_store (H' := [⟨[_, _, _], 27, true⟩, _, _, _, _]) lay27 rfl rfl rfl rfl rfl rfl ?_
        refine v_nil ⟨⟨trivial, ⟨rfl, ⟨trivial, trivial⟩⟩⟩, ?_⟩
        refine d_q rfl rfl rfl rfl rfl ?_
        refine v_assign rfl ?_
        refine v_nil ?_
        refine d_nil ?_
        refine q_n ?_
        refine w_ret ?_
        refine r_r rfl ?_
        exact a_tup (.cons (a_agg (.cons tr_v (.cons tr_v (.cons tr_v .nil)))) (.cons (a_b ⟨fun _ => (rgt_iff hq8 e8).2 h9, fun _ => rfl⟩) .nil))
      · skip
        refine v_nil ?_
        refine d_e rfl rfl rfl ?_
        refine v_store (H' := [⟨[_, _, _], 27, true⟩, _, _, _, _]) lay27 rfl rfl rfl rfl rfl rfl ?_
        refine v_nil ⟨⟨trivial, ⟨rfl, ⟨trivial, trivial⟩⟩⟩, ?_⟩
        refine d_q rfl rfl rfl rfl rfl ?_
        refine v_assign rfl ?_
        refine v_nil ?_
        refine d_nil ?_
        refine q_n ?_
        refine w_ret ?_
        refine r_r rfl ?_
        exact a_tup (.cons (a_agg (.cons tr_v (.cons tr_v (.cons tr_v .nil)))) (.cons (a_b ⟨fun h => (by cases h), fun h => absurd ((rgt_iff hq8 e8).1 h) h9⟩) .nil))
end Go.VL
