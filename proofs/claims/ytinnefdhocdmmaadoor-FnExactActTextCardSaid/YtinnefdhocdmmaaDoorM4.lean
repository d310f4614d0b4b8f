/- Texts of one proof, put together: A6, S3, A7, A8. -/
import Derived.Test.YtinnefdhocdmmaaDoorM3
import Derived.Shelf.Strings.Builder1
import Derived.Shelf.Strings.Builder2
import Derived.Shelf.Strings.OnBuilder
import Derived.Shelf.Small.Wraps
import Derived.Shelf.Utf8.RuneCount
import Derived.Shelf.Strings.Builder2Cap
import Derived.Shelf.Strconv.Itoa0
import Derived.Shelf.Strconv.Itoa1
import Derived.Shelf.LaysM
import Derived.Shelf.Strconv.Itoa2
import Derived.Shelf.Strconv.Itoa3
import Derived.Shelf.Strconv.Itoa4
import Derived.Shelf.Strconv.ParseIntEmpty
import Derived.Shelf.Strconv.Clone
import Derived.Shelf.Strconv.SyntaxError
import Derived.Shelf.LaysC
import Derived.Shelf.Strconv.ToError
import Derived.Shelf.Strconv.Lower
import Derived.Shelf.Strconv.ParseUint10
import Derived.Shelf.Strconv.ParseUint10Empty
import Derived.Shelf.Strconv.ParseUint10Any
import Derived.Shelf.Strconv.ParseInt10
import Derived.Shelf.Strconv.RangeError
import Derived.Shelf.Strconv.ToErrorRange
import Derived.Shelf.Strconv.ParseUintEmpty
import Derived.Shelf.Strconv.ParseUint10b64
import Derived.Shelf.Strconv.ParseUint10b32
import Derived.Shelf.Strconv.ParseUint10b16
import Derived.Shelf.Strconv.ParseUint10b8
import Derived.Shelf.Strconv.ParseUint10At
import Derived.Shelf.Strconv.ParseInt10At64
import Derived.Shelf.Strconv.ParseInt10At32
import Derived.Shelf.Strconv.ParseInt10At16
import Derived.Shelf.Strconv.ParseInt10At8
import Derived.Shelf.Strconv.ParseInt10All
import Derived.Shelf.Strconv.ParseIntPublic10
import Derived.Shelf.Strings.Search1
import Derived.Shelf.Strings.Search2
import Derived.Shelf.Strings.Search3
import Derived.Shelf.Strings.Cut
import Derived.Shelf.Strings.Count
import Derived.Shelf.Strings.Shaped
import Derived.Shelf.Strings.Prefix
import Derived.Shelf.Strings.Split
import Derived.Shelf.Strings.SplitShaped
import Derived.Shelf.Unicode.Decode
import Derived.Shelf.Strings.RuneCount
import Derived.Shelf.Strings.Explode
import Derived.Shelf.Unicode.DecodeSlow
import Derived.Shelf.Unicode.DecodeAny
import Derived.Shelf.Slices.Turned
import Derived.Test.YtinnefdhocdmmaaDoorProg
namespace Go.VL
open Go.RowKit
set_option maxRecDepth 20000
set_option maxHeartbeats 8000000
abbrev cS (l : List UInt8) : V := .c (.v (.string (tx l)))
def st (l : List UInt8) : List C := [.v (.string (tx l))]
theorem st_len (a : List UInt8) : (st a).length = 1 := rfl
theorem st_sc (a : List UInt8) : (st a).all sc = true := rfl
theorem of_in {p : Prop} (h : p) : p := h
def fenc (f : List UInt8 × Int × Bool) : List C := [.v (.string (tx f.1)), .v (.int .i64 f.2.1), .v (.bool f.2.2)]
theorem fenc_len (f : List UInt8 × Int × Bool) : (fenc f).length = 3 := rfl
abbrev act (k a b c : Int) (x : Option Nat) : List C := [.v (.int .i64 k), .v (.int .i64 a), .v (.int .i64 b), .v (.int .i64 c), .f .f32 x]
/-- A single as data. -/
def Sg (x : Option Nat) : Prop := okF .f32 x ∧ ∀ b, x = some b → b < 2 ^ 32
def wordA : List (List UInt8) := [] :: formL.map (·.1)
def wholeL : List Int := [0, 1, 2, 2, 1, 3, 1]
def fracL : List Bool := [false, true, true, false, false, true, false]
/-- How many whole numbers a kind has, and whether it has a fraction. -/
abbrev wh (k : Int) : Int := wholeL.getD k.toNat default
abbrev fr (k : Int) : Bool := fracL.getD k.toNat default
theorem ix_at {α : Type} [Inhabited α] {xs : List α} {q : Nat} {k : Int} (hq : q < xs.length) (e : k = (q : Int)) : xs[q] = xs.getD k.toNat default := by
  subst e
  simp [hq]
theorem form_at : ∀ (q : Nat) (hq : q < 6), (formL[q]'hq).2.1 = wh (q + 1) ∧ (formL[q]'hq).2.2 = fr (q + 1) ∧ 1 ≤ wh (q + 1)
  | 0, _ => ⟨rfl, rfl, by decide⟩
  | 1, _ => ⟨rfl, rfl, by decide⟩
  | 2, _ => ⟨rfl, rfl, by decide⟩
  | 3, _ => ⟨rfl, rfl, by decide⟩
  | 4, _ => ⟨rfl, rfl, by decide⟩
  | 5, _ => ⟨rfl, rfl, by decide⟩
  | q + 6, h => absurd h (by omega)
theorem form_at2 {q : Nat} {k : Int} (hq : q < 6) (e : k - 1 = (q : Int)) : (formL[q]'hq).2.1 = wh k ∧ (formL[q]'hq).2.2 = fr k ∧ 1 ≤ wh k := by
  obtain rfl : k = (q : Int) + 1 := by omega
  exact form_at q hq
/-- An act that is valid. -/
def actOk (k a b c : Int) (x : Option Nat) : Prop :=
  (1 ≤ k ∧ k ≤ 6) ∧ (0 ≤ a ∧ a ≤ 999) ∧ (0 ≤ b ∧ b ≤ 999) ∧ (0 ≤ c ∧ c ≤ 999) ∧ fin x = true ∧ x ≠ some 2147483648 ∧ (1 < wh k ∨ b = 0) ∧ (2 < wh k ∨ c = 0) ∧ (fr k = true ∨ (ford .f32 x (fOf .f32 0) == some .eq) = true)
instance (k a b c : Int) (x : Option Nat) : Decidable (actOk k a b c x) := by unfold actOk; infer_instance
theorem neg_zero_bits {b : Nat} (hb : b < 2 ^ 32) {s : Bool} {m : Nat} {e : Int} (h : FloatKind.f32.format.read b = .number s m e) : b = 2147483648 ↔ s = true ∧ m = 0 := by
  unfold Ieee.Format.read at h
  have hs : (FloatKind.f32.format).signWeight = 2147483648 := by decide
  have hbn : (FloatKind.f32.format).binade = 8388608 := by decide
  have hi : (FloatKind.f32.format).infRung = 2139095040 := by decide
  simp only [hs, hbn, hi] at h
  split at h
  · simp only [Ieee.Datum.number.injEq] at h
    obtain ⟨h1, h2, -⟩ := h
    constructor
    · rintro rfl; simp at h1 h2; exact ⟨h1, h2.symm⟩
    · rintro ⟨rfl, rfl⟩
      have : b / 2147483648 % 2 = 1 := by simpa using h1
      omega
  · split at h
    · simp only [Ieee.Datum.number.injEq] at h
      constructor
      · rintro rfl; simp at *
      · rintro ⟨-, rfl⟩; omega
    · split at h <;> cases h
theorem neg_zero {b w : Nat} (hb : b < 2 ^ 32) (hw : convF .f32 .f64 (some b) = some (some w)) (h : fin (some b) = true) : ((ford .f32 (some b) (fOf .f32 0) == some .eq) = true ∧ IntKind.i64.wrap (w : Int) < 0) ↔ b = 2147483648 := by
  obtain ⟨s, m, e, hr⟩ := num_of_fin h
  rw [convF_wide hr] at hw
  simp only [Option.some.injEq] at hw
  subst hw
  obtain ⟨hm, he⟩ := read_single hr
  rw [wide_sign hm he, neg_zero_bits hb hr, order_zero hr]
  cases s <;> by_cases hm : m = 0 <;> simp [hm]
theorem trc_act {H : List Ob} {g : List (Option Nat)} {k a b c : Int} {x : Option Nat} : TrC H g (act k a b c x) (act k a b c x) := .cons tr_v (.cons tr_v (.cons tr_v (.cons tr_v (.cons tr_f .nil))))
theorem trc_form {H : List Ob} {g : List (Option Nat)} {f : List UInt8 × Int × Bool} : TrC H g (fenc f) (fenc f) := .cons tr_v (.cons tr_v (.cons tr_v .nil))
theorem cInR (a lo hi : Int) : PureC X 42 [cI a, cI lo, cI hi] (cB (decide (lo ≤ a ∧ a ≤ hi))) := by
  refine PureC.of_body (drawD_ok X) (fun _ _ => Go.Proofs.Tryd.call42 _ _) Go.Proofs.Tryd.func42 rfl (n := 15) rfl ?_
  refine w_seq ?_
  refine w_reg rfl ?_
  refine v_assign (c := .v (.bool false)) rfl ?_
  refine v_nil ?_
  refine q_n ?_
  refine w_seq ?_
  refine w_reg rfl ?_
  refine v_move rfl ?_
  refine v_move rfl ?_
  refine v_leq lay2 rfl rfl (fun h1 => ?_) (fun h1 => ?_)
  rotate_left
  · refine v_move rfl ?_
    refine v_guard_off rfl rfl rfl ?_
    refine v_guard_off rfl rfl rfl ?_
    refine v_guard_off rfl rfl rfl ?_
    refine v_pick_f (v := .v (.bool false)) rfl rfl ?_
    refine v_assign rfl ?_
    refine v_nil ?_
    refine q_n ?_
    refine w_ret ?_
    refine r_r rfl ?_
    exact a_b (by simp <;> omega)
  refine v_move rfl ?_
  refine v_guard_on rfl rfl ?_
  refine v_move rfl ?_
  refine v_guard_on rfl rfl ?_
  refine v_move rfl ?_
  refine v_guard_on rfl rfl ?_
  refine v_leq lay2 rfl rfl (fun h2 => ?_) (fun h2 => ?_)
  · refine v_pick_t rfl rfl ?_
    refine v_assign rfl ?_
    refine v_nil ?_
    refine q_n ?_
    refine w_ret ?_
    refine r_r rfl ?_
    exact a_b (by simp <;> omega)
  refine v_pick_t rfl rfl ?_
  refine v_assign rfl ?_
  refine v_nil ?_
  refine q_n ?_
  refine w_ret ?_
  refine r_r rfl ?_
  exact a_b (by simp <;> omega)

theorem cIn (a lo hi : Int) : PureC X 41 [cI a, cI lo, cI hi] (cB (decide (lo ≤ a ∧ a ≤ hi))) := by
  refine PureC.of_body (drawD_ok X) (fun _ _ => Go.Proofs.Tryd.call41 _ _) Go.Proofs.Tryd.func41 rfl (n := 15) rfl ?_
  refine w_seq ?_
  refine w_reg rfl ?_
  refine v_assign (c := .v (.bool false)) rfl ?_
  refine v_nil ?_
  refine q_n ?_
  refine w_seq ?_
  refine w_reg rfl ?_
  refine v_move rfl ?_
  refine v_move rfl ?_
  refine v_geq lay2 rfl rfl (fun h1 => ?_) (fun h1 => ?_)
  rotate_left
  · refine v_move rfl ?_
    refine v_guard_off rfl rfl rfl ?_
    refine v_guard_off rfl rfl rfl ?_
    refine v_guard_off rfl rfl rfl ?_
    refine v_pick_f (v := .v (.bool false)) rfl rfl ?_
    refine v_assign rfl ?_
    refine v_nil ?_
    refine q_n ?_
    refine w_ret ?_
    refine r_r rfl ?_
    exact a_b (by simp <;> omega)
  refine v_move rfl ?_
  refine v_guard_on rfl rfl ?_
  refine v_move rfl ?_
  refine v_guard_on rfl rfl ?_
  refine v_move rfl ?_
  refine v_guard_on rfl rfl ?_
  refine v_leq lay2 rfl rfl (fun h2 => ?_) (fun h2 => ?_)
  · refine v_pick_t rfl rfl ?_
    refine v_assign rfl ?_
    refine v_nil ?_
    refine q_n ?_
    refine w_ret ?_
    refine r_r rfl ?_
    exact a_b (by simp <;> omega)
  refine v_pick_t rfl rfl ?_
  refine v_assign rfl ?_
  refine v_nil ?_
  refine q_n ?_
  refine w_ret ?_
  refine r_r rfl ?_
  exact a_b (by simp <;> omega)

theorem cCodeIft (x : Int) : PureC X 79 [cB true, cI x] (cI x) := by
  refine PureC.of_body (drawD_ok X) (fun _ _ => Go.Proofs.Tryd.call79 _ _) Go.Proofs.Tryd.func79 rfl (n := 7) rfl ?_
  refine w_seq ?_
  refine w_reg rfl ?_
  refine v_assign (c := .v (.int .i64 0)) rfl ?_
  refine v_nil ?_
  refine q_n ?_
  refine w_seq ?_
  refine w_seq ?_
  refine w_reg rfl ?_
  refine v_move rfl ?_
  refine v_nil ?_
  refine q_n ?_
  refine w_t rfl ?_
  refine w_seq ?_
  refine w_reg rfl ?_
  refine v_move rfl ?_
  refine v_assign rfl ?_
  refine v_nil ?_
  refine q_n ?_
  refine w_ret (q_r ?_)
  refine r_r rfl ?_
  exact tr_v

theorem cCodeIff (x : Int) : PureC X 79 [cB false, cI x] (cI 0) := by
  refine PureC.of_body (drawD_ok X) (fun _ _ => Go.Proofs.Tryd.call79 _ _) Go.Proofs.Tryd.func79 rfl (n := 7) rfl ?_
  refine w_seq ?_
  refine w_reg rfl ?_
  refine v_assign (c := .v (.int .i64 0)) rfl ?_
  refine v_nil ?_
  refine q_n ?_
  refine w_seq ?_
  refine w_seq ?_
  refine w_reg rfl ?_
  refine v_move rfl ?_
  refine v_nil ?_
  refine q_n ?_
  refine w_f rfl ?_
  refine w_skip ?_
  refine q_n ?_
  refine w_seq ?_
  refine w_reg rfl ?_
  refine v_assign (c := .v (.int .i64 0)) rfl ?_
  refine v_nil ?_
  refine q_n ?_
  refine w_ret ?_
  refine r_r rfl ?_
  exact tr_v

theorem cCodeIf (b : Bool) (x : Int) : PureC X 79 [cB b, cI x] (cI (if b then x else 0)) := by
  cases b
  · exact cCodeIff x
  · exact cCodeIft x

theorem cFirst (xs : List Int) (hx : xs.length ≤ 2 ^ 40) : PureC X 78 [.c (ints false xs)] (cI (firstNZ xs)) := by
  refine PureC.of_body (drawD_ok X) (fun _ _ => Go.Proofs.Tryd.call78 _ _) Go.Proofs.Tryd.func78 rfl (n := 15) rfl ?_
  refine w_seq ?_
  refine w_reg rfl ?_
  refine v_assign (c := .v (.int .i64 0)) rfl ?_
  refine v_nil ?_
  refine q_n ?_
  refine w_seq ?_
  refine w_seq ?_
  refine w_reg rfl ?_
  refine v_move rfl ?_
  refine v_len_sl lay71 rfl ?_
  refine v_move (c := .v (.int .i64 0)) rfl ?_
  refine v_nil ?_
  refine q_n ?_
  refine w_block ?_
  refine w_loop (fun k sl H => ∃ i : Nat, k = xs.length - i ∧ i ≤ xs.length ∧ (∀ x ∈ xs.take i, x = 0) ∧ sl = sls [(5, .c (ints false xs)), (6, cI xs.length), (7, cI i)] ∧ H = []) ?_ ?_
  · refine ⟨_, _, _, ?_, 0, rfl, Nat.zero_le _, by simp, rfl, rfl⟩
    exact turn0 ⟨tr_sl, tr_v, tr_v, trivial⟩
  rintro k sl H ⟨i, rfl, hi, hp, rfl, rfl⟩
  refine w_seq ?_
  refine w_reg rfl ?_
  refine v_lss lay3 rfl rfl (fun h1 => ?_) (fun h1 => ?_)
  rotate_left
  · refine v_nil ?_
    refine q_n ?_
    refine w_seq ?_
    refine w_f rfl ?_
    refine w_exit ?_
    refine q_e ?_
    refine q_e ?_
    refine q_hit ?_
    refine q_n ?_
    refine w_seq ?_
    refine w_reg rfl ?_
    refine v_assign (c := .v (.int .i64 0)) rfl ?_
    refine v_nil ?_
    refine q_n ?_
    refine w_ret ?_
    refine r_r rfl ?_
    obtain rfl : i = xs.length := by omega
    rw [List.take_length] at hp
    exact a_i (firstNZ_none hp).symm
  have hj : i < xs.length := by omega
  refine v_nil ?_
  refine q_n ?_
  refine w_seq ?_
  refine w_t rfl ?_
  refine w_skip ?_
  refine q_n ?_
  refine w_seq ?_
  refine w_block ?_
  refine w_seq ?_
  refine w_reg rfl ?_
  refine v_idx_e (k := 1) (i) int_len lay71 lay2 rfl rfl rfl (rfl) rfl (rfl) ((by omega : i < xs.length)) ?_
  refine v_load_vw (.c (.v _)) lay2 rfl rfl rfl ?_
  refine v_assign rfl ?_
  refine v_nil ?_
  refine q_n ?_
  refine w_seq ?_
  refine w_reg rfl ?_
  refine v_move rfl ?_
  refine v_neq lay2 rfl rfl (fun h3 => ?_) (fun h3 => ?_)
  · refine v_nil ?_
    refine q_n ?_
    refine w_t rfl ?_
    refine w_seq ?_
    refine w_reg rfl ?_
    refine v_move rfl ?_
    refine v_assign rfl ?_
    refine v_nil ?_
    refine q_n ?_
    refine w_ret (q_br (q_r (q_r (q_br (q_r ?_)))))
    refine r_r rfl ?_
    exact a_i (firstNZ_hit hj hp h3).symm
  refine v_nil ?_
  refine q_n ?_
  refine w_f rfl ?_
  refine w_skip ?_
  refine q_bn ?_
  refine q_n ?_
  refine w_reg rfl ?_
  refine v_add lay3 rfl rfl (i64r (by omega)) ?_
  refine v_move rfl ?_
  refine v_nil ?_
  refine q_n ?_
  refine ⟨_, _, _, ?_, ⟨i + 1, rfl, by omega, all_step hj hp h3, rfl, rfl⟩, by omega⟩
  exact turn0 ⟨tr_sl, tr_v, tr_v, trivial⟩

theorem cFinS (x : Option Nat) : PureC X 46 [.c (.f .f32 x)] (cB (decide (fin x = true))) := by
  refine PureC.of_body (drawD_ok X) (fun _ _ => Go.Proofs.Tryd.call46 _ _) Go.Proofs.Tryd.func46 rfl (n := 7) rfl ?_
  refine w_seq ?_
  refine w_reg rfl ?_
  refine v_assign (c := .v (.bool false)) rfl ?_
  refine v_nil ?_
  refine q_n ?_
  refine w_seq ?_
  refine w_reg rfl ?_
  refine v_move rfl ?_
  refine v_move rfl ?_
  refine v_bin (c := .f _ _) lay32 rfl rfl rfl ?_
  refine v_binb lay32 rfl rfl rfl (fun h1 => ?_) (fun h1 => ?_)
  · refine v_assign rfl ?_
    refine v_nil ?_
    refine q_n ?_
    refine w_ret ?_
    refine r_r rfl ?_
    exact a_b ⟨fun _ => h1, fun _ => rfl⟩
  refine v_assign rfl ?_
  refine v_nil ?_
  refine q_n ?_
  refine w_ret ?_
  refine r_r rfl ?_
  exact a_b ⟨fun h => (by cases h), fun h => absurd (h1.symm.trans h) (by simp)⟩

theorem cFinI (x : Option Nat) : PureC X 49 [.c (.f .f32 x)] (cB (decide (fin x = true))) := by
  refine PureC.of_body (drawD_ok X) (fun _ _ => Go.Proofs.Tryd.call49 _ _) Go.Proofs.Tryd.func49 rfl (n := 7) rfl ?_
  refine w_seq ?_
  refine w_reg rfl ?_
  refine v_assign (c := .v (.bool false)) rfl ?_
  refine v_nil ?_
  refine q_n ?_
  refine w_seq ?_
  refine w_reg rfl ?_
  refine v_move rfl ?_
  refine v_move rfl ?_
  refine v_bin (c := .f _ _) lay32 rfl rfl rfl ?_
  refine v_binb lay32 rfl rfl rfl (fun h1 => ?_) (fun h1 => ?_)
  · refine v_assign rfl ?_
    refine v_nil ?_
    refine q_n ?_
    refine w_ret ?_
    refine r_r rfl ?_
    exact a_b ⟨fun _ => h1, fun _ => rfl⟩
  refine v_assign rfl ?_
  refine v_nil ?_
  refine q_n ?_
  refine w_ret ?_
  refine r_r rfl ?_
  exact a_b ⟨fun h => (by cases h), fun h => absurd (h1.symm.trans h) (by simp)⟩

theorem cB64 (b : Nat) : PureC X 70 [.c (.f .f64 (some b))] (.c (.v (.int .u64 b))) := pure_f64bits Go.Proofs.Tryd.func70 (by kernel_rfl) rfl (by kernel_rfl) (by kernel_rfl) b
theorem cB32 (b : Nat) : PureC X 47 [.c (.f .f32 (some b))] (.c (.v (.int .u32 b))) := pure_f32bits Go.Proofs.Tryd.func47 (by kernel_rfl) rfl (by kernel_rfl) (by kernel_rfl) b

theorem cSgn (b : Nat) : PureC X 50 [.c (.f .f64 (some b))] (cB (decide (IntKind.i64.wrap (b : Int) < 0))) := by
  refine PureC.of_body (drawD_ok X) (fun _ _ => Go.Proofs.Tryd.call50 _ _) Go.Proofs.Tryd.func50 rfl (n := 7) rfl ?_
  refine w_seq ?_
  refine w_reg rfl ?_
  refine v_assign (c := .v (.bool false)) rfl ?_
  refine v_nil ?_
  refine q_n ?_
  refine w_seq ?_
  refine w_reg rfl ?_
  refine v_move rfl ?_
  refine v_call (cB64 _) rfl rfl rfl (.cons vw_f .nil) ?_
  refine v_conv_iw lay113 lay2 rfl ?_
  refine v_lss lay2 rfl rfl (fun h1 => ?_) (fun h1 => ?_)
  · refine v_assign rfl ?_
    refine v_nil ?_
    refine q_n ?_
    refine w_ret ?_
    refine r_r rfl ?_
    exact a_b (by simp_all)
  refine v_assign rfl ?_
  refine v_nil ?_
  refine q_n ?_
  refine w_ret ?_
  refine r_r rfl ?_
  exact a_b (by simp_all)

theorem cToA (k a b c : Int) (x : Option Nat) : PureC X 14 [.agg (act k a b c x)] (.agg (act k a b c x)) := by
  refine PureC.of_body (drawD_ok X) (fun _ _ => Go.Proofs.Tryd.call14 _ _) Go.Proofs.Tryd.func14 rfl (n := 20) rfl ?_
  refine w_seq ?_
  refine w_reg rfl ?_
  refine v_box (m := 0) (H' := [_]) lay34 rfl rfl rfl ?_
  refine v_alloc (m := 1) (H' := [_, ⟨[.v _, .v _, .v _, .v _, .f _ _], 36, true⟩]) lay36 rfl rfl ?_
  refine v_nil ?_
  refine q_n ?_
  refine w_seq ?_
  refine w_reg rfl ?_
  refine v_alloc (m := 2) (H' := [_, _, ⟨[.v _, .v _, .v _, .v _, .f _ _], 36, true⟩]) lay36 rfl rfl ?_
  refine v_nil ?_
  refine q_n ?_
  refine w_seq ?_
  refine w_reg rfl ?_
  refine v_fa_pt (off' := 0) lay34 rfl rfl rfl ?_
  refine v_load_pt (.c _) lay2 rfl rfl rfl rfl ?_
  refine v_fa_pt (off' := 0) lay36 rfl rfl rfl ?_
  refine v_store (H' := [_, _, ⟨[_, _, _, _, _], 36, true⟩]) lay2 rfl rfl rfl rfl rfl rfl ?_
  refine v_nil ?_
  refine q_n ?_
  refine w_seq ?_
  refine w_reg rfl ?_
  refine v_fa_pt (off' := 1) lay34 rfl rfl rfl ?_
  refine v_load_pt (.c _) lay2 rfl rfl rfl rfl ?_
  refine v_fa_pt (off' := 1) lay36 rfl rfl rfl ?_
  refine v_store (H' := [_, _, ⟨[_, _, _, _, _], 36, true⟩]) lay2 rfl rfl rfl rfl rfl rfl ?_
  refine v_nil ?_
  refine q_n ?_
  refine w_seq ?_
  refine w_reg rfl ?_
  refine v_fa_pt (off' := 2) lay34 rfl rfl rfl ?_
  refine v_load_pt (.c _) lay2 rfl rfl rfl rfl ?_
  refine v_fa_pt (off' := 2) lay36 rfl rfl rfl ?_
  refine v_store (H' := [_, _, ⟨[_, _, _, _, _], 36, true⟩]) lay2 rfl rfl rfl rfl rfl rfl ?_
  refine v_nil ?_
  refine q_n ?_
  refine w_seq ?_
  refine w_reg rfl ?_
  refine v_fa_pt (off' := 3) lay34 rfl rfl rfl ?_
  refine v_load_pt (.c _) lay2 rfl rfl rfl rfl ?_
  refine v_fa_pt (off' := 3) lay36 rfl rfl rfl ?_
  refine v_store (H' := [_, _, ⟨[_, _, _, _, _], 36, true⟩]) lay2 rfl rfl rfl rfl rfl rfl ?_
  refine v_nil ?_
  refine q_n ?_
  refine w_seq ?_
  refine w_reg rfl ?_
  refine v_fa_pt (off' := 4) lay34 rfl rfl rfl ?_
  refine v_load_pt (.c _) lay32 rfl rfl rfl rfl ?_
  refine v_fa_pt (off' := 4) lay36 rfl rfl rfl ?_
  refine v_store (H' := [_, _, ⟨[_, _, _, _, _], 36, true⟩]) lay32 rfl rfl rfl rfl rfl rfl ?_
  refine v_nil ?_
  refine q_n ?_
  refine w_seq ?_
  refine w_reg rfl ?_
  refine v_load_pt (.agg [_, _, _, _, _]) lay36 rfl rfl rfl rfl ?_
  refine v_store (H' := [_, ⟨[_, _, _, _, _], 36, true⟩, _]) lay36 rfl rfl rfl rfl rfl rfl ?_
  refine v_nil ?_
  refine q_n ?_
  refine w_ret ?_
  refine r_r rfl ?_
  exact a_agg (.cons tr_v (.cons tr_v (.cons tr_v (.cons tr_v (.cons tr_f .nil)))))

theorem cWdA : PureC X 32 [] (.tup [.c (.sl true 7 1 (flat st wordA)), .c (.sl true 7 1 (flat int wholeL)), .c (.sl true 7 1 (flat bo fracL))]) := by
  refine PureC.of_body (drawD_ok X) (fun _ _ => Go.Proofs.Tryd.call32 _ _) Go.Proofs.Tryd.func32 rfl (n := 6) rfl ?_
  refine w_seq ?_
  refine w_reg rfl ?_
  refine v_assign rfl ?_
  refine v_assign rfl ?_
  refine v_assign rfl ?_
  refine v_nil ?_
  refine q_n ?_
  refine w_seq ?_
  refine w_reg rfl ?_
  refine v_lit (flat st [_, _, _, _, _, _, _]) (H' := [_]) lay45 lay9 rfl rfl ⟨by decide, by decide⟩ rfl rfl ?_
  refine v_lit (flat int [_, _, _, _, _, _, _]) (H' := [_, _]) lay46 lay3 rfl rfl ⟨by decide, by decide⟩ rfl rfl ?_
  refine v_lit (flat bo [_, _, _, _, _, _, _]) (H' := [_, _, _]) lay58 lay4 rfl rfl ⟨by decide, by decide⟩ rfl rfl ?_
  refine v_assign rfl ?_
  refine v_assign rfl ?_
  refine v_assign rfl ?_
  refine v_nil ?_
  refine q_n ?_
  refine w_ret ?_
  refine r_r rfl ?_
  exact a_tup (.cons (a_flat (xs := wordA) st_sc st_len rfl rfl) (.cons (a_flat (xs := wholeL) int_sc int_len rfl rfl) (.cons (a_flat (xs := fracL) bo_sc bo_len rfl rfl) .nil)))

theorem cActS1 (kd a b c : Int) (x : Nat) : PureC X 31 [.c (.vw false (act kd a b c (some x)) 0)] (cB (decide (actOk kd a b c (some x)))) := by
  refine PureC.of_body (drawD_ok X) (fun _ _ => Go.Proofs.Tryd.call31 _ _) Go.Proofs.Tryd.func31 rfl (n := 105) rfl ?_
  refine w_seq ?_
  refine w_reg rfl ?_
  refine v_assign (c := .v (.bool false)) rfl ?_
  refine v_nil ?_
  refine q_n ?_
  refine w_seq ?_
  refine w_seq ?_
  refine w_reg rfl ?_
  refine v_move rfl ?_
  refine v_nil_vw rfl ?_
  refine v_fa_vw (off' := 0) lay36 rfl rfl rfl ?_
  refine v_load_vw (.c (.v _)) lay2 rfl rfl rfl ?_
  refine v_callb (cIn _ _ _) rfl rfl (.cons vw_v (.cons vw_v (.cons vw_v .nil))) (fun h1 => ?_) (fun h1 => ?_)
  rotate_left
  · refine v_not true rfl rfl ?_
    refine v_move rfl ?_
    refine v_guard_off rfl rfl rfl ?_
    refine v_guard_off rfl rfl rfl ?_
    refine v_guard_off rfl rfl rfl ?_
    refine v_guard_off rfl rfl rfl ?_
    refine v_guard_off rfl rfl rfl ?_
    refine v_guard_off rfl rfl rfl ?_
    refine v_pick_t (v := .v (.bool true)) rfl rfl ?_
    refine v_move rfl ?_
    refine v_guard_off rfl rfl rfl ?_
    refine v_guard_off rfl rfl rfl ?_
    refine v_guard_off rfl rfl rfl ?_
    refine v_guard_off rfl rfl rfl ?_
    refine v_guard_off rfl rfl rfl ?_
    refine v_guard_off rfl rfl rfl ?_
    refine v_pick_t (v := .v (.bool true)) rfl rfl ?_
    refine v_move rfl ?_
    refine v_guard_off rfl rfl rfl ?_
    refine v_guard_off rfl rfl rfl ?_
    refine v_guard_off rfl rfl rfl ?_
    refine v_guard_off rfl rfl rfl ?_
    refine v_guard_off rfl rfl rfl ?_
    refine v_guard_off rfl rfl rfl ?_
    refine v_pick_t (v := .v (.bool true)) rfl rfl ?_
    refine v_move rfl ?_
    refine v_guard_off rfl rfl rfl ?_
    refine v_guard_off rfl rfl rfl ?_
    refine v_guard_off rfl rfl rfl ?_
    refine v_guard_off rfl rfl rfl ?_
    refine v_guard_off rfl rfl rfl ?_
    refine v_guard_off rfl rfl rfl ?_
    refine v_pick_t (v := .v (.bool true)) rfl rfl ?_
    refine v_move rfl ?_
    refine v_guard_off rfl rfl rfl ?_
    refine v_guard_off rfl rfl rfl ?_
    refine v_guard_off rfl rfl rfl ?_
    refine v_guard_off rfl rfl rfl ?_
    refine v_guard_off rfl rfl rfl ?_
    refine v_guard_off rfl rfl rfl ?_
    refine v_pick_t (v := .v (.bool true)) rfl rfl ?_
    refine v_nil ?_
    refine q_n ?_
    refine w_t rfl ?_
    refine w_seq ?_
    refine w_reg rfl ?_
    refine v_assign (c := .v (.bool false)) rfl ?_
    refine v_nil ?_
    refine q_n ?_
    refine w_ret (q_r ?_)
    refine r_r rfl ?_
    exact a_b (by unfold actOk; grind)
  refine v_not false rfl rfl ?_
  refine v_move rfl ?_
  refine v_guard_on rfl rfl ?_
  refine v_move rfl ?_
  refine v_guard_on rfl rfl ?_
  refine v_nil_vw rfl ?_
  refine v_guard_on rfl rfl ?_
  refine v_fa_vw (off' := 1) lay36 rfl rfl rfl ?_
  refine v_guard_on rfl rfl ?_
  refine v_load_vw (.c (.v _)) lay2 rfl rfl rfl ?_
  refine v_guard_on rfl rfl ?_
  refine v_callb (cIn _ _ _) rfl rfl (.cons vw_v (.cons vw_v (.cons vw_v .nil))) (fun h2 => ?_) (fun h2 => ?_)
  rotate_left
  · refine v_guard_on rfl rfl ?_
    refine v_not true rfl rfl ?_
    refine v_pick_f rfl rfl ?_
    refine v_move rfl ?_
    refine v_guard_off rfl rfl rfl ?_
    refine v_guard_off rfl rfl rfl ?_
    refine v_guard_off rfl rfl rfl ?_
    refine v_guard_off rfl rfl rfl ?_
    refine v_guard_off rfl rfl rfl ?_
    refine v_guard_off rfl rfl rfl ?_
    refine v_pick_t (v := .v (.bool true)) rfl rfl ?_
    refine v_move rfl ?_
    refine v_guard_off rfl rfl rfl ?_
    refine v_guard_off rfl rfl rfl ?_
    refine v_guard_off rfl rfl rfl ?_
    refine v_guard_off rfl rfl rfl ?_
    refine v_guard_off rfl rfl rfl ?_
    refine v_guard_off rfl rfl rfl ?_
    refine v_pick_t (v := .v (.bool true)) rfl rfl ?_
    refine v_move rfl ?_
    refine v_guard_off rfl rfl rfl ?_
    refine v_guard_off rfl rfl rfl ?_
    refine v_guard_off rfl rfl rfl ?_
    refine v_guard_off rfl rfl rfl ?_
    refine v_guard_off rfl rfl rfl ?_
    refine v_guard_off rfl rfl rfl ?_
    refine v_pick_t (v := .v (.bool true)) rfl rfl ?_
    refine v_move rfl ?_
    refine v_guard_off rfl rfl rfl ?_
    refine v_guard_off rfl rfl rfl ?_
    refine v_guard_off rfl rfl rfl ?_
    refine v_guard_off rfl rfl rfl ?_
    refine v_guard_off rfl rfl rfl ?_
    refine v_guard_off rfl rfl rfl ?_
    refine v_pick_t (v := .v (.bool true)) rfl rfl ?_
    refine v_nil ?_
    refine q_n ?_
    refine w_t rfl ?_
    refine w_seq ?_
    refine w_reg rfl ?_
    refine v_assign (c := .v (.bool false)) rfl ?_
    refine v_nil ?_
    refine q_n ?_
    refine w_ret (q_r ?_)
    refine r_r rfl ?_
    exact a_b (by unfold actOk; grind)
  refine v_guard_on rfl rfl ?_
  refine v_not false rfl rfl ?_
  refine v_pick_f rfl rfl ?_
  refine v_move rfl ?_
  refine v_guard_on rfl rfl ?_
  refine v_move rfl ?_
  refine v_guard_on rfl rfl ?_
  refine v_nil_vw rfl ?_
  refine v_guard_on rfl rfl ?_
  refine v_fa_vw (off' := 2) lay36 rfl rfl rfl ?_
  refine v_guard_on rfl rfl ?_
  refine v_load_vw (.c (.v _)) lay2 rfl rfl rfl ?_
  refine v_guard_on rfl rfl ?_
  refine v_callb (cIn _ _ _) rfl rfl (.cons vw_v (.cons vw_v (.cons vw_v .nil))) (fun h3 => ?_) (fun h3 => ?_)
  rotate_left
  · refine v_guard_on rfl rfl ?_
    refine v_not true rfl rfl ?_
    refine v_pick_f rfl rfl ?_
    refine v_move rfl ?_
    refine v_guard_off rfl rfl rfl ?_
    refine v_guard_off rfl rfl rfl ?_
    refine v_guard_off rfl rfl rfl ?_
    refine v_guard_off rfl rfl rfl ?_
    refine v_guard_off rfl rfl rfl ?_
    refine v_guard_off rfl rfl rfl ?_
    refine v_pick_t (v := .v (.bool true)) rfl rfl ?_
    refine v_move rfl ?_
    refine v_guard_off rfl rfl rfl ?_
    refine v_guard_off rfl rfl rfl ?_
    refine v_guard_off rfl rfl rfl ?_
    refine v_guard_off rfl rfl rfl ?_
    refine v_guard_off rfl rfl rfl ?_
    refine v_guard_off rfl rfl rfl ?_
    refine v_pick_t (v := .v (.bool true)) rfl rfl ?_
    refine v_move rfl ?_
    refine v_guard_off rfl rfl rfl ?_
    refine v_guard_off rfl rfl rfl ?_
    refine v_guard_off rfl rfl rfl ?_
    refine v_guard_off rfl rfl rfl ?_
    refine v_guard_off rfl rfl rfl ?_
    refine v_guard_off rfl rfl rfl ?_
    refine v_pick_t (v := .v (.bool true)) rfl rfl ?_
    refine v_nil ?_
    refine q_n ?_
    refine w_t rfl ?_
    refine w_seq ?_
    refine w_reg rfl ?_
    refine v_assign (c := .v (.bool false)) rfl ?_
    refine v_nil ?_
    refine q_n ?_
    refine w_ret (q_r ?_)
    refine r_r rfl ?_
    exact a_b (by unfold actOk; grind)
  refine v_guard_on rfl rfl ?_
  refine v_not false rfl rfl ?_
  refine v_pick_f rfl rfl ?_
  refine v_move rfl ?_
  refine v_guard_on rfl rfl ?_
  refine v_move rfl ?_
  refine v_guard_on rfl rfl ?_
  refine v_nil_vw rfl ?_
  refine v_guard_on rfl rfl ?_
  refine v_fa_vw (off' := 3) lay36 rfl rfl rfl ?_
  refine v_guard_on rfl rfl ?_
  refine v_load_vw (.c (.v _)) lay2 rfl rfl rfl ?_
  refine v_guard_on rfl rfl ?_
  refine v_callb (cIn _ _ _) rfl rfl (.cons vw_v (.cons vw_v (.cons vw_v .nil))) (fun h4 => ?_) (fun h4 => ?_)
  rotate_left
  · refine v_guard_on rfl rfl ?_
    refine v_not true rfl rfl ?_
    refine v_pick_f rfl rfl ?_
    refine v_move rfl ?_
    refine v_guard_off rfl rfl rfl ?_
    refine v_guard_off rfl rfl rfl ?_
    refine v_guard_off rfl rfl rfl ?_
    refine v_guard_off rfl rfl rfl ?_
    refine v_guard_off rfl rfl rfl ?_
    refine v_guard_off rfl rfl rfl ?_
    refine v_pick_t (v := .v (.bool true)) rfl rfl ?_
    refine v_move rfl ?_
    refine v_guard_off rfl rfl rfl ?_
    refine v_guard_off rfl rfl rfl ?_
    refine v_guard_off rfl rfl rfl ?_
    refine v_guard_off rfl rfl rfl ?_
    refine v_guard_off rfl rfl rfl ?_
    refine v_guard_off rfl rfl rfl ?_
    refine v_pick_t (v := .v (.bool true)) rfl rfl ?_
    refine v_nil ?_
    refine q_n ?_
    refine w_t rfl ?_
    refine w_seq ?_
    refine w_reg rfl ?_
    refine v_assign (c := .v (.bool false)) rfl ?_
    refine v_nil ?_
    refine q_n ?_
    refine w_ret (q_r ?_)
    refine r_r rfl ?_
    exact a_b (by unfold actOk; grind)
  refine v_guard_on rfl rfl ?_
  refine v_not false rfl rfl ?_
  refine v_pick_f rfl rfl ?_
  refine v_move rfl ?_
  refine v_guard_on rfl rfl ?_
  refine v_move rfl ?_
  refine v_guard_on rfl rfl ?_
  refine v_nil_vw rfl ?_
  refine v_guard_on rfl rfl ?_
  refine v_fa_vw (off' := 4) lay36 rfl rfl rfl ?_
  refine v_guard_on rfl rfl ?_
  refine v_load_vw (.c (.f _ _)) lay32 rfl rfl rfl ?_
  refine v_guard_on rfl rfl ?_
  refine v_callb (cFinS _) rfl rfl (.cons vw_f .nil) (fun h5 => ?_) (fun h5 => ?_)
  rotate_left
  · refine v_guard_on rfl rfl ?_
    refine v_not true rfl rfl ?_
    refine v_pick_f rfl rfl ?_
    refine v_move rfl ?_
    refine v_guard_off rfl rfl rfl ?_
    refine v_guard_off rfl rfl rfl ?_
    refine v_guard_off rfl rfl rfl ?_
    refine v_guard_off rfl rfl rfl ?_
    refine v_guard_off rfl rfl rfl ?_
    refine v_guard_off rfl rfl rfl ?_
    refine v_pick_t (v := .v (.bool true)) rfl rfl ?_
    refine v_nil ?_
    refine q_n ?_
    refine w_t rfl ?_
    refine w_seq ?_
    refine w_reg rfl ?_
    refine v_assign (c := .v (.bool false)) rfl ?_
    refine v_nil ?_
    refine q_n ?_
    refine w_ret (q_r ?_)
    refine r_r rfl ?_
    exact a_b (by unfold actOk; grind)
  refine v_guard_on rfl rfl ?_
  refine v_not false rfl rfl ?_
  refine v_pick_f rfl rfl ?_
  refine v_move rfl ?_
  refine v_guard_on rfl rfl ?_
  refine v_move rfl ?_
  refine v_guard_on rfl rfl ?_
  refine v_nil_vw rfl ?_
  refine v_guard_on rfl rfl ?_
  refine v_fa_vw (off' := 4) lay36 rfl rfl rfl ?_
  refine v_guard_on rfl rfl ?_
  refine v_load_vw (.c (.f _ _)) lay32 rfl rfl rfl ?_
  refine v_guard_on rfl rfl ?_
  refine v_call (cB32 _) rfl rfl rfl (.cons vw_f .nil) ?_
  refine v_guard_on rfl rfl ?_
  refine v_eql lay92 rfl rfl (fun h6 => ?_) (fun h6 => ?_)
  · refine v_pick_f rfl rfl ?_
    refine v_nil ?_
    refine q_n ?_
    refine w_t rfl ?_
    refine w_seq ?_
    refine w_reg rfl ?_
    refine v_assign (c := .v (.bool false)) rfl ?_
    refine v_nil ?_
    refine q_n ?_
    refine w_ret (q_r ?_)
    refine r_r rfl ?_
    exact a_b (by unfold actOk; grind)
  refine v_pick_f rfl rfl ?_
  refine v_nil ?_
  refine q_n ?_
  refine w_f rfl ?_
  refine w_skip ?_
  refine q_n ?_
  refine w_seq ?_
  refine w_reg rfl ?_
  refine v_call (cWdA) rfl rfl rfl .nil ?_
  refine v_move_t rfl ?_
  refine v_extract_c rfl rfl ?_
  refine v_extract_c rfl rfl ?_
  refine v_extract_c rfl rfl ?_
  refine v_assign rfl ?_
  refine v_assign rfl ?_
  refine v_assign rfl ?_
  refine v_nil ?_
  refine q_n ?_
  refine w_seq ?_
  refine w_reg rfl ?_
  refine v_move rfl ?_
  refine v_move rfl ?_
  refine v_nil_vw rfl ?_
  refine v_fa_vw (off' := 0) lay36 rfl rfl rfl ?_
  refine v_load_vw (.c (.v _)) lay2 rfl rfl rfl ?_
  refine v_idx (k := 1) int_len lay46 lay3 rfl rfl rfl (rfl) rfl (by show 0 ≤ kd ∧ kd < 7; omega) (fun q7 hq7 e7 => ?_)
  have w7 := ix_at hq7 e7
  refine v_load_vw (.c (.v _)) lay3 rfl rfl rfl ?_
  refine v_gtr lay3 rfl rfl (fun h8 => ?_) (fun h8 => ?_)
  · refine v_move rfl ?_
    refine v_guard_off rfl rfl rfl ?_
    refine v_guard_off rfl rfl rfl ?_
    refine v_guard_off rfl rfl rfl ?_
    refine v_guard_off rfl rfl rfl ?_
    refine v_guard_off rfl rfl rfl ?_
    refine v_pick_t (v := .v (.bool true)) rfl rfl ?_
    refine v_move rfl ?_
    refine v_guard_on rfl rfl ?_
    refine v_move rfl ?_
    refine v_guard_on rfl rfl ?_
    refine v_move rfl ?_
    refine v_guard_on rfl rfl ?_
    refine v_nil_vw rfl ?_
    refine v_guard_on rfl rfl ?_
    refine v_fa_vw (off' := 0) lay36 rfl rfl rfl ?_
    refine v_guard_on rfl rfl ?_
    refine v_load_vw (.c (.v _)) lay2 rfl rfl rfl ?_
    refine v_guard_on rfl rfl ?_
    refine v_idx (k := 1) int_len lay46 lay3 rfl rfl rfl (rfl) rfl (by show 0 ≤ kd ∧ kd < 7; omega) (fun q9 hq9 e9 => ?_)
    have w9 := ix_at hq9 e9
    refine v_guard_on rfl rfl ?_
    refine v_load_vw (.c (.v _)) lay3 rfl rfl rfl ?_
    refine v_guard_on rfl rfl ?_
    refine v_gtr lay3 rfl rfl (fun h10 => ?_) (fun h10 => ?_)
    · refine v_guard_on rfl rfl ?_
      refine v_move rfl ?_
      refine v_guard_off rfl rfl rfl ?_
      refine v_guard_off rfl rfl rfl ?_
      refine v_guard_off rfl rfl rfl ?_
      refine v_guard_off rfl rfl rfl ?_
      refine v_guard_off rfl rfl rfl ?_
      refine v_guard_on rfl rfl ?_
      refine v_pick_t (v := .v (.bool true)) rfl rfl ?_
      refine v_pick_t rfl rfl ?_
      refine v_move rfl ?_
      refine v_guard_on rfl rfl ?_
      refine v_move rfl ?_
      refine v_guard_on rfl rfl ?_
      refine v_move rfl ?_
      refine v_guard_on rfl rfl ?_
      refine v_nil_vw rfl ?_
      refine v_guard_on rfl rfl ?_
      refine v_fa_vw (off' := 0) lay36 rfl rfl rfl ?_
      refine v_guard_on rfl rfl ?_
      refine v_load_vw (.c (.v _)) lay2 rfl rfl rfl ?_
      refine v_guard_on rfl rfl ?_
      refine v_idx (k := 1) bo_len lay58 lay4 rfl rfl rfl (rfl) rfl (by show 0 ≤ kd ∧ kd < 7; omega) (fun q11 hq11 e11 => ?_)
      have w11 := ix_at hq11 e11
      refine v_guard_on rfl rfl ?_
      refine v_load_vwb lay4 rfl rfl rfl (fun h12 => ?_) (fun h12 => ?_)
      · refine v_guard_on rfl rfl ?_
        refine v_move rfl ?_
        refine v_guard_off rfl rfl rfl ?_
        refine v_guard_off rfl rfl rfl ?_
        refine v_guard_off rfl rfl rfl ?_
        refine v_guard_off rfl rfl rfl ?_
        refine v_guard_off rfl rfl rfl ?_
        refine v_guard_on rfl rfl ?_
        refine v_pick_t (v := .v (.bool true)) rfl rfl ?_
        refine v_pick_t rfl rfl ?_
        refine v_assign rfl ?_
        refine v_nil ?_
        refine q_n ?_
        refine w_ret ?_
        refine r_r rfl ?_
        exact a_b (by unfold actOk; grind)
      refine v_guard_on rfl rfl ?_
      refine v_move rfl ?_
      refine v_guard_on rfl rfl ?_
      refine v_move rfl ?_
      refine v_guard_on rfl rfl ?_
      refine v_nil_vw rfl ?_
      refine v_guard_on rfl rfl ?_
      refine v_fa_vw (off' := 4) lay36 rfl rfl rfl ?_
      refine v_guard_on rfl rfl ?_
      refine v_load_vw (.c (.f _ _)) lay32 rfl rfl rfl ?_
      refine v_guard_on rfl rfl ?_
      refine v_binb lay32 rfl rfl rfl (fun h13 => ?_) (fun h13 => ?_)
      · have g13 : (ford .f32 (some x) (fOf .f32 0) == some .eq) = true := h13
        refine v_guard_on rfl rfl ?_
        refine v_pick_f rfl rfl ?_
        refine v_pick_t rfl rfl ?_
        refine v_assign rfl ?_
        refine v_nil ?_
        refine q_n ?_
        refine w_ret ?_
        refine r_r rfl ?_
        exact a_b (by unfold actOk; grind)
      have g13 : (ford .f32 (some x) (fOf .f32 0) == some .eq) = false := h13
      refine v_guard_on rfl rfl ?_
      refine v_pick_f rfl rfl ?_
      refine v_pick_t rfl rfl ?_
      refine v_assign rfl ?_
      refine v_nil ?_
      refine q_n ?_
      refine w_ret ?_
      refine r_r rfl ?_
      exact a_b (by unfold actOk; grind)
    refine v_guard_on rfl rfl ?_
    refine v_move rfl ?_
    refine v_guard_on rfl rfl ?_
    refine v_move rfl ?_
    refine v_guard_on rfl rfl ?_
    refine v_nil_vw rfl ?_
    refine v_guard_on rfl rfl ?_
    refine v_fa_vw (off' := 3) lay36 rfl rfl rfl ?_
    refine v_guard_on rfl rfl ?_
    refine v_load_vw (.c (.v _)) lay2 rfl rfl rfl ?_
    refine v_guard_on rfl rfl ?_
    refine v_eql lay2 rfl rfl (fun h14 => ?_) (fun h14 => ?_)
    rotate_left
    · refine v_guard_on rfl rfl ?_
      refine v_pick_f rfl rfl ?_
      refine v_pick_t rfl rfl ?_
      refine v_move rfl ?_
      refine v_guard_off rfl rfl rfl ?_
      refine v_guard_off rfl rfl rfl ?_
      refine v_guard_off rfl rfl rfl ?_
      refine v_guard_off rfl rfl rfl ?_
      refine v_guard_off rfl rfl rfl ?_
      refine v_guard_off rfl rfl rfl ?_
      refine v_guard_off rfl rfl rfl ?_
      refine v_guard_off rfl rfl rfl ?_
      refine v_guard_un rfl rfl ?_
      refine v_guard_un rfl rfl ?_
      refine v_guard_un rfl rfl ?_
      refine v_guard_un rfl rfl ?_
      refine v_guard_un rfl rfl ?_
      refine v_guard_off rfl rfl rfl ?_
      refine v_pick_f (v := .v (.bool false)) rfl rfl ?_
      refine v_assign rfl ?_
      refine v_nil ?_
      refine q_n ?_
      refine w_ret ?_
      refine r_r rfl ?_
      exact a_b (by unfold actOk; grind)
    refine v_guard_on rfl rfl ?_
    refine v_pick_f rfl rfl ?_
    refine v_pick_t rfl rfl ?_
    refine v_move rfl ?_
    refine v_guard_on rfl rfl ?_
    refine v_move rfl ?_
    refine v_guard_on rfl rfl ?_
    refine v_move rfl ?_
    refine v_guard_on rfl rfl ?_
    refine v_nil_vw rfl ?_
    refine v_guard_on rfl rfl ?_
    refine v_fa_vw (off' := 0) lay36 rfl rfl rfl ?_
    refine v_guard_on rfl rfl ?_
    refine v_load_vw (.c (.v _)) lay2 rfl rfl rfl ?_
    refine v_guard_on rfl rfl ?_
    refine v_idx (k := 1) bo_len lay58 lay4 rfl rfl rfl (rfl) rfl (by show 0 ≤ kd ∧ kd < 7; omega) (fun q15 hq15 e15 => ?_)
    have w15 := ix_at hq15 e15
    refine v_guard_on rfl rfl ?_
    refine v_load_vwb lay4 rfl rfl rfl (fun h16 => ?_) (fun h16 => ?_)
    · refine v_guard_on rfl rfl ?_
      refine v_move rfl ?_
      refine v_guard_off rfl rfl rfl ?_
      refine v_guard_off rfl rfl rfl ?_
      refine v_guard_off rfl rfl rfl ?_
      refine v_guard_off rfl rfl rfl ?_
      refine v_guard_off rfl rfl rfl ?_
      refine v_guard_on rfl rfl ?_
      refine v_pick_t (v := .v (.bool true)) rfl rfl ?_
      refine v_pick_t rfl rfl ?_
      refine v_assign rfl ?_
      refine v_nil ?_
      refine q_n ?_
      refine w_ret ?_
      refine r_r rfl ?_
      exact a_b (by unfold actOk; grind)
    refine v_guard_on rfl rfl ?_
    refine v_move rfl ?_
    refine v_guard_on rfl rfl ?_
    refine v_move rfl ?_
    refine v_guard_on rfl rfl ?_
    refine v_nil_vw rfl ?_
    refine v_guard_on rfl rfl ?_
    refine v_fa_vw (off' := 4) lay36 rfl rfl rfl ?_
    refine v_guard_on rfl rfl ?_
    refine v_load_vw (.c (.f _ _)) lay32 rfl rfl rfl ?_
    refine v_guard_on rfl rfl ?_
    refine v_binb lay32 rfl rfl rfl (fun h17 => ?_) (fun h17 => ?_)
    · have g17 : (ford .f32 (some x) (fOf .f32 0) == some .eq) = true := h17
      refine v_guard_on rfl rfl ?_
      refine v_pick_f rfl rfl ?_
      refine v_pick_t rfl rfl ?_
      refine v_assign rfl ?_
      refine v_nil ?_
      refine q_n ?_
      refine w_ret ?_
      refine r_r rfl ?_
      exact a_b (by unfold actOk; grind)
    have g17 : (ford .f32 (some x) (fOf .f32 0) == some .eq) = false := h17
    refine v_guard_on rfl rfl ?_
    refine v_pick_f rfl rfl ?_
    refine v_pick_t rfl rfl ?_
    refine v_assign rfl ?_
    refine v_nil ?_
    refine q_n ?_
    refine w_ret ?_
    refine r_r rfl ?_
    exact a_b (by unfold actOk; grind)
  refine v_move rfl ?_
  refine v_guard_on rfl rfl ?_
  refine v_move rfl ?_
  refine v_guard_on rfl rfl ?_
  refine v_nil_vw rfl ?_
  refine v_guard_on rfl rfl ?_
  refine v_fa_vw (off' := 2) lay36 rfl rfl rfl ?_
  refine v_guard_on rfl rfl ?_
  refine v_load_vw (.c (.v _)) lay2 rfl rfl rfl ?_
  refine v_guard_on rfl rfl ?_
  refine v_eql lay2 rfl rfl (fun h18 => ?_) (fun h18 => ?_)
  rotate_left
  · refine v_pick_f rfl rfl ?_
    refine v_move rfl ?_
    refine v_guard_off rfl rfl rfl ?_
    refine v_guard_off rfl rfl rfl ?_
    refine v_guard_off rfl rfl rfl ?_
    refine v_guard_off rfl rfl rfl ?_
    refine v_guard_off rfl rfl rfl ?_
    refine v_guard_off rfl rfl rfl ?_
    refine v_guard_off rfl rfl rfl ?_
    refine v_guard_off rfl rfl rfl ?_
    refine v_guard_off rfl rfl rfl ?_
    refine v_guard_un rfl rfl ?_
    refine v_guard_un rfl rfl ?_
    refine v_guard_un rfl rfl ?_
    refine v_guard_un rfl rfl ?_
    refine v_guard_un rfl rfl ?_
    refine v_guard_off rfl rfl rfl ?_
    refine v_pick_f (v := .v (.bool false)) rfl rfl ?_
    refine v_move rfl ?_
    refine v_guard_off rfl rfl rfl ?_
    refine v_guard_off rfl rfl rfl ?_
    refine v_guard_off rfl rfl rfl ?_
    refine v_guard_off rfl rfl rfl ?_
    refine v_guard_off rfl rfl rfl ?_
    refine v_guard_off rfl rfl rfl ?_
    refine v_guard_off rfl rfl rfl ?_
    refine v_guard_off rfl rfl rfl ?_
    refine v_guard_un rfl rfl ?_
    refine v_guard_un rfl rfl ?_
    refine v_guard_un rfl rfl ?_
    refine v_guard_un rfl rfl ?_
    refine v_guard_un rfl rfl ?_
    refine v_guard_off rfl rfl rfl ?_
    refine v_pick_f (v := .v (.bool false)) rfl rfl ?_
    refine v_assign rfl ?_
    refine v_nil ?_
    refine q_n ?_
    refine w_ret ?_
    refine r_r rfl ?_
    exact a_b (by unfold actOk; grind)
  refine v_pick_f rfl rfl ?_
  refine v_move rfl ?_
  refine v_guard_on rfl rfl ?_
  refine v_move rfl ?_
  refine v_guard_on rfl rfl ?_
  refine v_move rfl ?_
  refine v_guard_on rfl rfl ?_
  refine v_nil_vw rfl ?_
  refine v_guard_on rfl rfl ?_
  refine v_fa_vw (off' := 0) lay36 rfl rfl rfl ?_
  refine v_guard_on rfl rfl ?_
  refine v_load_vw (.c (.v _)) lay2 rfl rfl rfl ?_
  refine v_guard_on rfl rfl ?_
  refine v_idx (k := 1) int_len lay46 lay3 rfl rfl rfl (rfl) rfl (by show 0 ≤ kd ∧ kd < 7; omega) (fun q19 hq19 e19 => ?_)
  have w19 := ix_at hq19 e19
  refine v_guard_on rfl rfl ?_
  refine v_load_vw (.c (.v _)) lay3 rfl rfl rfl ?_
  refine v_guard_on rfl rfl ?_
  refine v_gtr lay3 rfl rfl (fun h20 => ?_) (fun h20 => ?_)
  · refine v_guard_on rfl rfl ?_
    refine v_move rfl ?_
    refine v_guard_off rfl rfl rfl ?_
    refine v_guard_off rfl rfl rfl ?_
    refine v_guard_off rfl rfl rfl ?_
    refine v_guard_off rfl rfl rfl ?_
    refine v_guard_off rfl rfl rfl ?_
    refine v_guard_on rfl rfl ?_
    refine v_pick_t (v := .v (.bool true)) rfl rfl ?_
    refine v_pick_t rfl rfl ?_
    refine v_move rfl ?_
    refine v_guard_on rfl rfl ?_
    refine v_move rfl ?_
    refine v_guard_on rfl rfl ?_
    refine v_move rfl ?_
    refine v_guard_on rfl rfl ?_
    refine v_nil_vw rfl ?_
    refine v_guard_on rfl rfl ?_
    refine v_fa_vw (off' := 0) lay36 rfl rfl rfl ?_
    refine v_guard_on rfl rfl ?_
    refine v_load_vw (.c (.v _)) lay2 rfl rfl rfl ?_
    refine v_guard_on rfl rfl ?_
    refine v_idx (k := 1) bo_len lay58 lay4 rfl rfl rfl (rfl) rfl (by show 0 ≤ kd ∧ kd < 7; omega) (fun q21 hq21 e21 => ?_)
    have w21 := ix_at hq21 e21
    refine v_guard_on rfl rfl ?_
    refine v_load_vwb lay4 rfl rfl rfl (fun h22 => ?_) (fun h22 => ?_)
    · refine v_guard_on rfl rfl ?_
      refine v_move rfl ?_
      refine v_guard_off rfl rfl rfl ?_
      refine v_guard_off rfl rfl rfl ?_
      refine v_guard_off rfl rfl rfl ?_
      refine v_guard_off rfl rfl rfl ?_
      refine v_guard_off rfl rfl rfl ?_
      refine v_guard_on rfl rfl ?_
      refine v_pick_t (v := .v (.bool true)) rfl rfl ?_
      refine v_pick_t rfl rfl ?_
      refine v_assign rfl ?_
      refine v_nil ?_
      refine q_n ?_
      refine w_ret ?_
      refine r_r rfl ?_
      exact a_b (by unfold actOk; grind)
    refine v_guard_on rfl rfl ?_
    refine v_move rfl ?_
    refine v_guard_on rfl rfl ?_
    refine v_move rfl ?_
    refine v_guard_on rfl rfl ?_
    refine v_nil_vw rfl ?_
    refine v_guard_on rfl rfl ?_
    refine v_fa_vw (off' := 4) lay36 rfl rfl rfl ?_
    refine v_guard_on rfl rfl ?_
    refine v_load_vw (.c (.f _ _)) lay32 rfl rfl rfl ?_
    refine v_guard_on rfl rfl ?_
    refine v_binb lay32 rfl rfl rfl (fun h23 => ?_) (fun h23 => ?_)
    · have g23 : (ford .f32 (some x) (fOf .f32 0) == some .eq) = true := h23
      refine v_guard_on rfl rfl ?_
      refine v_pick_f rfl rfl ?_
      refine v_pick_t rfl rfl ?_
      refine v_assign rfl ?_
      refine v_nil ?_
      refine q_n ?_
      refine w_ret ?_
      refine r_r rfl ?_
      exact a_b (by unfold actOk; grind)
    have g23 : (ford .f32 (some x) (fOf .f32 0) == some .eq) = false := h23
    refine v_guard_on rfl rfl ?_
    refine v_pick_f rfl rfl ?_
    refine v_pick_t rfl rfl ?_
    refine v_assign rfl ?_
    refine v_nil ?_
    refine q_n ?_
    refine w_ret ?_
    refine r_r rfl ?_
    exact a_b (by unfold actOk; grind)
  refine v_guard_on rfl rfl ?_
  refine v_move rfl ?_
  refine v_guard_on rfl rfl ?_
  refine v_move rfl ?_
  refine v_guard_on rfl rfl ?_
  refine v_nil_vw rfl ?_
  refine v_guard_on rfl rfl ?_
  refine v_fa_vw (off' := 3) lay36 rfl rfl rfl ?_
  refine v_guard_on rfl rfl ?_
  refine v_load_vw (.c (.v _)) lay2 rfl rfl rfl ?_
  refine v_guard_on rfl rfl ?_
  refine v_eql lay2 rfl rfl (fun h24 => ?_) (fun h24 => ?_)
  rotate_left
  · refine v_guard_on rfl rfl ?_
    refine v_pick_f rfl rfl ?_
    refine v_pick_t rfl rfl ?_
    refine v_move rfl ?_
    refine v_guard_off rfl rfl rfl ?_
    refine v_guard_off rfl rfl rfl ?_
    refine v_guard_off rfl rfl rfl ?_
    refine v_guard_off rfl rfl rfl ?_
    refine v_guard_off rfl rfl rfl ?_
    refine v_guard_off rfl rfl rfl ?_
    refine v_guard_off rfl rfl rfl ?_
    refine v_guard_off rfl rfl rfl ?_
    refine v_guard_un rfl rfl ?_
    refine v_guard_un rfl rfl ?_
    refine v_guard_un rfl rfl ?_
    refine v_guard_un rfl rfl ?_
    refine v_guard_un rfl rfl ?_
    refine v_guard_off rfl rfl rfl ?_
    refine v_pick_f (v := .v (.bool false)) rfl rfl ?_
    refine v_assign rfl ?_
    refine v_nil ?_
    refine q_n ?_
    refine w_ret ?_
    refine r_r rfl ?_
    exact a_b (by unfold actOk; grind)
  refine v_guard_on rfl rfl ?_
  refine v_pick_f rfl rfl ?_
  refine v_pick_t rfl rfl ?_
  refine v_move rfl ?_
  refine v_guard_on rfl rfl ?_
  refine v_move rfl ?_
  refine v_guard_on rfl rfl ?_
  refine v_move rfl ?_
  refine v_guard_on rfl rfl ?_
  refine v_nil_vw rfl ?_
  refine v_guard_on rfl rfl ?_
  refine v_fa_vw (off' := 0) lay36 rfl rfl rfl ?_
  refine v_guard_on rfl rfl ?_
  refine v_load_vw (.c (.v _)) lay2 rfl rfl rfl ?_
  refine v_guard_on rfl rfl ?_
  refine v_idx (k := 1) bo_len lay58 lay4 rfl rfl rfl (rfl) rfl (by show 0 ≤ kd ∧ kd < 7; omega) (fun q25 hq25 e25 => ?_)
  have w25 := ix_at hq25 e25
  refine v_guard_on rfl rfl ?_
  refine v_load_vwb lay4 rfl rfl rfl (fun h26 => ?_) (fun h26 => ?_)
  · refine v_guard_on rfl rfl ?_
    refine v_move rfl ?_
    refine v_guard_off rfl rfl rfl ?_
    refine v_guard_off rfl rfl rfl ?_
    refine v_guard_off rfl rfl rfl ?_
    refine v_guard_off rfl rfl rfl ?_
    refine v_guard_off rfl rfl rfl ?_
    refine v_guard_on rfl rfl ?_
    refine v_pick_t (v := .v (.bool true)) rfl rfl ?_
    refine v_pick_t rfl rfl ?_
    refine v_assign rfl ?_
    refine v_nil ?_
    refine q_n ?_
    refine w_ret ?_
    refine r_r rfl ?_
    exact a_b (by unfold actOk; grind)
  refine v_guard_on rfl rfl ?_
  refine v_move rfl ?_
  refine v_guard_on rfl rfl ?_
  refine v_move rfl ?_
  refine v_guard_on rfl rfl ?_
  refine v_nil_vw rfl ?_
  refine v_guard_on rfl rfl ?_
  refine v_fa_vw (off' := 4) lay36 rfl rfl rfl ?_
  refine v_guard_on rfl rfl ?_
  refine v_load_vw (.c (.f _ _)) lay32 rfl rfl rfl ?_
  refine v_guard_on rfl rfl ?_
  refine v_binb lay32 rfl rfl rfl (fun h27 => ?_) (fun h27 => ?_)
  · have g27 : (ford .f32 (some x) (fOf .f32 0) == some .eq) = true := h27
    refine v_guard_on rfl rfl ?_
    refine v_pick_f rfl rfl ?_
    refine v_pick_t rfl rfl ?_
    refine v_assign rfl ?_
    refine v_nil ?_
    refine q_n ?_
    refine w_ret ?_
    refine r_r rfl ?_
    exact a_b (by unfold actOk; grind)
  have g27 : (ford .f32 (some x) (fOf .f32 0) == some .eq) = false := h27
  refine v_guard_on rfl rfl ?_
  refine v_pick_f rfl rfl ?_
  refine v_pick_t rfl rfl ?_
  refine v_assign rfl ?_
  refine v_nil ?_
  refine q_n ?_
  refine w_ret ?_
  refine r_r rfl ?_
  exact a_b (by unfold actOk; grind)

theorem cActS0 (kd a b c : Int) : PureC X 31 [.c (.vw false (act kd a b c none) 0)] (cB (decide (actOk kd a b c none))) := by
  refine PureC.of_body (drawD_ok X) (fun _ _ => Go.Proofs.Tryd.call31 _ _) Go.Proofs.Tryd.func31 rfl (n := 105) rfl ?_
  refine w_seq ?_
  refine w_reg rfl ?_
  refine v_assign (c := .v (.bool false)) rfl ?_
  refine v_nil ?_
  refine q_n ?_
  refine w_seq ?_
  refine w_seq ?_
  refine w_reg rfl ?_
  refine v_move rfl ?_
  refine v_nil_vw rfl ?_
  refine v_fa_vw (off' := 0) lay36 rfl rfl rfl ?_
  refine v_load_vw (.c (.v _)) lay2 rfl rfl rfl ?_
  refine v_callb (cIn _ _ _) rfl rfl (.cons vw_v (.cons vw_v (.cons vw_v .nil))) (fun h1 => ?_) (fun h1 => ?_)
  rotate_left
  · refine v_not true rfl rfl ?_
    refine v_move rfl ?_
    refine v_guard_off rfl rfl rfl ?_
    refine v_guard_off rfl rfl rfl ?_
    refine v_guard_off rfl rfl rfl ?_
    refine v_guard_off rfl rfl rfl ?_
    refine v_guard_off rfl rfl rfl ?_
    refine v_guard_off rfl rfl rfl ?_
    refine v_pick_t (v := .v (.bool true)) rfl rfl ?_
    refine v_move rfl ?_
    refine v_guard_off rfl rfl rfl ?_
    refine v_guard_off rfl rfl rfl ?_
    refine v_guard_off rfl rfl rfl ?_
    refine v_guard_off rfl rfl rfl ?_
    refine v_guard_off rfl rfl rfl ?_
    refine v_guard_off rfl rfl rfl ?_
    refine v_pick_t (v := .v (.bool true)) rfl rfl ?_
    refine v_move rfl ?_
    refine v_guard_off rfl rfl rfl ?_
    refine v_guard_off rfl rfl rfl ?_
    refine v_guard_off rfl rfl rfl ?_
    refine v_guard_off rfl rfl rfl ?_
    refine v_guard_off rfl rfl rfl ?_
    refine v_guard_off rfl rfl rfl ?_
    refine v_pick_t (v := .v (.bool true)) rfl rfl ?_
    refine v_move rfl ?_
    refine v_guard_off rfl rfl rfl ?_
    refine v_guard_off rfl rfl rfl ?_
    refine v_guard_off rfl rfl rfl ?_
    refine v_guard_off rfl rfl rfl ?_
    refine v_guard_off rfl rfl rfl ?_
    refine v_guard_off rfl rfl rfl ?_
    refine v_pick_t (v := .v (.bool true)) rfl rfl ?_
    refine v_move rfl ?_
    refine v_guard_off rfl rfl rfl ?_
    refine v_guard_off rfl rfl rfl ?_
    refine v_guard_off rfl rfl rfl ?_
    refine v_guard_off rfl rfl rfl ?_
    refine v_guard_off rfl rfl rfl ?_
    refine v_guard_off rfl rfl rfl ?_
    refine v_pick_t (v := .v (.bool true)) rfl rfl ?_
    refine v_nil ?_
    refine q_n ?_
    refine w_t rfl ?_
    refine w_seq ?_
    refine w_reg rfl ?_
    refine v_assign (c := .v (.bool false)) rfl ?_
    refine v_nil ?_
    refine q_n ?_
    refine w_ret (q_r ?_)
    refine r_r rfl ?_
    exact a_b (by unfold actOk; first | grind | (constructor <;> intro hh <;> first | (cases hh; done) | exact absurd hh.2.2.2.2.1 (by decide)))
  refine v_not false rfl rfl ?_
  refine v_move rfl ?_
  refine v_guard_on rfl rfl ?_
  refine v_move rfl ?_
  refine v_guard_on rfl rfl ?_
  refine v_nil_vw rfl ?_
  refine v_guard_on rfl rfl ?_
  refine v_fa_vw (off' := 1) lay36 rfl rfl rfl ?_
  refine v_guard_on rfl rfl ?_
  refine v_load_vw (.c (.v _)) lay2 rfl rfl rfl ?_
  refine v_guard_on rfl rfl ?_
  refine v_callb (cIn _ _ _) rfl rfl (.cons vw_v (.cons vw_v (.cons vw_v .nil))) (fun h2 => ?_) (fun h2 => ?_)
  rotate_left
  · refine v_guard_on rfl rfl ?_
    refine v_not true rfl rfl ?_
    refine v_pick_f rfl rfl ?_
    refine v_move rfl ?_
    refine v_guard_off rfl rfl rfl ?_
    refine v_guard_off rfl rfl rfl ?_
    refine v_guard_off rfl rfl rfl ?_
    refine v_guard_off rfl rfl rfl ?_
    refine v_guard_off rfl rfl rfl ?_
    refine v_guard_off rfl rfl rfl ?_
    refine v_pick_t (v := .v (.bool true)) rfl rfl ?_
    refine v_move rfl ?_
    refine v_guard_off rfl rfl rfl ?_
    refine v_guard_off rfl rfl rfl ?_
    refine v_guard_off rfl rfl rfl ?_
    refine v_guard_off rfl rfl rfl ?_
    refine v_guard_off rfl rfl rfl ?_
    refine v_guard_off rfl rfl rfl ?_
    refine v_pick_t (v := .v (.bool true)) rfl rfl ?_
    refine v_move rfl ?_
    refine v_guard_off rfl rfl rfl ?_
    refine v_guard_off rfl rfl rfl ?_
    refine v_guard_off rfl rfl rfl ?_
    refine v_guard_off rfl rfl rfl ?_
    refine v_guard_off rfl rfl rfl ?_
    refine v_guard_off rfl rfl rfl ?_
    refine v_pick_t (v := .v (.bool true)) rfl rfl ?_
    refine v_move rfl ?_
    refine v_guard_off rfl rfl rfl ?_
    refine v_guard_off rfl rfl rfl ?_
    refine v_guard_off rfl rfl rfl ?_
    refine v_guard_off rfl rfl rfl ?_
    refine v_guard_off rfl rfl rfl ?_
    refine v_guard_off rfl rfl rfl ?_
    refine v_pick_t (v := .v (.bool true)) rfl rfl ?_
    refine v_nil ?_
    refine q_n ?_
    refine w_t rfl ?_
    refine w_seq ?_
    refine w_reg rfl ?_
    refine v_assign (c := .v (.bool false)) rfl ?_
    refine v_nil ?_
    refine q_n ?_
    refine w_ret (q_r ?_)
    refine r_r rfl ?_
    exact a_b (by unfold actOk; first | grind | (constructor <;> intro hh <;> first | (cases hh; done) | exact absurd hh.2.2.2.2.1 (by decide)))
  refine v_guard_on rfl rfl ?_
  refine v_not false rfl rfl ?_
  refine v_pick_f rfl rfl ?_
  refine v_move rfl ?_
  refine v_guard_on rfl rfl ?_
  refine v_move rfl ?_
  refine v_guard_on rfl rfl ?_
  refine v_nil_vw rfl ?_
  refine v_guard_on rfl rfl ?_
  refine v_fa_vw (off' := 2) lay36 rfl rfl rfl ?_
  refine v_guard_on rfl rfl ?_
  refine v_load_vw (.c (.v _)) lay2 rfl rfl rfl ?_
  refine v_guard_on rfl rfl ?_
  refine v_callb (cIn _ _ _) rfl rfl (.cons vw_v (.cons vw_v (.cons vw_v .nil))) (fun h3 => ?_) (fun h3 => ?_)
  rotate_left
  · refine v_guard_on rfl rfl ?_
    refine v_not true rfl rfl ?_
    refine v_pick_f rfl rfl ?_
    refine v_move rfl ?_
    refine v_guard_off rfl rfl rfl ?_
    refine v_guard_off rfl rfl rfl ?_
    refine v_guard_off rfl rfl rfl ?_
    refine v_guard_off rfl rfl rfl ?_
    refine v_guard_off rfl rfl rfl ?_
    refine v_guard_off rfl rfl rfl ?_
    refine v_pick_t (v := .v (.bool true)) rfl rfl ?_
    refine v_move rfl ?_
    refine v_guard_off rfl rfl rfl ?_
    refine v_guard_off rfl rfl rfl ?_
    refine v_guard_off rfl rfl rfl ?_
    refine v_guard_off rfl rfl rfl ?_
    refine v_guard_off rfl rfl rfl ?_
    refine v_guard_off rfl rfl rfl ?_
    refine v_pick_t (v := .v (.bool true)) rfl rfl ?_
    refine v_move rfl ?_
    refine v_guard_off rfl rfl rfl ?_
    refine v_guard_off rfl rfl rfl ?_
    refine v_guard_off rfl rfl rfl ?_
    refine v_guard_off rfl rfl rfl ?_
    refine v_guard_off rfl rfl rfl ?_
    refine v_guard_off rfl rfl rfl ?_
    refine v_pick_t (v := .v (.bool true)) rfl rfl ?_
    refine v_nil ?_
    refine q_n ?_
    refine w_t rfl ?_
    refine w_seq ?_
    refine w_reg rfl ?_
    refine v_assign (c := .v (.bool false)) rfl ?_
    refine v_nil ?_
    refine q_n ?_
    refine w_ret (q_r ?_)
    refine r_r rfl ?_
    exact a_b (by unfold actOk; first | grind | (constructor <;> intro hh <;> first | (cases hh; done) | exact absurd hh.2.2.2.2.1 (by decide)))
  refine v_guard_on rfl rfl ?_
  refine v_not false rfl rfl ?_
  refine v_pick_f rfl rfl ?_
  refine v_move rfl ?_
  refine v_guard_on rfl rfl ?_
  refine v_move rfl ?_
  refine v_guard_on rfl rfl ?_
  refine v_nil_vw rfl ?_
  refine v_guard_on rfl rfl ?_
  refine v_fa_vw (off' := 3) lay36 rfl rfl rfl ?_
  refine v_guard_on rfl rfl ?_
  refine v_load_vw (.c (.v _)) lay2 rfl rfl rfl ?_
  refine v_guard_on rfl rfl ?_
  refine v_callb (cIn _ _ _) rfl rfl (.cons vw_v (.cons vw_v (.cons vw_v .nil))) (fun h4 => ?_) (fun h4 => ?_)
  rotate_left
  · refine v_guard_on rfl rfl ?_
    refine v_not true rfl rfl ?_
    refine v_pick_f rfl rfl ?_
    refine v_move rfl ?_
    refine v_guard_off rfl rfl rfl ?_
    refine v_guard_off rfl rfl rfl ?_
    refine v_guard_off rfl rfl rfl ?_
    refine v_guard_off rfl rfl rfl ?_
    refine v_guard_off rfl rfl rfl ?_
    refine v_guard_off rfl rfl rfl ?_
    refine v_pick_t (v := .v (.bool true)) rfl rfl ?_
    refine v_move rfl ?_
    refine v_guard_off rfl rfl rfl ?_
    refine v_guard_off rfl rfl rfl ?_
    refine v_guard_off rfl rfl rfl ?_
    refine v_guard_off rfl rfl rfl ?_
    refine v_guard_off rfl rfl rfl ?_
    refine v_guard_off rfl rfl rfl ?_
    refine v_pick_t (v := .v (.bool true)) rfl rfl ?_
    refine v_nil ?_
    refine q_n ?_
    refine w_t rfl ?_
    refine w_seq ?_
    refine w_reg rfl ?_
    refine v_assign (c := .v (.bool false)) rfl ?_
    refine v_nil ?_
    refine q_n ?_
    refine w_ret (q_r ?_)
    refine r_r rfl ?_
    exact a_b (by unfold actOk; first | grind | (constructor <;> intro hh <;> first | (cases hh; done) | exact absurd hh.2.2.2.2.1 (by decide)))
  refine v_guard_on rfl rfl ?_
  refine v_not false rfl rfl ?_
  refine v_pick_f rfl rfl ?_
  refine v_move rfl ?_
  refine v_guard_on rfl rfl ?_
  refine v_move rfl ?_
  refine v_guard_on rfl rfl ?_
  refine v_nil_vw rfl ?_
  refine v_guard_on rfl rfl ?_
  refine v_fa_vw (off' := 4) lay36 rfl rfl rfl ?_
  refine v_guard_on rfl rfl ?_
  refine v_load_vw (.c (.f _ _)) lay32 rfl rfl rfl ?_
  refine v_guard_on rfl rfl ?_
  refine v_callb (cFinS _) rfl rfl (.cons vw_f .nil) (fun h5 => ?_) (fun h5 => ?_)
  · exact absurd h5 (by decide)
  refine v_guard_on rfl rfl ?_
  refine v_not true rfl rfl ?_
  refine v_pick_f rfl rfl ?_
  refine v_move rfl ?_
  refine v_guard_off rfl rfl rfl ?_
  refine v_guard_off rfl rfl rfl ?_
  refine v_guard_off rfl rfl rfl ?_
  refine v_guard_off rfl rfl rfl ?_
  refine v_guard_off rfl rfl rfl ?_
  refine v_guard_off rfl rfl rfl ?_
  refine v_pick_t (v := .v (.bool true)) rfl rfl ?_
  refine v_nil ?_
  refine q_n ?_
  refine w_t rfl ?_
  refine w_seq ?_
  refine w_reg rfl ?_
  refine v_assign (c := .v (.bool false)) rfl ?_
  refine v_nil ?_
  refine q_n ?_
  refine w_ret (q_r ?_)
  refine r_r rfl ?_
  exact a_b (by unfold actOk; first | grind | (constructor <;> intro hh <;> first | (cases hh; done) | exact absurd hh.2.2.2.2.1 (by decide)))

theorem cActS (kd a b c : Int) (x : Option Nat) : PureC X 31 [.c (.vw false (act kd a b c x) 0)] (cB (decide (actOk kd a b c x))) := by
  cases x with
  | none => exact cActS0 kd a b c
  | some x => exact cActS1 kd a b c x

theorem cActI1 (kd a b c : Int) (x w : Nat) (hb : x < 2 ^ 32) (hw : convF .f32 .f64 (some x) = some (some w)) : PureC X 34 [.agg (act kd a b c (some x))] (cB (decide (actOk kd a b c (some x)))) := by
  refine PureC.of_body (drawD_ok X) (fun _ _ => Go.Proofs.Tryd.call34 _ _) Go.Proofs.Tryd.func34 rfl (n := 64) rfl ?_
  refine w_seq ?_
  refine w_reg rfl ?_
  refine v_box (m := 0) (H' := [_]) lay36 rfl rfl rfl ?_
  refine v_assign (c := .v (.bool false)) rfl ?_
  refine v_nil ?_
  refine q_n ?_
  refine w_seq ?_
  refine w_seq ?_
  refine w_reg rfl ?_
  refine v_fa_pt (off' := 0) lay36 rfl rfl rfl ?_
  refine v_load_pt (.c _) lay2 rfl rfl rfl rfl ?_
  refine v_callb (cInR _ _ _) rfl rfl (.cons vw_v (.cons vw_v (.cons vw_v .nil))) (fun h1 => ?_) (fun h1 => ?_)
  rotate_left
  · refine v_not true rfl rfl ?_
    refine v_move rfl ?_
    refine v_guard_off rfl rfl rfl ?_
    refine v_guard_off rfl rfl rfl ?_
    refine v_guard_off rfl rfl rfl ?_
    refine v_guard_off rfl rfl rfl ?_
    refine v_pick_t (v := .v (.bool true)) rfl rfl ?_
    refine v_move rfl ?_
    refine v_guard_off rfl rfl rfl ?_
    refine v_guard_off rfl rfl rfl ?_
    refine v_guard_off rfl rfl rfl ?_
    refine v_guard_off rfl rfl rfl ?_
    refine v_guard_un rfl rfl ?_
    refine v_guard_un rfl rfl ?_
    refine v_guard_un rfl rfl ?_
    refine v_guard_un rfl rfl ?_
    refine v_guard_off rfl rfl rfl ?_
    refine v_pick_t (v := .v (.bool true)) rfl rfl ?_
    refine v_nil ?_
    refine q_n ?_
    refine w_t rfl ?_
    refine w_seq ?_
    refine w_reg rfl ?_
    refine v_assign (c := .v (.bool false)) rfl ?_
    refine v_nil ?_
    refine q_n ?_
    refine w_ret (q_r ?_)
    refine r_r rfl ?_
    exact a_b (by unfold actOk; grind)
  refine v_not false rfl rfl ?_
  refine v_move rfl ?_
  refine v_guard_on rfl rfl ?_
  refine v_fa_pt (off' := 4) lay36 rfl rfl rfl ?_
  refine v_guard_on rfl rfl ?_
  refine v_load_pt (.c _) lay32 rfl rfl rfl rfl ?_
  refine v_guard_on rfl rfl ?_
  refine v_callb (cFinI _) rfl rfl (.cons vw_f .nil) (fun h2 => ?_) (fun h2 => ?_)
  rotate_left
  · refine v_guard_on rfl rfl ?_
    refine v_not true rfl rfl ?_
    refine v_pick_f rfl rfl ?_
    refine v_move rfl ?_
    refine v_guard_off rfl rfl rfl ?_
    refine v_guard_off rfl rfl rfl ?_
    refine v_guard_off rfl rfl rfl ?_
    refine v_guard_off rfl rfl rfl ?_
    refine v_guard_un rfl rfl ?_
    refine v_guard_un rfl rfl ?_
    refine v_guard_un rfl rfl ?_
    refine v_guard_un rfl rfl ?_
    refine v_guard_off rfl rfl rfl ?_
    refine v_pick_t (v := .v (.bool true)) rfl rfl ?_
    refine v_nil ?_
    refine q_n ?_
    refine w_t rfl ?_
    refine w_seq ?_
    refine w_reg rfl ?_
    refine v_assign (c := .v (.bool false)) rfl ?_
    refine v_nil ?_
    refine q_n ?_
    refine w_ret (q_r ?_)
    refine r_r rfl ?_
    exact a_b (by unfold actOk; grind)
  have nz := neg_zero hb hw h2
  refine v_guard_on rfl rfl ?_
  refine v_not false rfl rfl ?_
  refine v_pick_f rfl rfl ?_
  refine v_move rfl ?_
  refine v_guard_on rfl rfl ?_
  refine v_fa_pt (off' := 4) lay36 rfl rfl rfl ?_
  refine v_guard_on rfl rfl ?_
  refine v_load_pt (.c _) lay32 rfl rfl rfl rfl ?_
  refine v_guard_on rfl rfl ?_
  refine v_binb lay32 rfl rfl rfl (fun h3 => ?_) (fun h3 => ?_)
  rotate_left
  · have g3 : (ford .f32 (some x) (fOf .f32 0) == some .eq) = false := h3
    refine v_guard_on rfl rfl ?_
    refine v_move rfl ?_
    refine v_guard_off rfl rfl rfl ?_
    refine v_guard_off rfl rfl rfl ?_
    refine v_guard_off rfl rfl rfl ?_
    refine v_guard_off rfl rfl rfl ?_
    refine v_guard_on rfl rfl ?_
    refine v_pick_f (v := .v (.bool false)) rfl rfl ?_
    refine v_pick_f rfl rfl ?_
    refine v_nil ?_
    refine q_n ?_
    refine w_f rfl ?_
    refine w_skip ?_
    refine q_n ?_
    refine w_seq ?_
    refine w_reg rfl ?_
    refine v_fa_pt (off' := 0) lay36 rfl rfl rfl ?_
    refine v_load_pt (.c _) lay2 rfl rfl rfl rfl ?_
    refine v_sub lay2 rfl rfl (i64r (by omega)) ?_
    refine v_idx_av (k := 3) lay65 lay64 rfl rfl rfl (by omega) (fun qZ hqZ eZ => ?_)
    have fZ := form_at2 hqZ eZ
    refine v_load_av (q := qZ) formL (.agg [.v _, .v _, .v _]) fenc_len lay64 rfl rfl rfl (by show qZ < 6; omega) rfl ?_
    refine v_alloc (m := 1) (H' := [_, ⟨[.v _, .v _, .v _], 64, true⟩]) lay64 rfl rfl ?_
    refine v_store (H' := [_, ⟨[_, _, _], 64, true⟩]) lay64 rfl rfl rfl rfl rfl rfl ?_
    refine v_nil ?_
    refine q_n ?_
    refine w_seq ?_
    refine w_seq ?_
    refine w_reg rfl ?_
    refine v_fa_pt (off' := 1) lay36 rfl rfl rfl ?_
    refine v_load_pt (.c _) lay2 rfl rfl rfl rfl ?_
    refine v_fa_pt (off' := 2) lay36 rfl rfl rfl ?_
    refine v_load_pt (.c _) lay2 rfl rfl rfl rfl ?_
    refine v_fa_pt (off' := 3) lay36 rfl rfl rfl ?_
    refine v_load_pt (.c _) lay2 rfl rfl rfl rfl ?_
    refine v_build_a [.v _, .v _, .v _] lay66 lay2 rfl ?_
    refine v_move (c := .v (.int .i64 0)) rfl ?_
    refine v_nil ?_
    refine q_n ?_
    refine w_block ?_
    refine w_loop (fun k sl H => ∃ i : Nat, k = 3 - i ∧ i ≤ 3 ∧ (1 ≤ i → 0 ≤ a ∧ a ≤ 999) ∧ (2 ≤ i → (0 ≤ b ∧ b ≤ 999) ∧ (1 < formL[qZ].2.1 ∨ b = 0)) ∧ (3 ≤ i → (0 ≤ c ∧ c ≤ 999) ∧ (2 < formL[qZ].2.1 ∨ c = 0)) ∧ sl = sls [(1, .c (.pt 0 0)), (3, .c (.pt 1 0)), (38, .agg [.v (.int .i64 a), .v (.int .i64 b), .v (.int .i64 c)]), (39, cI i)] ∧ H = [⟨act kd a b c (some x), 36, true⟩, ⟨fenc formL[qZ], 64, true⟩]) ?_ ?_
    · refine ⟨_, _, _, ?_, 0, rfl, by omega, by intro; omega, by intro; omega, by intro; omega, rfl, rfl⟩
      exact turn [some 0, some 1] rfl rfl rfl ⟨⟨_, rfl, trc_act⟩, ⟨_, rfl, trc_form⟩, trivial⟩ ⟨tr_pt rfl, tr_pt rfl, tr_agg (.cons tr_v (.cons tr_v (.cons tr_v .nil))), tr_v, trivial⟩
    rintro k sl H ⟨i, rfl, hi, p1, p2, p3, rfl, rfl⟩
    rcases (by omega : i = 0 ∨ i = 1 ∨ i = 2 ∨ i = 3) with rfl | rfl | rfl | rfl
    · skip
      refine w_seq ?_
      refine w_reg rfl ?_
      refine v_lss lay3 rfl rfl (fun h22 => ?_) (fun h22 => ?_)
      rotate_left
      · exact absurd (by decide) h22
      refine v_nil ?_
      refine q_n ?_
      refine w_seq ?_
      refine w_t rfl ?_
      refine w_skip ?_
      refine q_n ?_
      refine w_seq ?_
      refine w_block ?_
      refine w_seq ?_
      refine w_reg rfl ?_
      refine v_move rfl ?_
      refine v_index (.c _) lay66 lay2 rfl rfl ⟨by decide, by decide, Nat.le_of_ble_eq_true rfl⟩ rfl ?_
      refine v_assign rfl ?_
      refine v_assign rfl ?_
      refine v_nil ?_
      refine q_n ?_
      refine w_seq ?_
      refine w_reg rfl ?_
      refine v_move rfl ?_
      refine v_callb (cInR _ _ _) rfl rfl (.cons vw_v (.cons vw_v (.cons vw_v .nil))) (fun h23 => ?_) (fun h23 => ?_)
      rotate_left
      · refine v_not true rfl rfl ?_
        refine v_move rfl ?_
        refine v_guard_off rfl rfl rfl ?_
        refine v_guard_off rfl rfl rfl ?_
        refine v_guard_off rfl rfl rfl ?_
        refine v_guard_off rfl rfl rfl ?_
        refine v_guard_off rfl rfl rfl ?_
        refine v_guard_un rfl rfl ?_
        refine v_guard_un rfl rfl ?_
        refine v_guard_off rfl rfl rfl ?_
        refine v_pick_t (v := .v (.bool true)) rfl rfl ?_
        refine v_nil ?_
        refine q_n ?_
        refine w_t rfl ?_
        refine w_seq ?_
        refine w_reg rfl ?_
        refine v_assign (c := .v (.bool false)) rfl ?_
        refine v_nil ?_
        refine q_n ?_
        refine w_ret (q_br (q_r (q_r (q_br (q_r ?_)))))
        refine r_r rfl ?_
        exact a_b (by unfold actOk; grind)
      refine v_not false rfl rfl ?_
      refine v_move rfl ?_
      refine v_guard_on rfl rfl ?_
      refine v_move rfl ?_
      refine v_guard_on rfl rfl ?_
      refine v_fa_pt (off' := 1) lay64 rfl rfl rfl ?_
      refine v_guard_on rfl rfl ?_
      refine v_load_pt (.c _) lay3 rfl rfl rfl rfl ?_
      refine v_guard_on rfl rfl ?_
      refine v_geq lay3 rfl rfl (fun h24 => ?_) (fun h24 => ?_)
      rotate_left
      · refine v_guard_on rfl rfl ?_
        refine v_move rfl ?_
        refine v_guard_off rfl rfl rfl ?_
        refine v_guard_off rfl rfl rfl ?_
        refine v_guard_on rfl rfl ?_
        refine v_pick_f (v := .v (.bool false)) rfl rfl ?_
        refine v_pick_f rfl rfl ?_
        refine v_nil ?_
        refine q_n ?_
        refine w_f rfl ?_
        refine w_skip ?_
        refine q_bn ?_
        refine q_n ?_
        refine w_reg rfl ?_
        refine v_add lay3 rfl rfl (i64r (by omega)) ?_
        refine v_move rfl ?_
        refine v_nil ?_
        refine q_n ?_
        refine ⟨_, _, _, ?_, ⟨1, rfl, by omega, by intro; omega, by intro; first | (exfalso; omega) | grind, by intro; first | (exfalso; omega) | grind, rfl, rfl⟩, by omega⟩
        exact turn [some 0, some 1] rfl rfl rfl ⟨⟨_, rfl, trc_act⟩, ⟨_, rfl, trc_form⟩, trivial⟩ ⟨tr_pt rfl, tr_pt rfl, tr_agg (.cons tr_v (.cons tr_v (.cons tr_v .nil))), tr_v, trivial⟩
      refine v_guard_on rfl rfl ?_
      refine v_move rfl ?_
      refine v_guard_on rfl rfl ?_
      refine v_move rfl ?_
      refine v_guard_on rfl rfl ?_
      refine v_neq lay2 rfl rfl (fun h25 => ?_) (fun h25 => ?_)
      · refine v_guard_on rfl rfl ?_
        refine v_pick_t rfl rfl ?_
        refine v_pick_f rfl rfl ?_
        refine v_nil ?_
        refine q_n ?_
        refine w_t rfl ?_
        refine w_seq ?_
        refine w_reg rfl ?_
        refine v_assign (c := .v (.bool false)) rfl ?_
        refine v_nil ?_
        refine q_n ?_
        refine w_ret (q_br (q_r (q_r (q_br (q_r ?_)))))
        refine r_r rfl ?_
        exact a_b (by unfold actOk; grind)
      refine v_guard_on rfl rfl ?_
      refine v_pick_t rfl rfl ?_
      refine v_pick_f rfl rfl ?_
      refine v_nil ?_
      refine q_n ?_
      refine w_f rfl ?_
      refine w_skip ?_
      refine q_bn ?_
      refine q_n ?_
      refine w_reg rfl ?_
      refine v_add lay3 rfl rfl (i64r (by omega)) ?_
      refine v_move rfl ?_
      refine v_nil ?_
      refine q_n ?_
      refine ⟨_, _, _, ?_, ⟨1, rfl, by omega, by intro; omega, by intro; first | (exfalso; omega) | grind, by intro; first | (exfalso; omega) | grind, rfl, rfl⟩, by omega⟩
      exact turn [some 0, some 1] rfl rfl rfl ⟨⟨_, rfl, trc_act⟩, ⟨_, rfl, trc_form⟩, trivial⟩ ⟨tr_pt rfl, tr_pt rfl, tr_agg (.cons tr_v (.cons tr_v (.cons tr_v .nil))), tr_v, trivial⟩
    · skip
      refine w_seq ?_
      refine w_reg rfl ?_
      refine v_lss lay3 rfl rfl (fun h26 => ?_) (fun h26 => ?_)
      rotate_left
      · exact absurd (by decide) h26
      refine v_nil ?_
      refine q_n ?_
      refine w_seq ?_
      refine w_t rfl ?_
      refine w_skip ?_
      refine q_n ?_
      refine w_seq ?_
      refine w_block ?_
      refine w_seq ?_
      refine w_reg rfl ?_
      refine v_move rfl ?_
      refine v_index (.c _) lay66 lay2 rfl rfl ⟨by decide, by decide, Nat.le_of_ble_eq_true rfl⟩ rfl ?_
      refine v_assign rfl ?_
      refine v_assign rfl ?_
      refine v_nil ?_
      refine q_n ?_
      refine w_seq ?_
      refine w_reg rfl ?_
      refine v_move rfl ?_
      refine v_callb (cInR _ _ _) rfl rfl (.cons vw_v (.cons vw_v (.cons vw_v .nil))) (fun h27 => ?_) (fun h27 => ?_)
      rotate_left
      · refine v_not true rfl rfl ?_
        refine v_move rfl ?_
        refine v_guard_off rfl rfl rfl ?_
        refine v_guard_off rfl rfl rfl ?_
        refine v_guard_off rfl rfl rfl ?_
        refine v_guard_off rfl rfl rfl ?_
        refine v_guard_off rfl rfl rfl ?_
        refine v_guard_un rfl rfl ?_
        refine v_guard_un rfl rfl ?_
        refine v_guard_off rfl rfl rfl ?_
        refine v_pick_t (v := .v (.bool true)) rfl rfl ?_
        refine v_nil ?_
        refine q_n ?_
        refine w_t rfl ?_
        refine w_seq ?_
        refine w_reg rfl ?_
        refine v_assign (c := .v (.bool false)) rfl ?_
        refine v_nil ?_
        refine q_n ?_
        refine w_ret (q_br (q_r (q_r (q_br (q_r ?_)))))
        refine r_r rfl ?_
        exact a_b (by unfold actOk; grind)
      refine v_not false rfl rfl ?_
      refine v_move rfl ?_
      refine v_guard_on rfl rfl ?_
      refine v_move rfl ?_
      refine v_guard_on rfl rfl ?_
      refine v_fa_pt (off' := 1) lay64 rfl rfl rfl ?_
      refine v_guard_on rfl rfl ?_
      refine v_load_pt (.c _) lay3 rfl rfl rfl rfl ?_
      refine v_guard_on rfl rfl ?_
      refine v_geq lay3 rfl rfl (fun h28 => ?_) (fun h28 => ?_)
      rotate_left
      · refine v_guard_on rfl rfl ?_
        refine v_move rfl ?_
        refine v_guard_off rfl rfl rfl ?_
        refine v_guard_off rfl rfl rfl ?_
        refine v_guard_on rfl rfl ?_
        refine v_pick_f (v := .v (.bool false)) rfl rfl ?_
        refine v_pick_f rfl rfl ?_
        refine v_nil ?_
        refine q_n ?_
        refine w_f rfl ?_
        refine w_skip ?_
        refine q_bn ?_
        refine q_n ?_
        refine w_reg rfl ?_
        refine v_add lay3 rfl rfl (i64r (by omega)) ?_
        refine v_move rfl ?_
        refine v_nil ?_
        refine q_n ?_
        refine ⟨_, _, _, ?_, ⟨2, rfl, by omega, by intro; omega, by intro; first | (exfalso; omega) | grind, by intro; first | (exfalso; omega) | grind, rfl, rfl⟩, by omega⟩
        exact turn [some 0, some 1] rfl rfl rfl ⟨⟨_, rfl, trc_act⟩, ⟨_, rfl, trc_form⟩, trivial⟩ ⟨tr_pt rfl, tr_pt rfl, tr_agg (.cons tr_v (.cons tr_v (.cons tr_v .nil))), tr_v, trivial⟩
      refine v_guard_on rfl rfl ?_
      refine v_move rfl ?_
      refine v_guard_on rfl rfl ?_
      refine v_move rfl ?_
      refine v_guard_on rfl rfl ?_
      refine v_neq lay2 rfl rfl (fun h29 => ?_) (fun h29 => ?_)
      · refine v_guard_on rfl rfl ?_
        refine v_pick_t rfl rfl ?_
        refine v_pick_f rfl rfl ?_
        refine v_nil ?_
        refine q_n ?_
        refine w_t rfl ?_
        refine w_seq ?_
        refine w_reg rfl ?_
        refine v_assign (c := .v (.bool false)) rfl ?_
        refine v_nil ?_
        refine q_n ?_
        refine w_ret (q_br (q_r (q_r (q_br (q_r ?_)))))
        refine r_r rfl ?_
        exact a_b (by unfold actOk; grind)
      refine v_guard_on rfl rfl ?_
      refine v_pick_t rfl rfl ?_
      refine v_pick_f rfl rfl ?_
      refine v_nil ?_
      refine q_n ?_
      refine w_f rfl ?_
      refine w_skip ?_
      refine q_bn ?_
      refine q_n ?_
      refine w_reg rfl ?_
      refine v_add lay3 rfl rfl (i64r (by omega)) ?_
      refine v_move rfl ?_
      refine v_nil ?_
      refine q_n ?_
      refine ⟨_, _, _, ?_, ⟨2, rfl, by omega, by intro; omega, by intro; first | (exfalso; omega) | grind, by intro; first | (exfalso; omega) | grind, rfl, rfl⟩, by omega⟩
      exact turn [some 0, some 1] rfl rfl rfl ⟨⟨_, rfl, trc_act⟩, ⟨_, rfl, trc_form⟩, trivial⟩ ⟨tr_pt rfl, tr_pt rfl, tr_agg (.cons tr_v (.cons tr_v (.cons tr_v .nil))), tr_v, trivial⟩
    · skip
      refine w_seq ?_
      refine w_reg rfl ?_
      refine v_lss lay3 rfl rfl (fun h30 => ?_) (fun h30 => ?_)
      rotate_left
      · exact absurd (by decide) h30
      refine v_nil ?_
      refine q_n ?_
      refine w_seq ?_
      refine w_t rfl ?_
      refine w_skip ?_
      refine q_n ?_
      refine w_seq ?_
      refine w_block ?_
      refine w_seq ?_
      refine w_reg rfl ?_
      refine v_move rfl ?_
      refine v_index (.c _) lay66 lay2 rfl rfl ⟨by decide, by decide, Nat.le_of_ble_eq_true rfl⟩ rfl ?_
      refine v_assign rfl ?_
      refine v_assign rfl ?_
      refine v_nil ?_
      refine q_n ?_
      refine w_seq ?_
      refine w_reg rfl ?_
      refine v_move rfl ?_
      refine v_callb (cInR _ _ _) rfl rfl (.cons vw_v (.cons vw_v (.cons vw_v .nil))) (fun h31 => ?_) (fun h31 => ?_)
      rotate_left
      · refine v_not true rfl rfl ?_
        refine v_move rfl ?_
        refine v_guard_off rfl rfl rfl ?_
        refine v_guard_off rfl rfl rfl ?_
        refine v_guard_off rfl rfl rfl ?_
        refine v_guard_off rfl rfl rfl ?_
        refine v_guard_off rfl rfl rfl ?_
        refine v_guard_un rfl rfl ?_
        refine v_guard_un rfl rfl ?_
        refine v_guard_off rfl rfl rfl ?_
        refine v_pick_t (v := .v (.bool true)) rfl rfl ?_
        refine v_nil ?_
        refine q_n ?_
        refine w_t rfl ?_
        refine w_seq ?_
        refine w_reg rfl ?_
        refine v_assign (c := .v (.bool false)) rfl ?_
        refine v_nil ?_
        refine q_n ?_
        refine w_ret (q_br (q_r (q_r (q_br (q_r ?_)))))
        refine r_r rfl ?_
        exact a_b (by unfold actOk; grind)
      refine v_not false rfl rfl ?_
      refine v_move rfl ?_
      refine v_guard_on rfl rfl ?_
      refine v_move rfl ?_
      refine v_guard_on rfl rfl ?_
      refine v_fa_pt (off' := 1) lay64 rfl rfl rfl ?_
      refine v_guard_on rfl rfl ?_
      refine v_load_pt (.c _) lay3 rfl rfl rfl rfl ?_
      refine v_guard_on rfl rfl ?_
      refine v_geq lay3 rfl rfl (fun h32 => ?_) (fun h32 => ?_)
      rotate_left
      · refine v_guard_on rfl rfl ?_
        refine v_move rfl ?_
        refine v_guard_off rfl rfl rfl ?_
        refine v_guard_off rfl rfl rfl ?_
        refine v_guard_on rfl rfl ?_
        refine v_pick_f (v := .v (.bool false)) rfl rfl ?_
        refine v_pick_f rfl rfl ?_
        refine v_nil ?_
        refine q_n ?_
        refine w_f rfl ?_
        refine w_skip ?_
        refine q_bn ?_
        refine q_n ?_
        refine w_reg rfl ?_
        refine v_add lay3 rfl rfl (i64r (by omega)) ?_
        refine v_move rfl ?_
        refine v_nil ?_
        refine q_n ?_
        refine ⟨_, _, _, ?_, ⟨3, rfl, by omega, by intro; omega, by intro; first | (exfalso; omega) | grind, by intro; first | (exfalso; omega) | grind, rfl, rfl⟩, by omega⟩
        exact turn [some 0, some 1] rfl rfl rfl ⟨⟨_, rfl, trc_act⟩, ⟨_, rfl, trc_form⟩, trivial⟩ ⟨tr_pt rfl, tr_pt rfl, tr_agg (.cons tr_v (.cons tr_v (.cons tr_v .nil))), tr_v, trivial⟩
      refine v_guard_on rfl rfl ?_
      refine v_move rfl ?_
      refine v_guard_on rfl rfl ?_
      refine v_move rfl ?_
      refine v_guard_on rfl rfl ?_
      refine v_neq lay2 rfl rfl (fun h33 => ?_) (fun h33 => ?_)
      · refine v_guard_on rfl rfl ?_
        refine v_pick_t rfl rfl ?_
        refine v_pick_f rfl rfl ?_
        refine v_nil ?_
        refine q_n ?_
        refine w_t rfl ?_
        refine w_seq ?_
        refine w_reg rfl ?_
        refine v_assign (c := .v (.bool false)) rfl ?_
        refine v_nil ?_
        refine q_n ?_
        refine w_ret (q_br (q_r (q_r (q_br (q_r ?_)))))
        refine r_r rfl ?_
        exact a_b (by unfold actOk; grind)
      refine v_guard_on rfl rfl ?_
      refine v_pick_t rfl rfl ?_
      refine v_pick_f rfl rfl ?_
      refine v_nil ?_
      refine q_n ?_
      refine w_f rfl ?_
      refine w_skip ?_
      refine q_bn ?_
      refine q_n ?_
      refine w_reg rfl ?_
      refine v_add lay3 rfl rfl (i64r (by omega)) ?_
      refine v_move rfl ?_
      refine v_nil ?_
      refine q_n ?_
      refine ⟨_, _, _, ?_, ⟨3, rfl, by omega, by intro; omega, by intro; first | (exfalso; omega) | grind, by intro; first | (exfalso; omega) | grind, rfl, rfl⟩, by omega⟩
      exact turn [some 0, some 1] rfl rfl rfl ⟨⟨_, rfl, trc_act⟩, ⟨_, rfl, trc_form⟩, trivial⟩ ⟨tr_pt rfl, tr_pt rfl, tr_agg (.cons tr_v (.cons tr_v (.cons tr_v .nil))), tr_v, trivial⟩
    · skip
      refine w_seq ?_
      refine w_reg rfl ?_
      refine v_lss lay3 rfl rfl (fun h34 => ?_) (fun h34 => ?_)
      · exact absurd h34 (by decide)
      refine v_nil ?_
      refine q_n ?_
      refine w_seq ?_
      refine w_f rfl ?_
      refine w_exit ?_
      refine q_e ?_
      refine q_e ?_
      refine q_hit ?_
      refine q_n ?_
      refine w_seq ?_
      refine w_reg rfl ?_
      refine v_fa_pt (off' := 2) lay64 rfl rfl rfl ?_
      refine v_load_ptb lay4 rfl rfl rfl rfl (fun h35 => ?_) (fun h35 => ?_)
      · refine v_move rfl ?_
        refine v_guard_off rfl rfl rfl ?_
        refine v_guard_off rfl rfl rfl ?_
        refine v_guard_off rfl rfl rfl ?_
        refine v_pick_t (v := .v (.bool true)) rfl rfl ?_
        refine v_assign rfl ?_
        refine v_nil ?_
        refine q_n ?_
        refine w_ret ?_
        refine r_r rfl ?_
        exact a_b (by unfold actOk; grind)
      refine v_move rfl ?_
      refine v_guard_on rfl rfl ?_
      refine v_fa_pt (off' := 4) lay36 rfl rfl rfl ?_
      refine v_guard_on rfl rfl ?_
      refine v_load_pt (.c _) lay32 rfl rfl rfl rfl ?_
      refine v_guard_on rfl rfl ?_
      refine v_binb lay32 rfl rfl rfl (fun h36 => ?_) (fun h36 => ?_)
      · have g36 : (ford .f32 (some x) (fOf .f32 0) == some .eq) = true := h36
        refine v_pick_f rfl rfl ?_
        refine v_assign rfl ?_
        refine v_nil ?_
        refine q_n ?_
        refine w_ret ?_
        refine r_r rfl ?_
        exact a_b (by unfold actOk; grind)
      have g36 : (ford .f32 (some x) (fOf .f32 0) == some .eq) = false := h36
      refine v_pick_f rfl rfl ?_
      refine v_assign rfl ?_
      refine v_nil ?_
      refine q_n ?_
      refine w_ret ?_
      refine r_r rfl ?_
      exact a_b (by unfold actOk; grind)
  have g3 : (ford .f32 (some x) (fOf .f32 0) == some .eq) = true := h3
  refine v_guard_on rfl rfl ?_
  refine v_move rfl ?_
  refine v_guard_on rfl rfl ?_
  refine v_fa_pt (off' := 4) lay36 rfl rfl rfl ?_
  refine v_guard_on rfl rfl ?_
  refine v_load_pt (.c _) lay32 rfl rfl rfl rfl ?_
  refine v_guard_on rfl rfl ?_
  refine v_conv_ff _ lay32 lay94 rfl (hw) ?_
  refine v_guard_on rfl rfl ?_
  refine v_callb (cSgn _) rfl rfl (.cons vw_f .nil) (fun h4 => ?_) (fun h4 => ?_)
  · refine v_guard_on rfl rfl ?_
    refine v_pick_t rfl rfl ?_
    refine v_pick_f rfl rfl ?_
    refine v_nil ?_
    refine q_n ?_
    refine w_t rfl ?_
    refine w_seq ?_
    refine w_reg rfl ?_
    refine v_assign (c := .v (.bool false)) rfl ?_
    refine v_nil ?_
    refine q_n ?_
    refine w_ret (q_r ?_)
    refine r_r rfl ?_
    exact a_b (by unfold actOk; grind)
  refine v_guard_on rfl rfl ?_
  refine v_pick_t rfl rfl ?_
  refine v_pick_f rfl rfl ?_
  refine v_nil ?_
  refine q_n ?_
  refine w_f rfl ?_
  refine w_skip ?_
  refine q_n ?_
  refine w_seq ?_
  refine w_reg rfl ?_
  refine v_fa_pt (off' := 0) lay36 rfl rfl rfl ?_
  refine v_load_pt (.c _) lay2 rfl rfl rfl rfl ?_
  refine v_sub lay2 rfl rfl (i64r (by omega)) ?_
  refine v_idx_av (k := 3) lay65 lay64 rfl rfl rfl (by omega) (fun qZ hqZ eZ => ?_)
  have fZ := form_at2 hqZ eZ
  refine v_load_av (q := qZ) formL (.agg [.v _, .v _, .v _]) fenc_len lay64 rfl rfl rfl (by show qZ < 6; omega) rfl ?_
  refine v_alloc (m := 1) (H' := [_, ⟨[.v _, .v _, .v _], 64, true⟩]) lay64 rfl rfl ?_
  refine v_store (H' := [_, ⟨[_, _, _], 64, true⟩]) lay64 rfl rfl rfl rfl rfl rfl ?_
  refine v_nil ?_
  refine q_n ?_
  refine w_seq ?_
  refine w_seq ?_
  refine w_reg rfl ?_
  refine v_fa_pt (off' := 1) lay36 rfl rfl rfl ?_
  refine v_load_pt (.c _) lay2 rfl rfl rfl rfl ?_
  refine v_fa_pt (off' := 2) lay36 rfl rfl rfl ?_
  refine v_load_pt (.c _) lay2 rfl rfl rfl rfl ?_
  refine v_fa_pt (off' := 3) lay36 rfl rfl rfl ?_
  refine v_load_pt (.c _) lay2 rfl rfl rfl rfl ?_
  refine v_build_a [.v _, .v _, .v _] lay66 lay2 rfl ?_
  refine v_move (c := .v (.int .i64 0)) rfl ?_
  refine v_nil ?_
  refine q_n ?_
  refine w_block ?_
  refine w_loop (fun k sl H => ∃ i : Nat, k = 3 - i ∧ i ≤ 3 ∧ (1 ≤ i → 0 ≤ a ∧ a ≤ 999) ∧ (2 ≤ i → (0 ≤ b ∧ b ≤ 999) ∧ (1 < formL[qZ].2.1 ∨ b = 0)) ∧ (3 ≤ i → (0 ≤ c ∧ c ≤ 999) ∧ (2 < formL[qZ].2.1 ∨ c = 0)) ∧ sl = sls [(1, .c (.pt 0 0)), (3, .c (.pt 1 0)), (38, .agg [.v (.int .i64 a), .v (.int .i64 b), .v (.int .i64 c)]), (39, cI i)] ∧ H = [⟨act kd a b c (some x), 36, true⟩, ⟨fenc formL[qZ], 64, true⟩]) ?_ ?_
  · refine ⟨_, _, _, ?_, 0, rfl, by omega, by intro; omega, by intro; omega, by intro; omega, rfl, rfl⟩
    exact turn [some 0, some 1] rfl rfl rfl ⟨⟨_, rfl, trc_act⟩, ⟨_, rfl, trc_form⟩, trivial⟩ ⟨tr_pt rfl, tr_pt rfl, tr_agg (.cons tr_v (.cons tr_v (.cons tr_v .nil))), tr_v, trivial⟩
  rintro k sl H ⟨i, rfl, hi, p1, p2, p3, rfl, rfl⟩
  rcases (by omega : i = 0 ∨ i = 1 ∨ i = 2 ∨ i = 3) with rfl | rfl | rfl | rfl
  · skip
    refine w_seq ?_
    refine w_reg rfl ?_
    refine v_lss lay3 rfl rfl (fun h6 => ?_) (fun h6 => ?_)
    rotate_left
    · exact absurd (by decide) h6
    refine v_nil ?_
    refine q_n ?_
    refine w_seq ?_
    refine w_t rfl ?_
    refine w_skip ?_
    refine q_n ?_
    refine w_seq ?_
    refine w_block ?_
    refine w_seq ?_
    refine w_reg rfl ?_
    refine v_move rfl ?_
    refine v_index (.c _) lay66 lay2 rfl rfl ⟨by decide, by decide, Nat.le_of_ble_eq_true rfl⟩ rfl ?_
    refine v_assign rfl ?_
    refine v_assign rfl ?_
    refine v_nil ?_
    refine q_n ?_
    refine w_seq ?_
    refine w_reg rfl ?_
    refine v_move rfl ?_
    refine v_callb (cInR _ _ _) rfl rfl (.cons vw_v (.cons vw_v (.cons vw_v .nil))) (fun h7 => ?_) (fun h7 => ?_)
    rotate_left
    · refine v_not true rfl rfl ?_
      refine v_move rfl ?_
      refine v_guard_off rfl rfl rfl ?_
      refine v_guard_off rfl rfl rfl ?_
      refine v_guard_off rfl rfl rfl ?_
      refine v_guard_off rfl rfl rfl ?_
      refine v_guard_off rfl rfl rfl ?_
      refine v_guard_un rfl rfl ?_
      refine v_guard_un rfl rfl ?_
      refine v_guard_off rfl rfl rfl ?_
      refine v_pick_t (v := .v (.bool true)) rfl rfl ?_
      refine v_nil ?_
      refine q_n ?_
      refine w_t rfl ?_
      refine w_seq ?_
      refine w_reg rfl ?_
      refine v_assign (c := .v (.bool false)) rfl ?_
      refine v_nil ?_
      refine q_n ?_
      refine w_ret (q_br (q_r (q_r (q_br (q_r ?_)))))
      refine r_r rfl ?_
      exact a_b (by unfold actOk; grind)
    refine v_not false rfl rfl ?_
    refine v_move rfl ?_
    refine v_guard_on rfl rfl ?_
    refine v_move rfl ?_
    refine v_guard_on rfl rfl ?_
    refine v_fa_pt (off' := 1) lay64 rfl rfl rfl ?_
    refine v_guard_on rfl rfl ?_
    refine v_load_pt (.c _) lay3 rfl rfl rfl rfl ?_
    refine v_guard_on rfl rfl ?_
    refine v_geq lay3 rfl rfl (fun h8 => ?_) (fun h8 => ?_)
    rotate_left
    · refine v_guard_on rfl rfl ?_
      refine v_move rfl ?_
      refine v_guard_off rfl rfl rfl ?_
      refine v_guard_off rfl rfl rfl ?_
      refine v_guard_on rfl rfl ?_
      refine v_pick_f (v := .v (.bool false)) rfl rfl ?_
      refine v_pick_f rfl rfl ?_
      refine v_nil ?_
      refine q_n ?_
      refine w_f rfl ?_
      refine w_skip ?_
      refine q_bn ?_
      refine q_n ?_
      refine w_reg rfl ?_
      refine v_add lay3 rfl rfl (i64r (by omega)) ?_
      refine v_move rfl ?_
      refine v_nil ?_
      refine q_n ?_
      refine ⟨_, _, _, ?_, ⟨1, rfl, by omega, by intro; omega, by intro; first | (exfalso; omega) | grind, by intro; first | (exfalso; omega) | grind, rfl, rfl⟩, by omega⟩
      exact turn [some 0, some 1] rfl rfl rfl ⟨⟨_, rfl, trc_act⟩, ⟨_, rfl, trc_form⟩, trivial⟩ ⟨tr_pt rfl, tr_pt rfl, tr_agg (.cons tr_v (.cons tr_v (.cons tr_v .nil))), tr_v, trivial⟩
    refine v_guard_on rfl rfl ?_
    refine v_move rfl ?_
    refine v_guard_on rfl rfl ?_
    refine v_move rfl ?_
    refine v_guard_on rfl rfl ?_
    refine v_neq lay2 rfl rfl (fun h9 => ?_) (fun h9 => ?_)
    · refine v_guard_on rfl rfl ?_
      refine v_pick_t rfl rfl ?_
      refine v_pick_f rfl rfl ?_
      refine v_nil ?_
      refine q_n ?_
      refine w_t rfl ?_
      refine w_seq ?_
      refine w_reg rfl ?_
      refine v_assign (c := .v (.bool false)) rfl ?_
      refine v_nil ?_
      refine q_n ?_
      refine w_ret (q_br (q_r (q_r (q_br (q_r ?_)))))
      refine r_r rfl ?_
      exact a_b (by unfold actOk; grind)
    refine v_guard_on rfl rfl ?_
    refine v_pick_t rfl rfl ?_
    refine v_pick_f rfl rfl ?_
    refine v_nil ?_
    refine q_n ?_
    refine w_f rfl ?_
    refine w_skip ?_
    refine q_bn ?_
    refine q_n ?_
    refine w_reg rfl ?_
    refine v_add lay3 rfl rfl (i64r (by omega)) ?_
    refine v_move rfl ?_
    refine v_nil ?_
    refine q_n ?_
    refine ⟨_, _, _, ?_, ⟨1, rfl, by omega, by intro; omega, by intro; first | (exfalso; omega) | grind, by intro; first | (exfalso; omega) | grind, rfl, rfl⟩, by omega⟩
    exact turn [some 0, some 1] rfl rfl rfl ⟨⟨_, rfl, trc_act⟩, ⟨_, rfl, trc_form⟩, trivial⟩ ⟨tr_pt rfl, tr_pt rfl, tr_agg (.cons tr_v (.cons tr_v (.cons tr_v .nil))), tr_v, trivial⟩
  · skip
    refine w_seq ?_
    refine w_reg rfl ?_
    refine v_lss lay3 rfl rfl (fun h10 => ?_) (fun h10 => ?_)
    rotate_left
    · exact absurd (by decide) h10
    refine v_nil ?_
    refine q_n ?_
    refine w_seq ?_
    refine w_t rfl ?_
    refine w_skip ?_
    refine q_n ?_
    refine w_seq ?_
    refine w_block ?_
    refine w_seq ?_
    refine w_reg rfl ?_
    refine v_move rfl ?_
    refine v_index (.c _) lay66 lay2 rfl rfl ⟨by decide, by decide, Nat.le_of_ble_eq_true rfl⟩ rfl ?_
    refine v_assign rfl ?_
    refine v_assign rfl ?_
    refine v_nil ?_
    refine q_n ?_
    refine w_seq ?_
    refine w_reg rfl ?_
    refine v_move rfl ?_
    refine v_callb (cInR _ _ _) rfl rfl (.cons vw_v (.cons vw_v (.cons vw_v .nil))) (fun h11 => ?_) (fun h11 => ?_)
    rotate_left
    · refine v_not true rfl rfl ?_
      refine v_move rfl ?_
      refine v_guard_off rfl rfl rfl ?_
      refine v_guard_off rfl rfl rfl ?_
      refine v_guard_off rfl rfl rfl ?_
      refine v_guard_off rfl rfl rfl ?_
      refine v_guard_off rfl rfl rfl ?_
      refine v_guard_un rfl rfl ?_
      refine v_guard_un rfl rfl ?_
      refine v_guard_off rfl rfl rfl ?_
      refine v_pick_t (v := .v (.bool true)) rfl rfl ?_
      refine v_nil ?_
      refine q_n ?_
      refine w_t rfl ?_
      refine w_seq ?_
      refine w_reg rfl ?_
      refine v_assign (c := .v (.bool false)) rfl ?_
      refine v_nil ?_
      refine q_n ?_
      refine w_ret (q_br (q_r (q_r (q_br (q_r ?_)))))
      refine r_r rfl ?_
      exact a_b (by unfold actOk; grind)
    refine v_not false rfl rfl ?_
    refine v_move rfl ?_
    refine v_guard_on rfl rfl ?_
    refine v_move rfl ?_
    refine v_guard_on rfl rfl ?_
    refine v_fa_pt (off' := 1) lay64 rfl rfl rfl ?_
    refine v_guard_on rfl rfl ?_
    refine v_load_pt (.c _) lay3 rfl rfl rfl rfl ?_
    refine v_guard_on rfl rfl ?_
    refine v_geq lay3 rfl rfl (fun h12 => ?_) (fun h12 => ?_)
    rotate_left
    · refine v_guard_on rfl rfl ?_
      refine v_move rfl ?_
      refine v_guard_off rfl rfl rfl ?_
      refine v_guard_off rfl rfl rfl ?_
      refine v_guard_on rfl rfl ?_
      refine v_pick_f (v := .v (.bool false)) rfl rfl ?_
      refine v_pick_f rfl rfl ?_
      refine v_nil ?_
      refine q_n ?_
      refine w_f rfl ?_
      refine w_skip ?_
      refine q_bn ?_
      refine q_n ?_
      refine w_reg rfl ?_
      refine v_add lay3 rfl rfl (i64r (by omega)) ?_
      refine v_move rfl ?_
      refine v_nil ?_
      refine q_n ?_
      refine ⟨_, _, _, ?_, ⟨2, rfl, by omega, by intro; omega, by intro; first | (exfalso; omega) | grind, by intro; first | (exfalso; omega) | grind, rfl, rfl⟩, by omega⟩
      exact turn [some 0, some 1] rfl rfl rfl ⟨⟨_, rfl, trc_act⟩, ⟨_, rfl, trc_form⟩, trivial⟩ ⟨tr_pt rfl, tr_pt rfl, tr_agg (.cons tr_v (.cons tr_v (.cons tr_v .nil))), tr_v, trivial⟩
    refine v_guard_on rfl rfl ?_
    refine v_move rfl ?_
    refine v_guard_on rfl rfl ?_
    refine v_move rfl ?_
    refine v_guard_on rfl rfl ?_
    refine v_neq lay2 rfl rfl (fun h13 => ?_) (fun h13 => ?_)
    · refine v_guard_on rfl rfl ?_
      refine v_pick_t rfl rfl ?_
      refine v_pick_f rfl rfl ?_
      refine v_nil ?_
      refine q_n ?_
      refine w_t rfl ?_
      refine w_seq ?_
      refine w_reg rfl ?_
      refine v_assign (c := .v (.bool false)) rfl ?_
      refine v_nil ?_
      refine q_n ?_
      refine w_ret (q_br (q_r (q_r (q_br (q_r ?_)))))
      refine r_r rfl ?_
      exact a_b (by unfold actOk; grind)
    refine v_guard_on rfl rfl ?_
    refine v_pick_t rfl rfl ?_
    refine v_pick_f rfl rfl ?_
    refine v_nil ?_
    refine q_n ?_
    refine w_f rfl ?_
    refine w_skip ?_
    refine q_bn ?_
    refine q_n ?_
    refine w_reg rfl ?_
    refine v_add lay3 rfl rfl (i64r (by omega)) ?_
    refine v_move rfl ?_
    refine v_nil ?_
    refine q_n ?_
    refine ⟨_, _, _, ?_, ⟨2, rfl, by omega, by intro; omega, by intro; first | (exfalso; omega) | grind, by intro; first | (exfalso; omega) | grind, rfl, rfl⟩, by omega⟩
    exact turn [some 0, some 1] rfl rfl rfl ⟨⟨_, rfl, trc_act⟩, ⟨_, rfl, trc_form⟩, trivial⟩ ⟨tr_pt rfl, tr_pt rfl, tr_agg (.cons tr_v (.cons tr_v (.cons tr_v .nil))), tr_v, trivial⟩
  · skip
    refine w_seq ?_
    refine w_reg rfl ?_
    refine v_lss lay3 rfl rfl (fun h14 => ?_) (fun h14 => ?_)
    rotate_left
    · exact absurd (by decide) h14
    refine v_nil ?_
    refine q_n ?_
    refine w_seq ?_
    refine w_t rfl ?_
    refine w_skip ?_
    refine q_n ?_
    refine w_seq ?_
    refine w_block ?_
    refine w_seq ?_
    refine w_reg rfl ?_
    refine v_move rfl ?_
    refine v_index (.c _) lay66 lay2 rfl rfl ⟨by decide, by decide, Nat.le_of_ble_eq_true rfl⟩ rfl ?_
    refine v_assign rfl ?_
    refine v_assign rfl ?_
    refine v_nil ?_
    refine q_n ?_
    refine w_seq ?_
    refine w_reg rfl ?_
    refine v_move rfl ?_
    refine v_callb (cInR _ _ _) rfl rfl (.cons vw_v (.cons vw_v (.cons vw_v .nil))) (fun h15 => ?_) (fun h15 => ?_)
    rotate_left
    · refine v_not true rfl rfl ?_
      refine v_move rfl ?_
      refine v_guard_off rfl rfl rfl ?_
      refine v_guard_off rfl rfl rfl ?_
      refine v_guard_off rfl rfl rfl ?_
      refine v_guard_off rfl rfl rfl ?_
      refine v_guard_off rfl rfl rfl ?_
      refine v_guard_un rfl rfl ?_
      refine v_guard_un rfl rfl ?_
      refine v_guard_off rfl rfl rfl ?_
      refine v_pick_t (v := .v (.bool true)) rfl rfl ?_
      refine v_nil ?_
      refine q_n ?_
      refine w_t rfl ?_
      refine w_seq ?_
      refine w_reg rfl ?_
      refine v_assign (c := .v (.bool false)) rfl ?_
      refine v_nil ?_
      refine q_n ?_
      refine w_ret (q_br (q_r (q_r (q_br (q_r ?_)))))
      refine r_r rfl ?_
      exact a_b (by unfold actOk; grind)
    refine v_not false rfl rfl ?_
    refine v_move rfl ?_
    refine v_guard_on rfl rfl ?_
    refine v_move rfl ?_
    refine v_guard_on rfl rfl ?_
    refine v_fa_pt (off' := 1) lay64 rfl rfl rfl ?_
    refine v_guard_on rfl rfl ?_
    refine v_load_pt (.c _) lay3 rfl rfl rfl rfl ?_
    refine v_guard_on rfl rfl ?_
    refine v_geq lay3 rfl rfl (fun h16 => ?_) (fun h16 => ?_)
    rotate_left
    · refine v_guard_on rfl rfl ?_
      refine v_move rfl ?_
      refine v_guard_off rfl rfl rfl ?_
      refine v_guard_off rfl rfl rfl ?_
      refine v_guard_on rfl rfl ?_
      refine v_pick_f (v := .v (.bool false)) rfl rfl ?_
      refine v_pick_f rfl rfl ?_
      refine v_nil ?_
      refine q_n ?_
      refine w_f rfl ?_
      refine w_skip ?_
      refine q_bn ?_
      refine q_n ?_
      refine w_reg rfl ?_
      refine v_add lay3 rfl rfl (i64r (by omega)) ?_
      refine v_move rfl ?_
      refine v_nil ?_
      refine q_n ?_
      refine ⟨_, _, _, ?_, ⟨3, rfl, by omega, by intro; omega, by intro; first | (exfalso; omega) | grind, by intro; first | (exfalso; omega) | grind, rfl, rfl⟩, by omega⟩
      exact turn [some 0, some 1] rfl rfl rfl ⟨⟨_, rfl, trc_act⟩, ⟨_, rfl, trc_form⟩, trivial⟩ ⟨tr_pt rfl, tr_pt rfl, tr_agg (.cons tr_v (.cons tr_v (.cons tr_v .nil))), tr_v, trivial⟩
    refine v_guard_on rfl rfl ?_
    refine v_move rfl ?_
    refine v_guard_on rfl rfl ?_
    refine v_move rfl ?_
    refine v_guard_on rfl rfl ?_
    refine v_neq lay2 rfl rfl (fun h17 => ?_) (fun h17 => ?_)
    · refine v_guard_on rfl rfl ?_
      refine v_pick_t rfl rfl ?_
      refine v_pick_f rfl rfl ?_
      refine v_nil ?_
      refine q_n ?_
      refine w_t rfl ?_
      refine w_seq ?_
      refine w_reg rfl ?_
      refine v_assign (c := .v (.bool false)) rfl ?_
      refine v_nil ?_
      refine q_n ?_
      refine w_ret (q_br (q_r (q_r (q_br (q_r ?_)))))
      refine r_r rfl ?_
      exact a_b (by unfold actOk; grind)
    refine v_guard_on rfl rfl ?_
    refine v_pick_t rfl rfl ?_
    refine v_pick_f rfl rfl ?_
    refine v_nil ?_
    refine q_n ?_
    refine w_f rfl ?_
    refine w_skip ?_
    refine q_bn ?_
    refine q_n ?_
    refine w_reg rfl ?_
    refine v_add lay3 rfl rfl (i64r (by omega)) ?_
    refine v_move rfl ?_
    refine v_nil ?_
    refine q_n ?_
    refine ⟨_, _, _, ?_, ⟨3, rfl, by omega, by intro; omega, by intro; first | (exfalso; omega) | grind, by intro; first | (exfalso; omega) | grind, rfl, rfl⟩, by omega⟩
    exact turn [some 0, some 1] rfl rfl rfl ⟨⟨_, rfl, trc_act⟩, ⟨_, rfl, trc_form⟩, trivial⟩ ⟨tr_pt rfl, tr_pt rfl, tr_agg (.cons tr_v (.cons tr_v (.cons tr_v .nil))), tr_v, trivial⟩
  · skip
    refine w_seq ?_
    refine w_reg rfl ?_
    refine v_lss lay3 rfl rfl (fun h18 => ?_) (fun h18 => ?_)
    · exact absurd h18 (by decide)
    refine v_nil ?_
    refine q_n ?_
    refine w_seq ?_
    refine w_f rfl ?_
    refine w_exit ?_
    refine q_e ?_
    refine q_e ?_
    refine q_hit ?_
    refine q_n ?_
    refine w_seq ?_
    refine w_reg rfl ?_
    refine v_fa_pt (off' := 2) lay64 rfl rfl rfl ?_
    refine v_load_ptb lay4 rfl rfl rfl rfl (fun h19 => ?_) (fun h19 => ?_)
    · refine v_move rfl ?_
      refine v_guard_off rfl rfl rfl ?_
      refine v_guard_off rfl rfl rfl ?_
      refine v_guard_off rfl rfl rfl ?_
      refine v_pick_t (v := .v (.bool true)) rfl rfl ?_
      refine v_assign rfl ?_
      refine v_nil ?_
      refine q_n ?_
      refine w_ret ?_
      refine r_r rfl ?_
      exact a_b (by unfold actOk; grind)
    refine v_move rfl ?_
    refine v_guard_on rfl rfl ?_
    refine v_fa_pt (off' := 4) lay36 rfl rfl rfl ?_
    refine v_guard_on rfl rfl ?_
    refine v_load_pt (.c _) lay32 rfl rfl rfl rfl ?_
    refine v_guard_on rfl rfl ?_
    refine v_binb lay32 rfl rfl rfl (fun h20 => ?_) (fun h20 => ?_)
    · have g20 : (ford .f32 (some x) (fOf .f32 0) == some .eq) = true := h20
      refine v_pick_f rfl rfl ?_
      refine v_assign rfl ?_
      refine v_nil ?_
      refine q_n ?_
      refine w_ret ?_
      refine r_r rfl ?_
      exact a_b (by unfold actOk; grind)
    have g20 : (ford .f32 (some x) (fOf .f32 0) == some .eq) = false := h20
    refine v_pick_f rfl rfl ?_
    refine v_assign rfl ?_
    refine v_nil ?_
    refine q_n ?_
    refine w_ret ?_
    refine r_r rfl ?_
    exact a_b (by unfold actOk; grind)

theorem cActI0 (kd a b c : Int) : PureC X 34 [.agg (act kd a b c none)] (cB (decide (actOk kd a b c none))) := by
  refine PureC.of_body (drawD_ok X) (fun _ _ => Go.Proofs.Tryd.call34 _ _) Go.Proofs.Tryd.func34 rfl (n := 64) rfl ?_
  refine w_seq ?_
  refine w_reg rfl ?_
  refine v_box (m := 0) (H' := [_]) lay36 rfl rfl rfl ?_
  refine v_assign (c := .v (.bool false)) rfl ?_
  refine v_nil ?_
  refine q_n ?_
  refine w_seq ?_
  refine w_seq ?_
  refine w_reg rfl ?_
  refine v_fa_pt (off' := 0) lay36 rfl rfl rfl ?_
  refine v_load_pt (.c _) lay2 rfl rfl rfl rfl ?_
  refine v_callb (cInR _ _ _) rfl rfl (.cons vw_v (.cons vw_v (.cons vw_v .nil))) (fun h1 => ?_) (fun h1 => ?_)
  rotate_left
  · refine v_not true rfl rfl ?_
    refine v_move rfl ?_
    refine v_guard_off rfl rfl rfl ?_
    refine v_guard_off rfl rfl rfl ?_
    refine v_guard_off rfl rfl rfl ?_
    refine v_guard_off rfl rfl rfl ?_
    refine v_pick_t (v := .v (.bool true)) rfl rfl ?_
    refine v_move rfl ?_
    refine v_guard_off rfl rfl rfl ?_
    refine v_guard_off rfl rfl rfl ?_
    refine v_guard_off rfl rfl rfl ?_
    refine v_guard_off rfl rfl rfl ?_
    refine v_guard_un rfl rfl ?_
    refine v_guard_un rfl rfl ?_
    refine v_guard_un rfl rfl ?_
    refine v_guard_un rfl rfl ?_
    refine v_guard_off rfl rfl rfl ?_
    refine v_pick_t (v := .v (.bool true)) rfl rfl ?_
    refine v_nil ?_
    refine q_n ?_
    refine w_t rfl ?_
    refine w_seq ?_
    refine w_reg rfl ?_
    refine v_assign (c := .v (.bool false)) rfl ?_
    refine v_nil ?_
    refine q_n ?_
    refine w_ret (q_r ?_)
    refine r_r rfl ?_
    exact a_b ⟨fun hh => (by cases hh), fun hh => absurd hh.2.2.2.2.1 (by decide)⟩
  refine v_not false rfl rfl ?_
  refine v_move rfl ?_
  refine v_guard_on rfl rfl ?_
  refine v_fa_pt (off' := 4) lay36 rfl rfl rfl ?_
  refine v_guard_on rfl rfl ?_
  refine v_load_pt (.c _) lay32 rfl rfl rfl rfl ?_
  refine v_guard_on rfl rfl ?_
  refine v_callb (cFinI _) rfl rfl (.cons vw_f .nil) (fun h2 => ?_) (fun h2 => ?_)
  · exact absurd h2 (by decide)
  refine v_guard_on rfl rfl ?_
  refine v_not true rfl rfl ?_
  refine v_pick_f rfl rfl ?_
  refine v_move rfl ?_
  refine v_guard_off rfl rfl rfl ?_
  refine v_guard_off rfl rfl rfl ?_
  refine v_guard_off rfl rfl rfl ?_
  refine v_guard_off rfl rfl rfl ?_
  refine v_guard_un rfl rfl ?_
  refine v_guard_un rfl rfl ?_
  refine v_guard_un rfl rfl ?_
  refine v_guard_un rfl rfl ?_
  refine v_guard_off rfl rfl rfl ?_
  refine v_pick_t (v := .v (.bool true)) rfl rfl ?_
  refine v_nil ?_
  refine q_n ?_
  refine w_t rfl ?_
  refine w_seq ?_
  refine w_reg rfl ?_
  refine v_assign (c := .v (.bool false)) rfl ?_
  refine v_nil ?_
  refine q_n ?_
  refine w_ret (q_r ?_)
  refine r_r rfl ?_
  exact a_b ⟨fun hh => (by cases hh), fun hh => absurd hh.2.2.2.2.1 (by decide)⟩

theorem cActI (kd a b c : Int) (x : Option Nat) (hx : Sg x) : PureC X 34 [.agg (act kd a b c x)] (cB (decide (actOk kd a b c x))) := by
  cases x with
  | none => exact cActI0 kd a b c
  | some x =>
    obtain ⟨w, hw, -⟩ := wide_some hx.1
    exact cActI1 kd a b c x w (hx.2 x rfl) hw
end Go.VL
namespace Go.Proofs
open Go.Shelf
def Tryd.lays156_ren : Go.Shelf.Ren := ⟨fun | 156 => 36 | 165 => 53 | 166 => 54 | 169 => 55 | 240 => 74 | 241 => 75 | 276 => 100 | 277 => 101 | n => n, fun | 31 => 45 | 9 => 9 | 3 => 3 | 4 => 4 | 0 => 0 | 20 => 20 | 72 => 99 | 76 => 101 | 70 => 97 | 37 => 84 | 75 => 88 | 127 => 116 | 164 => 149 | 5 => 5 | 80 => 103 | n => n, fun | n => n⟩
theorem Tryd.lays156 : Go.Proofs.Lays.n156 Tryd.prog Tryd.lays156_ren := {
  mixed := by kernel_rfl
  f156 := Tryd.func36.trans (congrArg some (by kernel_rfl))
  f165 := Tryd.func53.trans (congrArg some (by kernel_rfl))
  f166 := Tryd.func54.trans (congrArg some (by kernel_rfl))
  f169 := Tryd.func55.trans (congrArg some (by kernel_rfl))
  f240 := Tryd.func74.trans (congrArg some (by kernel_rfl))
  f241 := Tryd.func75.trans (congrArg some (by kernel_rfl))
  f276 := Tryd.func100.trans (congrArg some (by kernel_rfl))
  f277 := Tryd.func101.trans (congrArg some (by kernel_rfl))
  t0 := Tryd.underlying0
  a0 := Tryd.isAgg0
  z0 := Tryd.sizeOf0
  v0 := Tryd.zeroValue0
  t3 := Tryd.underlying3
  a3 := Tryd.isAgg3
  z3 := Tryd.sizeOf3
  v3 := Tryd.zeroValue3
  t4 := Tryd.underlying4
  a4 := Tryd.isAgg4
  z4 := Tryd.sizeOf4
  v4 := Tryd.zeroValue4
  t9 := Tryd.underlying9
  a9 := Tryd.isAgg9
  z9 := Tryd.sizeOf9
  v9 := Tryd.zeroValue9
  t20 := Tryd.underlying20
  a20 := Tryd.isAgg20
  z20 := Tryd.sizeOf20
  v20 := Tryd.zeroValue20
  t31 := Tryd.underlying45
  a31 := Tryd.isAgg45
  z31 := Tryd.sizeOf45
  v31 := Tryd.zeroValue45
  t37 := Tryd.underlying84
  a37 := Tryd.isAgg84
  z37 := Tryd.sizeOf84
  v37 := Tryd.zeroValue84
  t70 := Tryd.underlying97
  a70 := Tryd.isAgg97
  z70 := Tryd.sizeOf97
  v70 := Tryd.zeroValue97
  t72 := Tryd.underlying99
  a72 := Tryd.isAgg99
  z72 := Tryd.sizeOf99
  v72 := Tryd.zeroValue99
  t75 := Tryd.underlying88
  a75 := Tryd.isAgg88
  z75 := Tryd.sizeOf88
  v75 := Tryd.zeroValue88
  t76 := Tryd.underlying101
  a76 := Tryd.isAgg101
  z76 := Tryd.sizeOf101
  v76 := Tryd.zeroValue101
  t127 := Tryd.underlying116
  a127 := Tryd.isAgg116
  z127 := Tryd.sizeOf116
  v127 := Tryd.zeroValue116
  t164 := Tryd.underlying149
  a164 := Tryd.isAgg149
  z164 := Tryd.sizeOf149
  v164 := Tryd.zeroValue149 }
theorem Tryd.Builder_Extra_156 : Builder.Extra Tryd.prog Tryd.lays156_ren := {
  sizeBuilder := by kernel_rfl
  liesBuilder := by kernel_rfl
  t5 := Tryd.underlying5
  a5 := Tryd.isAgg5
  z5 := Tryd.sizeOf5
  v5 := Tryd.zeroValue5
  infoByte := by kernel_rfl
  cellsByte := by kernel_rfl
  sizeByte := by kernel_rfl
  neB5 := by decide }
open Go.RowKit in
/-- No element: the empty string; the world is as it was. (Whatever the slice's address and capacity: a nil slice too.) (LAID: no walk: one application.) -/
theorem Tryd.strings_Join_none (a : Option Addr) (c : Nat) (sep : ByteArray) (w : World) :
    Calls Tryd.prog 36 #[.slice a 0 c, .string sep] w fun e w' => e = .returned (.string ⟨#[]⟩) ∧ w' = w := Any.strings_Join_none Tryd.lays156 Tryd.Builder_Extra_156 a c sep w
open Go.RowKit in
/-- strings.Join: "Join concatenates the elements of its first argument to create a single string. The separator string sep is placed between elements in the resulting string.": HOWEVER MANY ELEMENTS. Below the heap's end the world is as it was. (LAID: no walk: one application.) -/
theorem Tryd.strings_Join (bk o c : Nat) (xs : List ByteArray) (sep : ByteArray) (w : World) (hcells : ∀ (j : Nat) x, xs[j]? = some x → w.cell? ⟨bk, o + j, none⟩ = some (.string x)) (hbk : bk < w.heap.size) (hN : xs.length ≤ 140737488355328) (hcap : xs.length ≤ c) (hlen : (Lib.join (xs.map (·.data.toList)) sep.data.toList).length ≤ 140737488355328) :
    Calls Tryd.prog 36 #[.slice (some ⟨bk, o, none⟩) xs.length c, .string sep] w fun e w' => e = .returned (.string ⟨(Lib.join (xs.map (·.data.toList)) sep.data.toList).toArray⟩) ∧ Below w.heap.size w w' := Any.strings_Join Tryd.lays156 Tryd.Builder_Extra_156 bk o c xs sep w hcells hbk hN hcap hlen
def Tryd.laysM246_ren : Go.Shelf.Ren := ⟨fun | 246 => 62 | 283 => 83 | 284 => 84 | 285 => 85 | 286 => 86 | 129 => 105 | 317 => 104 | 318 => 106 | 319 => 107 | 320 => 108 | 337 => 121 | 338 => 122 | n => n, fun | 2 => 2 | 3 => 3 | 9 => 9 | 4 => 4 | 171 => 129 | 0 => 0 | 53 => 113 | 37 => 84 | 5 => 5 | 173 => 132 | 212 => 157 | 51 => 92 | 20 => 20 | 213 => 158 | 46 => 141 | 232 => 177 | 233 => 178 | n => n, fun | 17 => 3 | 18 => 9 | 19 => 10 | n => n⟩
theorem Tryd.laysM246 : Go.Proofs.LaysM.n246 Tryd.prog Tryd.laysM246_ren := {
  mixed := by kernel_rfl
  f129 := Tryd.func105.trans (congrArg some (by kernel_rfl))
  f246 := Tryd.func62.trans (congrArg some (by kernel_rfl))
  f283 := Tryd.func83.trans (congrArg some (by kernel_rfl))
  f284 := Tryd.func84.trans (congrArg some (by kernel_rfl))
  f285 := Tryd.func85.trans (congrArg some (by kernel_rfl))
  f286 := Tryd.func86.trans (congrArg some (by kernel_rfl))
  f317 := Tryd.func104.trans (congrArg some (by kernel_rfl))
  f318 := Tryd.func106.trans (congrArg some (by kernel_rfl))
  f319 := Tryd.func107.trans (congrArg some (by kernel_rfl))
  f320 := Tryd.func108.trans (congrArg some (by kernel_rfl))
  f337 := Tryd.func121.trans (congrArg some (by kernel_rfl))
  f338 := Tryd.func122.trans (congrArg some (by kernel_rfl))
  t0 := Tryd.underlying0
  a0 := Tryd.isAgg0
  z0 := Tryd.sizeOf0
  v0 := Tryd.zeroValue0
  t2 := Tryd.underlying2
  a2 := Tryd.isAgg2
  z2 := Tryd.sizeOf2
  v2 := Tryd.zeroValue2
  t3 := Tryd.underlying3
  a3 := Tryd.isAgg3
  z3 := Tryd.sizeOf3
  v3 := Tryd.zeroValue3
  t4 := Tryd.underlying4
  a4 := Tryd.isAgg4
  z4 := Tryd.sizeOf4
  v4 := Tryd.zeroValue4
  t5 := Tryd.underlying5
  a5 := Tryd.isAgg5
  z5 := Tryd.sizeOf5
  v5 := Tryd.zeroValue5
  t9 := Tryd.underlying9
  a9 := Tryd.isAgg9
  z9 := Tryd.sizeOf9
  v9 := Tryd.zeroValue9
  t20 := Tryd.underlying20
  a20 := Tryd.isAgg20
  z20 := Tryd.sizeOf20
  v20 := Tryd.zeroValue20
  t37 := Tryd.underlying84
  a37 := Tryd.isAgg84
  z37 := Tryd.sizeOf84
  v37 := Tryd.zeroValue84
  t46 := Tryd.underlying141
  a46 := Tryd.isAgg141
  z46 := Tryd.sizeOf141
  v46 := Tryd.zeroValue141
  t51 := Tryd.underlying92
  a51 := Tryd.isAgg92
  z51 := Tryd.sizeOf92
  v51 := Tryd.zeroValue92
  t53 := Tryd.underlying113
  a53 := Tryd.isAgg113
  z53 := Tryd.sizeOf113
  v53 := Tryd.zeroValue113
  t171 := Tryd.underlying129
  a171 := Tryd.isAgg129
  z171 := Tryd.sizeOf129
  v171 := Tryd.zeroValue129
  t173 := Tryd.underlying132
  a173 := Tryd.isAgg132
  z173 := Tryd.sizeOf132
  v173 := Tryd.zeroValue132
  t212 := Tryd.underlying157
  a212 := Tryd.isAgg157
  z212 := Tryd.sizeOf157
  v212 := Tryd.zeroValue157
  t213 := Tryd.underlying158
  a213 := Tryd.isAgg158
  z213 := Tryd.sizeOf158
  t232 := Tryd.underlying177
  a232 := Tryd.isAgg177
  z232 := Tryd.sizeOf177
  v232 := Tryd.zeroValue177
  t233 := Tryd.underlying178
  a233 := Tryd.isAgg178
  z233 := Tryd.sizeOf178
  v233 := Tryd.zeroValue178
  g17 := by kernel_rfl
  g18 := by kernel_rfl
  g19 := by kernel_rfl
  i0 := by kernel_rfl
  i2 := by kernel_rfl
  i3 := by kernel_rfl
  i4 := by kernel_rfl
  i5 := by kernel_rfl
  i9 := by kernel_rfl
  i20 := by kernel_rfl
  i37 := by kernel_rfl
  i46 := by kernel_rfl
  i51 := by kernel_rfl
  i53 := by kernel_rfl
  i171 := by kernel_rfl
  i173 := by kernel_rfl
  i212 := by kernel_rfl
  i232 := by kernel_rfl
  i233 := by kernel_rfl
  m17 := by kernel_rfl
  m18 := by kernel_rfl
  m19 := by kernel_rfl }
open Go.RowKit Go.Sort Go.Lib in
/-- internal/strconv.FormatInt: "FormatInt returns the string representation of i in the given base": AT BASE 10: i's decimal numeral, for every int64. The world behind the call: the world before it, new blocks behind the heap, draws. (LAID: no walk: one application.) -/
theorem Tryd.internal_strconv_FormatInt_10 (n : Int) (h0 : -9223372036854775808 ≤ n) (h1 : n ≤ 9223372036854775807) (w : World) (htab : Lib.TabIs Tryd.prog w "internal/strconv.uint64pow10" .u64 Lib.pow10Tab) :
    Calls Tryd.prog 62 #[.int .i64 n, .int .i64 10] w fun e w' => e = .returned (.string ⟨(Lib.itoa n).toArray⟩) ∧ ∃ k os, w' = grow (w.drewN k) os := Any.internal_strconv_FormatInt_10 Tryd.laysM246 n h0 h1 w htab
end Go.Proofs
namespace Go.VL
open Go.RowKit
set_option maxRecDepth 20000
set_option maxHeartbeats 8000000
theorem dig_at (n : Nat) : UInt8.ofNat (IntKind.u8.wrap (48 + (n : Int).tmod 10)).toNat = UInt8.ofNat (48 + n % 10) := by
  have e : (n : Int).tmod 10 = ((n % 10 : Nat) : Int) := rfl
  have h : IntKind.u8.wrap (48 + (n : Int).tmod 10) = ((48 + n % 10 : Nat) : Int) := by
    rw [e]
    refine wrap_of ?_
    show (0 : Int) ≤ _ ∧ _ ≤ (255 : Int)
    omega
  rw [h, Int.toNat_natCast]
theorem dig_one {n : Nat} (h : n < 10) : UInt8.ofNat (IntKind.u8.wrap (48 + (n : Int))).toNat = UInt8.ofNat (48 + n) := by
  have e : IntKind.u8.wrap (48 + (n : Int)) = ((48 + n : Nat) : Int) := by
    refine wrap_of ?_
    show (0 : Int) ≤ _ ∧ _ ≤ (255 : Int)
    omega
  rw [e, Int.toNat_natCast]
theorem dec_step {n : Nat} (h : ¬ n < 10) : Lib.decDigits (n / 10) ++ [UInt8.ofNat (48 + n % 10)] = Lib.decDigits n := by
  rw [Lib.decDigits.eq_1 n, dif_neg h]
theorem dec_len : ∀ n : Nat, (Lib.decDigits n).length ≤ n + 1 := by
  intro n
  induction n using Nat.strongRecOn with
  | ind n ih =>
    by_cases h : n < 10
    · rw [Lib.decDigits_one h]; simp
    · rw [← dec_step h, List.length_append]
      have := ih (n / 10) (by omega)
      simp only [List.length_cons, List.length_nil]
      omega
theorem dec_len2 {n : Nat} (h : n < 2 ^ 63) : (Lib.decDigits n).length ≤ 19 := by
  have h0 : ∀ (k n : Nat), n < 10 ^ k → (Lib.decDigits n).length ≤ k + (if k = 0 then 1 else 0) := by
    intro k
    induction k with
    | zero => intro n hn; obtain rfl : n = 0 := by omega
              rw [Lib.decDigits_one (by omega)]; decide
    | succ k ih =>
      intro n hn
      by_cases h : n < 10
      · rw [Lib.decDigits_one h]; simp
      · rw [← dec_step h, List.length_append]
        have hk : 0 < k := by
          rcases Nat.eq_zero_or_pos k with rfl | h1
          · exact absurd hn (by omega)
          · exact h1
        have := ih (n / 10) (by rw [Nat.pow_succ] at hn; omega)
        rw [if_neg (by omega)] at this
        simp only [List.length_cons, List.length_nil]
        omega
  have := h0 19 n (by omega)
  rw [if_neg (by omega)] at this
  exact this
abbrev itoa (a : Int) : List UInt8 := Lib.itoa a
theorem itoa_nat (n : Nat) : itoa (n : Int) = Lib.decDigits n := by
  unfold itoa Lib.itoa
  rw [if_neg (by omega), Int.toNat_natCast]
theorem itoa_len {a : Int} (h : 0 ≤ a ∧ a ≤ 9223372036854775807) : (itoa a).length ≤ 19 := by
  obtain ⟨n, rfl⟩ := Int.eq_ofNat_of_zero_le h.1
  rw [itoa_nat]
  exact dec_len2 (by omega)
/-- The text of a fraction. -/
def ftx (s : Bool) (N k : Nat) : List UInt8 := if 0 < k then ((if s then [45] else []) ++ itoa (N : Int)) ++ ([47] ++ itoa ((2 : Int) ^ k)) else (if s then [45] else []) ++ itoa (N : Int)
def told (s : Bool) (m u : Nat) : List UInt8 := match frK m u with
  | none => []
  | some k => ftx s (m * 2 ^ (u + k) / 2 ^ 201) k
theorem told_none {s : Bool} {m u : Nat} (h : ∀ j < 11, ¬ (intV (m * 2 ^ (u + j)) ∧ ¬ bigV (m * 2 ^ (u + j)))) : told s m u = [] := by unfold told; rw [frK_none h]
theorem told_big {s : Bool} {m u i : Nat} (h : ∀ j < i, ¬ bigV (m * 2 ^ (u + j)) ∧ ¬ intV (m * 2 ^ (u + j))) (hb : bigV (m * 2 ^ (u + i))) : told s m u = [] :=
  told_none fun j hj hh => by
    by_cases hji : j < i
    · exact (h j hji).2 hh.1
    · exact hh.2 (big_up (by omega) hb)
theorem told_hit {s : Bool} {m u i : Nat} (hi : i < 11) (h : ∀ j < i, ¬ (intV (m * 2 ^ (u + j)) ∧ ¬ bigV (m * 2 ^ (u + j)))) (h1 : intV (m * 2 ^ (u + i))) (h2 : ¬ bigV (m * 2 ^ (u + i))) : told s m u = ftx s (m * 2 ^ (u + i) / 2 ^ 201) i := by
  unfold told; rw [frK_hit hi h ⟨h1, h2⟩]
theorem two_le : ∀ i : Nat, i ≤ 11 → 1 ≤ (2 : Int) ^ i ∧ (2 : Int) ^ i ≤ 2048 ∧ ((1 : Int) < 2 ^ i ↔ 0 < i)
  | 0, _ => by decide
  | 1, _ => by decide
  | 2, _ => by decide
  | 3, _ => by decide
  | 4, _ => by decide
  | 5, _ => by decide
  | 6, _ => by decide
  | 7, _ => by decide
  | 8, _ => by decide
  | 9, _ => by decide
  | 10, _ => by decide
  | 11, _ => by decide
  | k + 12, h => absurd h (by omega)
abbrev Bk (i : Nat) : Nat := FloatKind.f64.nearest ((2 : Int) ^ i)
theorem bk_leq : ∀ i : Nat, i ≤ 11 → (ford .f64 (some (Bk i)) (fOf .f64 4652218415073722368) == some .lt || ford .f64 (some (Bk i)) (fOf .f64 4652218415073722368) == some .eq) = decide (i ≤ 10)
  | 0, _ => by decide
  | 1, _ => by decide
  | 2, _ => by decide
  | 3, _ => by decide
  | 4, _ => by decide
  | 5, _ => by decide
  | 6, _ => by decide
  | 7, _ => by decide
  | 8, _ => by decide
  | 9, _ => by decide
  | 10, _ => by decide
  | 11, _ => by decide
  | k + 12, h => absurd h (by omega)
theorem bk_next : ∀ i : Nat, i ≤ 10 → fop .mul .f64 (some (Bk i)) (fOf .f64 4611686018427387904) = some (Bk (i + 1))
  | 0, _ => by decide
  | 1, _ => by decide
  | 2, _ => by decide
  | 3, _ => by decide
  | 4, _ => by decide
  | 5, _ => by decide
  | 6, _ => by decide
  | 7, _ => by decide
  | 8, _ => by decide
  | 9, _ => by decide
  | 10, _ => by decide
  | k + 11, h => absurd h (by omega)
theorem bk_gt : ∀ i : Nat, i ≤ 10 → (ford .f64 (some (Bk i)) (fOf .f64 4607182418800017408) == some .gt) = decide (0 < i)
  | 0, _ => by decide
  | 1, _ => by decide
  | 2, _ => by decide
  | 3, _ => by decide
  | 4, _ => by decide
  | 5, _ => by decide
  | 6, _ => by decide
  | 7, _ => by decide
  | 8, _ => by decide
  | 9, _ => by decide
  | 10, _ => by decide
  | k + 11, h => absurd h (by omega)
theorem bk_int : ∀ i : Nat, i ≤ 10 → (FloatKind.f64.decode (Bk i)).toInt .zero = some ((2 : Int) ^ i)
  | 0, _ => by decide
  | 1, _ => by decide
  | 2, _ => by decide
  | 3, _ => by decide
  | 4, _ => by decide
  | 5, _ => by decide
  | 6, _ => by decide
  | 7, _ => by decide
  | 8, _ => by decide
  | 9, _ => by decide
  | 10, _ => by decide
  | k + 11, h => absurd h (by omega)
theorem bk_0 : fOf .f64 4607182418800017408 = some (Bk 0) := by decide
theorem dmul {s : Bool} {m u i : Nat} (h : Dm m u) (hi : i ≤ 11) : fop .mul .f64 (some (dW s m u)) (some (Bk i)) = some (dW s m (u + i)) := h.mul (two_read i hi).1
theorem itoa_sg {s : Bool} {N : Nat} (h : 0 < N) : itoa (sg s N) = (if s then [45] else []) ++ itoa (N : Int) := by
  cases s with
  | false => rfl
  | true =>
    show Lib.itoa (-(N : Int)) = [45] ++ Lib.itoa (N : Int)
    unfold Lib.itoa
    rw [if_pos (by omega), if_neg (by omega), Int.toNat_natCast, show (-(N : Int)).natAbs = N by omega]
    rfl
theorem int_pos {V : Nat} (h : intV V) (h0 : 0 < V) : 0 < V / 2 ^ 201 := by
  unfold intV at h
  have := Nat.div_add_mod V (2 ^ 201)
  rcases Nat.eq_zero_or_pos (V / 2 ^ 201) with h1 | h1
  · rw [h1] at this; omega
  · exact h1
theorem tr_fe {H : List Ob} {g : List (Option Nat)} {k : FloatKind} {a b : Option Nat} (h : a = b) : TrV H g (.c (.f k a)) (.c (.f k b)) := by
  subst h; exact tr_f
theorem not_ne {a b : Option Ordering} (h : (a != b) = false) : (a == b) = true := by
  unfold bne at h
  simpa using h
theorem sg_rng {s : Bool} {N : Nat} (h : N ≤ 999999) : -9223372036854775808 ≤ sg s N ∧ sg s N ≤ 9223372036854775807 := by
  unfold sg
  split <;> omega
theorem sg_len {s : Bool} {N : Nat} (h : N ≤ 999999) (h0 : 0 < N) : (itoa (sg s N)).length ≤ 20 := by
  have := itoa_len (a := (N : Int)) (by omega)
  rw [itoa_sg h0, List.length_append]
  cases s
  · show 0 + _ ≤ 20; omega
  · show 1 + _ ≤ 20; omega
theorem cFmt (n : Int) (h : -9223372036854775808 ≤ n ∧ n ≤ 9223372036854775807) : PureC X 62 [cI n, cI 10] (cS (itoa n)) :=
  PureC.of_calls (fun _ _ => Go.Proofs.Tryd.call62 _ _) fun w F μ arr hS hr => by
    obtain ⟨x, y, rfl, h1, h2⟩ := two_args hr
    obtain rfl := rv_v h1
    obtain rfl := rv_v h2
    have ht := tab_of hS (g := 3) (vs := Lib.pow10Tab.map (Value.int .u64)) (by show _ ∈ GL; simp [GL]) (name := "internal/strconv.uint64pow10") (by kernel_rfl)
    exact (Go.Proofs.Tryd.internal_strconv_FormatInt_10 n h.1 h.2 w ht).mono fun e w' ⟨he, k, os, hw⟩ => ⟨_, he, hw ▸ Lib.below_grow _ w (Nat.le_refl _) k os, .c (.fz (.v rfl))⟩

theorem cFmtP (n : Int) (h : -9223372036854775808 ≤ n ∧ n ≤ 9223372036854775807) : PureC X 43 [cI n, cI 10] (cS (itoa n)) := by
  refine PureC.of_body (drawD_ok X) (fun _ _ => Go.Proofs.Tryd.call43 _ _) Go.Proofs.Tryd.func43 rfl (n := 8) rfl ?_
  refine w_seq ?_
  refine w_reg rfl ?_
  refine v_assign (c := .v _) rfl ?_
  refine v_nil ?_
  refine q_n ?_
  refine w_seq ?_
  refine w_reg rfl ?_
  refine v_move rfl ?_
  refine v_move rfl ?_
  refine v_call (cFmt _ (by assumption)) rfl rfl rfl (.cons vw_v (.cons vw_v .nil)) ?_
  refine v_assign rfl ?_
  refine v_nil ?_
  refine q_n ?_
  refine w_ret ?_
  refine r_r rfl ?_
  exact tr_v

theorem cDeci (n : Int) (h : -9223372036854775808 ≤ n ∧ n ≤ 9223372036854775807) : PureC X 25 [cI n] (cS (itoa n)) := by
  refine PureC.of_body (drawD_ok X) (fun _ _ => Go.Proofs.Tryd.call25 _ _) Go.Proofs.Tryd.func25 rfl (n := 5) rfl ?_
  refine w_seq ?_
  refine w_reg rfl ?_
  refine v_assign (c := .v _) rfl ?_
  refine v_nil ?_
  refine q_n ?_
  refine w_seq ?_
  refine w_reg rfl ?_
  refine v_move rfl ?_
  refine v_call (cFmtP _ (by assumption)) rfl rfl rfl (.cons vw_v (.cons vw_v .nil)) ?_
  refine v_assign rfl ?_
  refine v_nil ?_
  refine q_n ?_
  refine w_ret ?_
  refine r_r rfl ?_
  exact tr_v

theorem cDecS1 (n : Nat) (hn : n < 2 ^ 63) (ih : ∀ m : Nat, m < n → PureC X 23 [cI (m : Int)] (cS (Lib.decDigits m))) : PureC X 23 [cI (n : Int)] (cS (Lib.decDigits n)) := by
  refine PureC.of_body (drawD_ok X) (fun _ _ => Go.Proofs.Tryd.call23 _ _) Go.Proofs.Tryd.func23 rfl (n := 20) rfl ?_
  have e1 : (n : Int).tdiv 10 = ((n / 10 : Nat) : Int) := rfl
  have e2 : (n : Int).tmod 10 = ((n % 10 : Nat) : Int) := rfl
  refine w_seq ?_
  refine w_reg rfl ?_
  refine v_assign (c := .v _) rfl ?_
  refine v_nil ?_
  refine q_n ?_
  refine w_seq ?_
  refine w_seq ?_
  refine w_reg rfl ?_
  refine v_move rfl ?_
  refine v_geq lay2 rfl rfl (fun h1 => ?_) (fun h1 => ?_)
  rotate_left
  · refine v_nil ?_
    refine q_n ?_
    refine w_f rfl ?_
    refine w_skip ?_
    refine q_n ?_
    refine w_seq ?_
    refine w_reg rfl ?_
    refine v_move rfl ?_
    refine v_add lay2 rfl rfl (i64r (by first | (rw [e2]; omega) | omega)) ?_
    refine v_conv_iw lay2 lay5 rfl ?_
    refine v_lit (flat byt [_]) (H' := [_]) lay84 lay5 rfl rfl ⟨by decide, by decide⟩ rfl rfl ?_
    refine v_conv_live rfl lay84 lay9 lay5 rfl rfl (Nat.le_refl _) rfl (by decide) ?_
    refine v_assign rfl ?_
    refine v_nil ?_
    refine q_n ?_
    refine w_ret ?_
    refine r_r rfl ?_
    exact a_s (by rw [Lib.decDigits_one (by omega), ← dig_one (by omega)]; rfl)
  refine v_nil ?_
  refine q_n ?_
  refine w_t rfl ?_
  refine w_seq ?_
  refine w_draw [0, 1, 3, 0, 8, 24, 56, 120, 248, 511, 1023] [⟨0, 0, []⟩, ⟨1, 0, []⟩, ⟨2, 0, []⟩, ⟨3, 0, []⟩, ⟨4, 0, []⟩, ⟨5, 0, []⟩, ⟨6, 0, []⟩, ⟨7, 2, []⟩, ⟨8, 0, []⟩, ⟨9, 0, []⟩, ⟨10, 0, []⟩] rfl rfl ?_
  refine d_q rfl rfl rfl rfl rfl ?_
  refine v_move rfl ?_
  refine v_nil ?_
  refine d_q rfl rfl rfl rfl rfl ?_
  refine v_quo lay2 rfl rfl (by decide) (i64r (by rw [e1]; omega)) ?_
  refine v_nil ?_
  refine d_call (ih (n / 10) (by omega)) rfl rfl rfl rfl rfl (.cons vw_v .nil) ?_
  refine d_q rfl rfl rfl rfl rfl ?_
  refine v_move rfl ?_
  refine v_nil ?_
  refine d_q rfl rfl rfl rfl rfl ?_
  refine v_rem lay2 rfl rfl (by decide) ?_
  refine v_nil ?_
  refine d_q rfl rfl rfl rfl rfl ?_
  refine v_add lay2 rfl rfl (i64r (by first | (rw [e2]; omega) | omega)) ?_
  refine v_nil ?_
  refine d_q rfl rfl rfl rfl rfl ?_
  refine v_conv_iw lay2 lay5 rfl ?_
  refine v_nil ?_
  refine d_z (.c (.sl true 1 1 (flat byt [IntKind.u8.wrap (48 + (n : Int).tmod 10)]))) rfl rfl rfl ?_
  refine d_q rfl rfl rfl rfl rfl ?_
  refine v_conv_tx lay84 lay9 lay5 rfl (rfl) ?_
  refine v_nil ?_
  refine d_q rfl rfl rfl rfl rfl ?_
  refine v_sadd lay9 rfl rfl (by have := dec_len2 (n := n / 10) (by omega); unfold maxLen; simp only [List.length_map, List.length_cons, List.length_nil]; omega) ?_
  refine v_nil ?_
  refine d_q rfl rfl rfl rfl rfl ?_
  refine v_assign rfl ?_
  refine v_nil ?_
  refine d_nil ?_
  refine q_n ?_
  refine w_ret (q_r ?_)
  refine r_r rfl ?_
  exact a_s (by rw [← dec_step (n := n) (by omega), ← dig_at]; rfl)

theorem cDecS : ∀ n : Nat, n < 2 ^ 63 → PureC X 23 [cI (n : Int)] (cS (Lib.decDigits n)) := by
  intro n
  induction n using Nat.strongRecOn with
  | ind n ih => exact fun hn => cDecS1 n hn fun m hm => ih m hm (by omega)
theorem cDecI (a : Int) (h : 0 ≤ a ∧ a ≤ 9223372036854775807) : PureC X 23 [cI a] (cS (itoa a)) := by
  obtain ⟨n, rfl⟩ := Int.eq_ofNat_of_zero_le h.1
  rw [itoa_nat]
  exact cDecS n (by omega)

theorem okd {s : Bool} {m u : Nat} (h : Dm m u) : okF .f64 (some (dW s m u)) := fun b e => by
  obtain rfl := Option.some.inj e
  exact h.num

theorem cAF {b : Nat} (h : okF .f64 (some b)) : PureC X 68 [.c (.f .f64 (some b))] (.c (.f .f64 (flr (some b)))) := pure_way (name := "math.archFloor") Go.Proofs.Tryd.func68 (by kernel_rfl) rfl (by kernel_rfl) (by kernel_rfl) h

theorem cAT {b : Nat} (h : okF .f64 (some b)) : PureC X 71 [.c (.f .f64 (some b))] (.c (.f .f64 (trc (some b)))) := pure_way (name := "math.archTrunc") Go.Proofs.Tryd.func71 (by kernel_rfl) rfl (by kernel_rfl) (by kernel_rfl) h

theorem cFlr {b : Nat} (h : okF .f64 (some b)) : PureC X 48 [.c (.f .f64 (some b))] (.c (.f .f64 (flr (some b)))) := by
  refine PureC.of_body (drawD_ok X) (fun _ _ => Go.Proofs.Tryd.call48 _ _) Go.Proofs.Tryd.func48 rfl (n := 7) rfl ?_
  refine w_seq ?_
  refine w_reg rfl ?_
  refine v_assign (c := .f _ _) rfl ?_
  refine v_nil ?_
  refine q_n ?_
  refine w_seq ?_
  refine w_t rfl ?_
  refine w_seq ?_
  refine w_reg rfl ?_
  refine v_move rfl ?_
  refine v_call (cAF h) rfl rfl rfl (.cons vw_f .nil) ?_
  refine v_assign rfl ?_
  refine v_nil ?_
  refine q_n ?_
  refine w_ret (q_r ?_)
  refine r_r rfl ?_
  exact tr_f

theorem cTrc {b : Nat} (h : okF .f64 (some b)) : PureC X 51 [.c (.f .f64 (some b))] (.c (.f .f64 (trc (some b)))) := by
  refine PureC.of_body (drawD_ok X) (fun _ _ => Go.Proofs.Tryd.call51 _ _) Go.Proofs.Tryd.func51 rfl (n := 7) rfl ?_
  refine w_seq ?_
  refine w_reg rfl ?_
  refine v_assign (c := .f _ _) rfl ?_
  refine v_nil ?_
  refine q_n ?_
  refine w_seq ?_
  refine w_t rfl ?_
  refine w_seq ?_
  refine w_reg rfl ?_
  refine v_move rfl ?_
  refine v_call (cAT h) rfl rfl rfl (.cons vw_f .nil) ?_
  refine v_assign rfl ?_
  refine v_nil ?_
  refine q_n ?_
  refine w_ret (q_r ?_)
  refine r_r rfl ?_
  exact tr_f

theorem cF64 (b : Nat) (h : isNaN .f64 b = false) : PureC X 73 [.c (.v (.int .u64 (b : Int)))] (.c (.f .f64 (some b))) := pure_f64from Go.Proofs.Tryd.func73 (by kernel_rfl) rfl (by kernel_rfl) (by kernel_rfl) b h

theorem cAbs {s : Bool} {m u : Nat} (h : Dm m u) : PureC X 52 [.c (.f .f64 (some (dW s m u)))] (.c (.f .f64 (some (dW false m u)))) := by
  refine PureC.of_body (drawD_ok X) (fun _ _ => Go.Proofs.Tryd.call52 _ _) Go.Proofs.Tryd.func52 rfl (n := 7) rfl ?_
  refine w_seq ?_
  refine w_reg rfl ?_
  refine v_assign (c := .f _ _) rfl ?_
  refine v_nil ?_
  refine q_n ?_
  refine w_seq ?_
  refine w_reg rfl ?_
  refine v_move rfl ?_
  refine v_call (cB64 _) rfl rfl rfl (.cons vw_f .nil) ?_
  refine v_bin (c := .v (.int .u64 ((dW false m u : Nat) : Int))) lay113 rfl rfl (congrArg (fun z => some (C.v (.int .u64 z))) ((and_not_top _ h.abs.2).trans (congrArg _ h.abs.1))) ?_
  refine v_call (cF64 _ h.num) rfl rfl rfl (.cons vw_v .nil) ?_
  refine v_assign rfl ?_
  refine v_nil ?_
  refine q_n ?_
  refine w_ret ?_
  refine r_r rfl ?_
  exact tr_f

theorem cTldF (x m u : Nat) (hx : convF .f32 .f64 (some x) = some (some (dW false m u))) (hd : ∀ k : Nat, k ≤ 11 → Dm m (u + k)) : PureC X 33 [.c (.f .f32 (some x))] (cS (told false m u)) := by
  refine PureC.of_body (drawD_ok X) (fun _ _ => Go.Proofs.Tryd.call33 _ _) Go.Proofs.Tryd.func33 rfl (n := 45) rfl ?_
  have h0 := hd 0 (by omega)
  refine w_seq ?_
  refine w_reg rfl ?_
  refine v_assign (c := .v _) rfl ?_
  refine v_nil ?_
  refine q_n ?_
  refine w_seq ?_
  refine w_reg rfl ?_
  refine v_assign (c := .v (.int .i64 1)) rfl ?_
  refine v_nil ?_
  refine q_n ?_
  refine w_seq ?_
  refine w_seq ?_
  refine w_reg rfl ?_
  refine v_assign (c := .v (.int .i64 0)) rfl ?_
  refine v_nil ?_
  refine q_n ?_
  refine w_block ?_
  refine w_loop (fun k sl H => ∃ i : Nat, k = 11 - i ∧ i ≤ 11 ∧ (∀ j < i, ¬ bigV (m * 2 ^ (u + j)) ∧ ¬ intV (m * 2 ^ (u + j))) ∧ sl = sls [(0, .c (.f .f32 (some x))), (3, cI ((2 : Int) ^ i)), (4, cI i)] ∧ H = []) ?_ ?_
  · refine ⟨_, _, _, ?_, 0, rfl, Nat.zero_le _, (fun j hj => by omega), rfl, rfl⟩
    exact turn0 ⟨tr_f, tr_v, tr_v, trivial⟩
  rintro k sl H ⟨i, rfl, hi, hp, rfl, rfl⟩
  refine w_seq ?_
  refine w_seq ?_
  refine w_reg rfl ?_
  refine v_move rfl ?_
  refine v_leq lay3 rfl rfl (fun h1 => ?_) (fun h1 => ?_)
  rotate_left
  · refine v_nil ?_
    refine q_n ?_
    refine w_f rfl ?_
    refine w_exit ?_
    refine q_e ?_
    refine q_e ?_
    refine q_hit ?_
    refine q_n ?_
    refine w_seq ?_
    refine w_reg rfl ?_
    refine v_assign (c := .v _) rfl ?_
    refine v_nil ?_
    refine q_n ?_
    refine w_ret ?_
    refine r_r rfl ?_
    obtain rfl : i = 11 := by omega
    rw [told_none (fun j hj hh => (hp j hj).2 hh.1)]
    exact tr_v
  have hi1 : i ≤ 10 := by omega
  have hdi := hd i (by omega)
  have hvp := hdi.pos
  refine v_nil ?_
  refine q_n ?_
  refine w_t rfl ?_
  refine w_skip ?_
  refine q_n ?_
  refine w_seq ?_
  refine w_block ?_
  refine w_seq ?_
  refine w_reg rfl ?_
  refine v_move rfl ?_
  refine v_conv_ff _ lay32 lay94 rfl (hx) ?_
  refine v_move rfl ?_
  refine v_conv_if lay2 lay94 rfl ?_
  refine v_bin (c := .f .f64 (some (dW false m (u + i)))) lay94 rfl rfl (congrArg (fun z => some (C.f .f64 z)) (dmul h0 (by omega))) ?_
  refine v_assign rfl ?_
  refine v_nil ?_
  refine q_n ?_
  refine w_seq ?_
  refine w_seq ?_
  refine w_reg rfl ?_
  refine v_move rfl ?_
  refine v_binb lay94 rfl rfl rfl (fun h2 => ?_) (fun h2 => ?_)
  · have hg := (hdi.gt_top (s := false)).symm.trans h2
    refine v_move rfl ?_
    refine v_guard_off rfl rfl rfl ?_
    refine v_guard_off rfl rfl rfl ?_
    refine v_pick_t (v := .v (.bool true)) rfl rfl ?_
    refine v_nil ?_
    refine q_n ?_
    refine w_t rfl ?_
    refine w_seq ?_
    refine w_reg rfl ?_
    refine v_assign (c := .v _) rfl ?_
    refine v_nil ?_
    refine q_n ?_
    refine w_ret (q_r (q_br (q_r (q_r (q_br (q_r ?_))))))
    refine r_r rfl ?_
    have hb : bigV (m * 2 ^ (u + i)) := (of_decide_eq_true hg).2
    rw [told_big hp hb]
    exact tr_v
  have hg := (hdi.gt_top (s := false)).symm.trans h2
  refine v_move rfl ?_
  refine v_guard_on rfl rfl ?_
  refine v_move rfl ?_
  refine v_guard_on rfl rfl ?_
  refine v_binb lay94 rfl rfl rfl (fun h3 => ?_) (fun h3 => ?_)
  · have hl := (hdi.lt_top (s := false)).symm.trans h3
    exact absurd (of_decide_eq_true hl).1 (by decide)
  have hl := (hdi.lt_top (s := false)).symm.trans h3
  have hnb : ¬ bigV (m * 2 ^ (u + i)) := fun hb => by simp [hb] at hg
  refine v_pick_f rfl rfl ?_
  refine v_nil ?_
  refine q_n ?_
  refine w_f rfl ?_
  refine w_skip ?_
  refine q_n ?_
  refine w_seq ?_
  refine w_seq ?_
  refine w_reg rfl ?_
  refine v_move rfl ?_
  refine v_move rfl ?_
  refine v_call (cFlr (okd hdi)) rfl rfl rfl (.cons vw_f .nil) ?_
  refine v_binb lay94 rfl rfl rfl (fun h4 => ?_) (fun h4 => ?_)
  rotate_left
  · have hint : ¬ intV (m * 2 ^ (u + i)) := of_decide_eq_false ((hdi.eq_floor (s := false) hnb).symm.trans h4)
    refine v_nil ?_
    refine q_n ?_
    refine w_f rfl ?_
    refine w_skip ?_
    refine q_n ?_
    refine w_reg rfl ?_
    refine v_move rfl ?_
    refine v_mul lay2 rfl rfl (i64r (by have := two_le i (by omega); omega)) ?_
    refine v_assign rfl ?_
    refine v_nil ?_
    refine q_bn ?_
    refine q_n ?_
    refine w_reg rfl ?_
    refine v_move rfl ?_
    refine v_add lay3 rfl rfl (i64r (by have := two_le i (by omega); omega)) ?_
    refine v_assign rfl ?_
    refine v_nil ?_
    refine q_n ?_
    refine ⟨_, _, _, ?_, ⟨i + 1, rfl, by omega, (fun j hj => by
      by_cases hji : j < i
      · exact hp j hji
      · obtain rfl : j = i := by omega
        exact ⟨hnb, hint⟩), rfl, rfl⟩, by omega⟩
    exact turn0 ⟨tr_f, tr_i (by rw [Int.pow_succ]), tr_v, trivial⟩
  have hint : intV (m * 2 ^ (u + i)) := of_decide_eq_true ((hdi.eq_floor (s := false) hnb).symm.trans h4)
  have hN := (small_log hnb).2.2
  refine v_nil ?_
  refine q_n ?_
  refine w_t rfl ?_
  refine w_seq ?_
  refine w_reg rfl ?_
  refine v_assign (c := .v _) rfl ?_
  refine v_nil ?_
  refine q_n ?_
  refine w_seq ?_
  refine w_seq ?_
  refine w_reg rfl ?_
  refine v_move rfl ?_
  refine v_binb lay94 rfl rfl rfl (fun h5 => ?_) (fun h5 => ?_)
  · exact absurd ((hdi.lt_zero (s := false)).symm.trans h5) (by decide)
  refine v_nil ?_
  refine q_n ?_
  refine w_f rfl ?_
  refine w_skip ?_
  refine q_n ?_
  refine w_seq ?_
  refine w_reg rfl ?_
  refine v_move rfl ?_
  refine v_move rfl ?_
  refine v_conv_fi (((m * 2 ^ (u + i) / 2 ^ 201 : Nat) : Int)) lay94 lay2 rfl (hdi.toInt (s := false)) (i64r (by omega)) ?_
  refine v_call (cDecI _ (by first | omega | (have := two_le i (by omega); omega))) rfl rfl rfl (.cons vw_v .nil) ?_
  refine v_sadd lay9 rfl rfl (by have := itoa_len (a := ((m * 2 ^ (u + i) / 2 ^ 201 : Nat) : Int)) (by omega); unfold maxLen; simp only [List.length_nil]; omega) ?_
  refine v_assign rfl ?_
  refine v_nil ?_
  refine q_n ?_
  refine w_seq ?_
  refine w_seq ?_
  refine w_reg rfl ?_
  refine v_move rfl ?_
  refine v_gtr lay2 rfl rfl (fun h6 => ?_) (fun h6 => ?_)
  rotate_left
  · have hby := h6
    refine v_nil ?_
    refine q_n ?_
    refine w_f rfl ?_
    refine w_skip ?_
    refine q_n ?_
    refine w_seq ?_
    refine w_reg rfl ?_
    refine v_move rfl ?_
    refine v_assign rfl ?_
    refine v_nil ?_
    refine q_n ?_
    refine w_ret (q_r (q_br (q_r (q_r (q_br (q_r ?_))))))
    refine r_r rfl ?_
    rw [told_hit (by omega) (fun j hj hh => (hp j hj).2 hh.1) hint hnb]
    exact a_s (by unfold ftx; rw [if_neg (fun q => hby ((two_le i (by omega)).2.2.2 q))]; rfl)
  have hby := h6
  refine v_nil ?_
  refine q_n ?_
  refine w_t rfl ?_
  refine w_reg rfl ?_
  refine v_move rfl ?_
  refine v_move rfl ?_
  refine v_call (cDecI _ (by first | omega | (have := two_le i (by omega); omega))) rfl rfl rfl (.cons vw_v .nil) ?_
  refine v_sadd lay9 rfl rfl (by have := itoa_len (a := (2 : Int) ^ i) (by have := two_le i (by omega); omega); unfold maxLen; simp only [List.length_cons, List.length_nil]; omega) ?_
  refine v_sadd lay9 rfl rfl (by have := itoa_len (a := ((m * 2 ^ (u + i) / 2 ^ 201 : Nat) : Int)) (by omega); have := itoa_len (a := (2 : Int) ^ i) (by have := two_le i (by omega); omega); unfold maxLen; simp only [List.length_append, List.length_cons, List.length_nil]; omega) ?_
  refine v_assign rfl ?_
  refine v_nil ?_
  refine q_n ?_
  refine w_seq ?_
  refine w_reg rfl ?_
  refine v_move rfl ?_
  refine v_assign rfl ?_
  refine v_nil ?_
  refine q_n ?_
  refine w_ret (q_r (q_br (q_r (q_r (q_br (q_r ?_))))))
  refine r_r rfl ?_
  rw [told_hit (by omega) (fun j hj hh => (hp j hj).2 hh.1) hint hnb]
  exact a_s (by unfold ftx; rw [if_pos ((two_le i (by omega)).2.2.1 hby)]; rfl)

theorem cTldT (x m u : Nat) (hx : convF .f32 .f64 (some x) = some (some (dW true m u))) (hd : ∀ k : Nat, k ≤ 11 → Dm m (u + k)) : PureC X 33 [.c (.f .f32 (some x))] (cS (told true m u)) := by
  refine PureC.of_body (drawD_ok X) (fun _ _ => Go.Proofs.Tryd.call33 _ _) Go.Proofs.Tryd.func33 rfl (n := 45) rfl ?_
  have h0 := hd 0 (by omega)
  refine w_seq ?_
  refine w_reg rfl ?_
  refine v_assign (c := .v _) rfl ?_
  refine v_nil ?_
  refine q_n ?_
  refine w_seq ?_
  refine w_reg rfl ?_
  refine v_assign (c := .v (.int .i64 1)) rfl ?_
  refine v_nil ?_
  refine q_n ?_
  refine w_seq ?_
  refine w_seq ?_
  refine w_reg rfl ?_
  refine v_assign (c := .v (.int .i64 0)) rfl ?_
  refine v_nil ?_
  refine q_n ?_
  refine w_block ?_
  refine w_loop (fun k sl H => ∃ i : Nat, k = 11 - i ∧ i ≤ 11 ∧ (∀ j < i, ¬ bigV (m * 2 ^ (u + j)) ∧ ¬ intV (m * 2 ^ (u + j))) ∧ sl = sls [(0, .c (.f .f32 (some x))), (3, cI ((2 : Int) ^ i)), (4, cI i)] ∧ H = []) ?_ ?_
  · refine ⟨_, _, _, ?_, 0, rfl, Nat.zero_le _, (fun j hj => by omega), rfl, rfl⟩
    exact turn0 ⟨tr_f, tr_v, tr_v, trivial⟩
  rintro k sl H ⟨i, rfl, hi, hp, rfl, rfl⟩
  refine w_seq ?_
  refine w_seq ?_
  refine w_reg rfl ?_
  refine v_move rfl ?_
  refine v_leq lay3 rfl rfl (fun h1 => ?_) (fun h1 => ?_)
  rotate_left
  · refine v_nil ?_
    refine q_n ?_
    refine w_f rfl ?_
    refine w_exit ?_
    refine q_e ?_
    refine q_e ?_
    refine q_hit ?_
    refine q_n ?_
    refine w_seq ?_
    refine w_reg rfl ?_
    refine v_assign (c := .v _) rfl ?_
    refine v_nil ?_
    refine q_n ?_
    refine w_ret ?_
    refine r_r rfl ?_
    obtain rfl : i = 11 := by omega
    rw [told_none (fun j hj hh => (hp j hj).2 hh.1)]
    exact tr_v
  have hi1 : i ≤ 10 := by omega
  have hdi := hd i (by omega)
  have hvp := hdi.pos
  refine v_nil ?_
  refine q_n ?_
  refine w_t rfl ?_
  refine w_skip ?_
  refine q_n ?_
  refine w_seq ?_
  refine w_block ?_
  refine w_seq ?_
  refine w_reg rfl ?_
  refine v_move rfl ?_
  refine v_conv_ff _ lay32 lay94 rfl (hx) ?_
  refine v_move rfl ?_
  refine v_conv_if lay2 lay94 rfl ?_
  refine v_bin (c := .f .f64 (some (dW true m (u + i)))) lay94 rfl rfl (congrArg (fun z => some (C.f .f64 z)) (dmul h0 (by omega))) ?_
  refine v_assign rfl ?_
  refine v_nil ?_
  refine q_n ?_
  refine w_seq ?_
  refine w_seq ?_
  refine w_reg rfl ?_
  refine v_move rfl ?_
  refine v_binb lay94 rfl rfl rfl (fun h2 => ?_) (fun h2 => ?_)
  · have hg := (hdi.gt_top (s := true)).symm.trans h2
    exact absurd (of_decide_eq_true hg).1 (by decide)
  have hg := (hdi.gt_top (s := true)).symm.trans h2
  refine v_move rfl ?_
  refine v_guard_on rfl rfl ?_
  refine v_move rfl ?_
  refine v_guard_on rfl rfl ?_
  refine v_binb lay94 rfl rfl rfl (fun h3 => ?_) (fun h3 => ?_)
  · have hl := (hdi.lt_top (s := true)).symm.trans h3
    refine v_pick_f rfl rfl ?_
    refine v_nil ?_
    refine q_n ?_
    refine w_t rfl ?_
    refine w_seq ?_
    refine w_reg rfl ?_
    refine v_assign (c := .v _) rfl ?_
    refine v_nil ?_
    refine q_n ?_
    refine w_ret (q_r (q_br (q_r (q_r (q_br (q_r ?_))))))
    refine r_r rfl ?_
    have hb : bigV (m * 2 ^ (u + i)) := (of_decide_eq_true hl).2
    rw [told_big hp hb]
    exact tr_v
  have hl := (hdi.lt_top (s := true)).symm.trans h3
  have hnb : ¬ bigV (m * 2 ^ (u + i)) := fun hb => by simp [hb] at hl
  refine v_pick_f rfl rfl ?_
  refine v_nil ?_
  refine q_n ?_
  refine w_f rfl ?_
  refine w_skip ?_
  refine q_n ?_
  refine w_seq ?_
  refine w_seq ?_
  refine w_reg rfl ?_
  refine v_move rfl ?_
  refine v_move rfl ?_
  refine v_call (cFlr (okd hdi)) rfl rfl rfl (.cons vw_f .nil) ?_
  refine v_binb lay94 rfl rfl rfl (fun h4 => ?_) (fun h4 => ?_)
  rotate_left
  · have hint : ¬ intV (m * 2 ^ (u + i)) := of_decide_eq_false ((hdi.eq_floor (s := true) hnb).symm.trans h4)
    refine v_nil ?_
    refine q_n ?_
    refine w_f rfl ?_
    refine w_skip ?_
    refine q_n ?_
    refine w_reg rfl ?_
    refine v_move rfl ?_
    refine v_mul lay2 rfl rfl (i64r (by have := two_le i (by omega); omega)) ?_
    refine v_assign rfl ?_
    refine v_nil ?_
    refine q_bn ?_
    refine q_n ?_
    refine w_reg rfl ?_
    refine v_move rfl ?_
    refine v_add lay3 rfl rfl (i64r (by have := two_le i (by omega); omega)) ?_
    refine v_assign rfl ?_
    refine v_nil ?_
    refine q_n ?_
    refine ⟨_, _, _, ?_, ⟨i + 1, rfl, by omega, (fun j hj => by
      by_cases hji : j < i
      · exact hp j hji
      · obtain rfl : j = i := by omega
        exact ⟨hnb, hint⟩), rfl, rfl⟩, by omega⟩
    exact turn0 ⟨tr_f, tr_i (by rw [Int.pow_succ]), tr_v, trivial⟩
  have hint : intV (m * 2 ^ (u + i)) := of_decide_eq_true ((hdi.eq_floor (s := true) hnb).symm.trans h4)
  have hN := (small_log hnb).2.2
  refine v_nil ?_
  refine q_n ?_
  refine w_t rfl ?_
  refine w_seq ?_
  refine w_reg rfl ?_
  refine v_assign (c := .v _) rfl ?_
  refine v_nil ?_
  refine q_n ?_
  refine w_seq ?_
  refine w_seq ?_
  refine w_reg rfl ?_
  refine v_move rfl ?_
  refine v_binb lay94 rfl rfl rfl (fun h5 => ?_) (fun h5 => ?_)
  rotate_left
  · exact absurd ((hdi.lt_zero (s := true)).symm.trans h5) (by decide)
  refine v_nil ?_
  refine q_n ?_
  refine w_t rfl ?_
  refine w_seq ?_
  refine w_reg rfl ?_
  refine v_assign (c := .v _) rfl ?_
  refine v_nil ?_
  refine q_n ?_
  refine w_reg rfl ?_
  refine v_move rfl ?_
  refine v_negf (dW false m (u + i)) rfl rfl (hdi.neg) (hdi.num) ?_
  refine v_assign rfl ?_
  refine v_nil ?_
  refine q_n ?_
  refine w_seq ?_
  refine w_reg rfl ?_
  refine v_move rfl ?_
  refine v_move rfl ?_
  refine v_conv_fi (((m * 2 ^ (u + i) / 2 ^ 201 : Nat) : Int)) lay94 lay2 rfl (hdi.toInt (s := false)) (i64r (by omega)) ?_
  refine v_call (cDecI _ (by first | omega | (have := two_le i (by omega); omega))) rfl rfl rfl (.cons vw_v .nil) ?_
  refine v_sadd lay9 rfl rfl (by have := itoa_len (a := ((m * 2 ^ (u + i) / 2 ^ 201 : Nat) : Int)) (by omega); unfold maxLen; simp only [List.length_cons, List.length_nil]; omega) ?_
  refine v_assign rfl ?_
  refine v_nil ?_
  refine q_n ?_
  refine w_seq ?_
  refine w_seq ?_
  refine w_reg rfl ?_
  refine v_move rfl ?_
  refine v_gtr lay2 rfl rfl (fun h6 => ?_) (fun h6 => ?_)
  rotate_left
  · have hby := h6
    refine v_nil ?_
    refine q_n ?_
    refine w_f rfl ?_
    refine w_skip ?_
    refine q_n ?_
    refine w_seq ?_
    refine w_reg rfl ?_
    refine v_move rfl ?_
    refine v_assign rfl ?_
    refine v_nil ?_
    refine q_n ?_
    refine w_ret (q_r (q_br (q_r (q_r (q_br (q_r ?_))))))
    refine r_r rfl ?_
    rw [told_hit (by omega) (fun j hj hh => (hp j hj).2 hh.1) hint hnb]
    exact a_s (by unfold ftx; rw [if_neg (fun q => hby ((two_le i (by omega)).2.2.2 q))]; rfl)
  have hby := h6
  refine v_nil ?_
  refine q_n ?_
  refine w_t rfl ?_
  refine w_reg rfl ?_
  refine v_move rfl ?_
  refine v_move rfl ?_
  refine v_call (cDecI _ (by first | omega | (have := two_le i (by omega); omega))) rfl rfl rfl (.cons vw_v .nil) ?_
  refine v_sadd lay9 rfl rfl (by have := itoa_len (a := (2 : Int) ^ i) (by have := two_le i (by omega); omega); unfold maxLen; simp only [List.length_cons, List.length_nil]; omega) ?_
  refine v_sadd lay9 rfl rfl (by have := itoa_len (a := ((m * 2 ^ (u + i) / 2 ^ 201 : Nat) : Int)) (by omega); have := itoa_len (a := (2 : Int) ^ i) (by have := two_le i (by omega); omega); unfold maxLen; simp only [List.length_append, List.length_cons, List.length_nil]; omega) ?_
  refine v_assign rfl ?_
  refine v_nil ?_
  refine q_n ?_
  refine w_seq ?_
  refine w_reg rfl ?_
  refine v_move rfl ?_
  refine v_assign rfl ?_
  refine v_nil ?_
  refine q_n ?_
  refine w_ret (q_r (q_br (q_r (q_r (q_br (q_r ?_))))))
  refine r_r rfl ?_
  rw [told_hit (by omega) (fun j hj hh => (hp j hj).2 hh.1) hint hnb]
  exact a_s (by unfold ftx; rw [if_pos ((two_le i (by omega)).2.2.1 hby)]; rfl)

theorem cFrF (x m u : Nat) (hx : convF .f32 .f64 (some x) = some (some (dW false m u))) (hd : ∀ k : Nat, k ≤ 11 → Dm m (u + k)) : PureC X 35 [.c (.f .f32 (some x))] (.tup [cS (told false m u), cB (frK m u).isSome]) := by
  refine PureC.of_body (drawD_ok X) (fun _ _ => Go.Proofs.Tryd.call35 _ _) Go.Proofs.Tryd.func35 rfl (n := 36) rfl ?_
  have h0 := hd 0 (by omega)
  refine w_seq ?_
  refine w_reg rfl ?_
  refine v_assign (c := .v _) rfl ?_
  refine v_assign (c := .v (.bool false)) rfl ?_
  refine v_nil ?_
  refine q_n ?_
  refine w_seq ?_
  refine w_seq ?_
  refine w_reg rfl ?_
  refine v_assign (c := .f _ _) rfl ?_
  refine v_nil ?_
  refine q_n ?_
  refine w_block ?_
  refine w_loop (fun k sl H => ∃ i : Nat, k = 11 - i ∧ i ≤ 11 ∧ (∀ j < i, ¬ (intV (m * 2 ^ (u + j)) ∧ ¬ bigV (m * 2 ^ (u + j)))) ∧ sl = sls [(0, .c (.f .f32 (some x))), (4, .c (.f .f64 (some (Bk i))))] ∧ H = []) ?_ ?_
  · refine ⟨_, _, _, ?_, 0, rfl, Nat.zero_le _, (fun j hj => by omega), rfl, rfl⟩
    exact turn0 ⟨tr_f, tr_fe bk_0, trivial⟩
  rintro k sl H ⟨i, rfl, hi, hp, rfl, rfl⟩
  refine w_seq ?_
  refine w_seq ?_
  refine w_reg rfl ?_
  refine v_move rfl ?_
  refine v_binb lay94 rfl rfl rfl (fun h1 => ?_) (fun h1 => ?_)
  rotate_left
  · have hi1 : ¬ i ≤ 10 := of_decide_eq_false ((bk_leq i hi).symm.trans h1)
    refine v_nil ?_
    refine q_n ?_
    refine w_f rfl ?_
    refine w_exit ?_
    refine q_e ?_
    refine q_e ?_
    refine q_hit ?_
    refine q_n ?_
    refine w_seq ?_
    refine w_reg rfl ?_
    refine v_assign (c := .v _) rfl ?_
    refine v_assign (c := .v (.bool false)) rfl ?_
    refine v_nil ?_
    refine q_n ?_
    refine w_ret ?_
    refine r_r rfl ?_
    have hp11 : ∀ j < 11, ¬ (intV (m * 2 ^ (u + j)) ∧ ¬ bigV (m * 2 ^ (u + j))) := fun j hj => hp j (by omega)
    rw [told_none hp11, frK_none hp11]
    exact a_tup (.cons tr_v (.cons tr_v .nil))
  have hi1 : i ≤ 10 := of_decide_eq_true ((bk_leq i hi).symm.trans h1)
  have hdi := hd i (by omega)
  have hvp := hdi.pos
  refine v_nil ?_
  refine q_n ?_
  refine w_t rfl ?_
  refine w_skip ?_
  refine q_n ?_
  refine w_seq ?_
  refine w_block ?_
  refine w_seq ?_
  refine w_reg rfl ?_
  refine v_move rfl ?_
  refine v_conv_ff _ lay32 lay94 rfl (hx) ?_
  refine v_move rfl ?_
  refine v_bin (c := .f .f64 (some (dW false m (u + i)))) lay94 rfl rfl (congrArg (fun z => some (C.f .f64 z)) (dmul h0 (by omega))) ?_
  refine v_assign rfl ?_
  refine v_nil ?_
  refine q_n ?_
  refine w_seq ?_
  refine w_seq ?_
  refine w_reg rfl ?_
  refine v_move rfl ?_
  refine v_move rfl ?_
  refine v_call (cTrc (okd hdi)) rfl rfl rfl (.cons vw_f .nil) ?_
  refine v_binb lay94 rfl rfl rfl (fun h2 => ?_) (fun h2 => ?_)
  · have hne : ¬ (intV (m * 2 ^ (u + i)) ∧ ¬ bigV (m * 2 ^ (u + i))) := fun hh => by
      have e := hdi.eq_trunc (s := false) hh.2
      rw [decide_eq_true hh.1] at e
      have q := h2
      unfold bne at q
      rw [e] at q
      cases q
    refine v_move rfl ?_
    refine v_guard_off rfl rfl rfl ?_
    refine v_guard_off rfl rfl rfl ?_
    refine v_guard_off rfl rfl rfl ?_
    refine v_pick_t (v := .v (.bool true)) rfl rfl ?_
    refine v_nil ?_
    refine q_n ?_
    refine w_t rfl ?_
    refine w_exit ?_
    refine q_e ?_
    refine q_hit ?_
    refine q_n ?_
    refine w_reg rfl ?_
    refine v_move rfl ?_
    refine v_bin (c := .f .f64 (some (Bk (i + 1)))) lay94 rfl rfl (congrArg (fun z => some (C.f .f64 z)) (bk_next i hi1)) ?_
    refine v_assign rfl ?_
    refine v_nil ?_
    refine q_n ?_
    refine ⟨_, _, _, ?_, ⟨i + 1, rfl, by omega, (fun j hj => by
      by_cases hji : j < i
      · exact hp j hji
      · obtain rfl : j = i := by omega
        exact hne), rfl, rfl⟩, by omega⟩
    exact turn0 ⟨tr_f, tr_f, trivial⟩
  have heq := not_ne h2
  refine v_move rfl ?_
  refine v_guard_on rfl rfl ?_
  refine v_move rfl ?_
  refine v_guard_on rfl rfl ?_
  refine v_call (cAbs hdi) rfl rfl rfl (.cons vw_f .nil) ?_
  refine v_guard_on rfl rfl ?_
  refine v_binb lay94 rfl rfl rfl (fun h3 => ?_) (fun h3 => ?_)
  · have hg := (hdi.gt_top (s := false)).symm.trans h3
    have hne : ¬ (intV (m * 2 ^ (u + i)) ∧ ¬ bigV (m * 2 ^ (u + i))) := fun hh => hh.2 (of_decide_eq_true hg).2
    refine v_pick_f rfl rfl ?_
    refine v_nil ?_
    refine q_n ?_
    refine w_t rfl ?_
    refine w_exit ?_
    refine q_e ?_
    refine q_hit ?_
    refine q_n ?_
    refine w_reg rfl ?_
    refine v_move rfl ?_
    refine v_bin (c := .f .f64 (some (Bk (i + 1)))) lay94 rfl rfl (congrArg (fun z => some (C.f .f64 z)) (bk_next i hi1)) ?_
    refine v_assign rfl ?_
    refine v_nil ?_
    refine q_n ?_
    refine ⟨_, _, _, ?_, ⟨i + 1, rfl, by omega, (fun j hj => by
      by_cases hji : j < i
      · exact hp j hji
      · obtain rfl : j = i := by omega
        exact hne), rfl, rfl⟩, by omega⟩
    exact turn0 ⟨tr_f, tr_f, trivial⟩
  have hg := (hdi.gt_top (s := false)).symm.trans h3
  have hnb : ¬ bigV (m * 2 ^ (u + i)) := fun hb => by simp [hb] at hg
  have hint : intV (m * 2 ^ (u + i)) := of_decide_eq_true ((hdi.eq_trunc (s := false) hnb).symm.trans heq)
  have hN := (small_log hnb).2.2
  have hN0 := int_pos hint hvp
  have hsl := sg_len (s := false) hN hN0
  refine v_pick_f rfl rfl ?_
  refine v_nil ?_
  refine q_n ?_
  refine w_f rfl ?_
  refine w_skip ?_
  refine q_n ?_
  refine w_seq ?_
  refine w_reg rfl ?_
  refine v_move rfl ?_
  refine v_conv_fi (sg false (m * 2 ^ (u + i) / 2 ^ 201)) lay94 lay2 rfl (hdi.toInt) (i64r (sg_rng hN)) ?_
  refine v_call (cDeci _ (by first | exact sg_rng hN | (have := two_le i (by omega); omega))) rfl rfl rfl (.cons vw_v .nil) ?_
  refine v_assign rfl ?_
  refine v_nil ?_
  refine q_n ?_
  refine w_seq ?_
  refine w_seq ?_
  refine w_reg rfl ?_
  refine v_move rfl ?_
  refine v_binb lay94 rfl rfl rfl (fun h4 => ?_) (fun h4 => ?_)
  rotate_left
  · have hby := h4
    refine v_nil ?_
    refine q_n ?_
    refine w_f rfl ?_
    refine w_skip ?_
    refine q_n ?_
    refine w_seq ?_
    refine w_reg rfl ?_
    refine v_move rfl ?_
    refine v_assign rfl ?_
    refine v_assign (c := .v (.bool true)) rfl ?_
    refine v_nil ?_
    refine q_n ?_
    refine w_ret (q_br (q_r (q_r (q_br (q_r ?_)))))
    refine r_r rfl ?_
    rw [told_hit (by omega) hp hint hnb, frK_hit (by omega) hp ⟨hint, hnb⟩]
    exact a_tup (.cons (a_s (by unfold ftx; rw [if_neg (of_decide_eq_false ((bk_gt i hi1).symm.trans hby)), itoa_sg hN0])) (.cons tr_v .nil))
  have hby := h4
  refine v_nil ?_
  refine q_n ?_
  refine w_t rfl ?_
  refine w_reg rfl ?_
  refine v_move rfl ?_
  refine v_move rfl ?_
  refine v_conv_fi ((2 : Int) ^ i) lay94 lay2 rfl (bk_int i hi1) (i64r (by have := two_le i (by omega); omega)) ?_
  refine v_call (cDeci _ (by first | exact sg_rng hN | (have := two_le i (by omega); omega))) rfl rfl rfl (.cons vw_v .nil) ?_
  refine v_sadd lay9 rfl rfl (by have := itoa_len (a := (2 : Int) ^ i) (by have := two_le i (by omega); omega); unfold maxLen; simp only [List.length_cons, List.length_nil]; omega) ?_
  refine v_sadd lay9 rfl rfl (by have := itoa_len (a := (2 : Int) ^ i) (by have := two_le i (by omega); omega); unfold maxLen; simp only [List.length_append, List.length_cons, List.length_nil]; omega) ?_
  refine v_assign rfl ?_
  refine v_nil ?_
  refine q_n ?_
  refine w_seq ?_
  refine w_reg rfl ?_
  refine v_move rfl ?_
  refine v_assign rfl ?_
  refine v_assign (c := .v (.bool true)) rfl ?_
  refine v_nil ?_
  refine q_n ?_
  refine w_ret (q_br (q_r (q_r (q_br (q_r ?_)))))
  refine r_r rfl ?_
  rw [told_hit (by omega) hp hint hnb, frK_hit (by omega) hp ⟨hint, hnb⟩]
  exact a_tup (.cons (a_s (by unfold ftx; rw [if_pos (of_decide_eq_true ((bk_gt i hi1).symm.trans hby)), itoa_sg hN0])) (.cons tr_v .nil))

theorem cFrT (x m u : Nat) (hx : convF .f32 .f64 (some x) = some (some (dW true m u))) (hd : ∀ k : Nat, k ≤ 11 → Dm m (u + k)) : PureC X 35 [.c (.f .f32 (some x))] (.tup [cS (told true m u), cB (frK m u).isSome]) := by
  refine PureC.of_body (drawD_ok X) (fun _ _ => Go.Proofs.Tryd.call35 _ _) Go.Proofs.Tryd.func35 rfl (n := 36) rfl ?_
  have h0 := hd 0 (by omega)
  refine w_seq ?_
  refine w_reg rfl ?_
  refine v_assign (c := .v _) rfl ?_
  refine v_assign (c := .v (.bool false)) rfl ?_
  refine v_nil ?_
  refine q_n ?_
  refine w_seq ?_
  refine w_seq ?_
  refine w_reg rfl ?_
  refine v_assign (c := .f _ _) rfl ?_
  refine v_nil ?_
  refine q_n ?_
  refine w_block ?_
  refine w_loop (fun k sl H => ∃ i : Nat, k = 11 - i ∧ i ≤ 11 ∧ (∀ j < i, ¬ (intV (m * 2 ^ (u + j)) ∧ ¬ bigV (m * 2 ^ (u + j)))) ∧ sl = sls [(0, .c (.f .f32 (some x))), (4, .c (.f .f64 (some (Bk i))))] ∧ H = []) ?_ ?_
  · refine ⟨_, _, _, ?_, 0, rfl, Nat.zero_le _, (fun j hj => by omega), rfl, rfl⟩
    exact turn0 ⟨tr_f, tr_fe bk_0, trivial⟩
  rintro k sl H ⟨i, rfl, hi, hp, rfl, rfl⟩
  refine w_seq ?_
  refine w_seq ?_
  refine w_reg rfl ?_
  refine v_move rfl ?_
  refine v_binb lay94 rfl rfl rfl (fun h1 => ?_) (fun h1 => ?_)
  rotate_left
  · have hi1 : ¬ i ≤ 10 := of_decide_eq_false ((bk_leq i hi).symm.trans h1)
    refine v_nil ?_
    refine q_n ?_
    refine w_f rfl ?_
    refine w_exit ?_
    refine q_e ?_
    refine q_e ?_
    refine q_hit ?_
    refine q_n ?_
    refine w_seq ?_
    refine w_reg rfl ?_
    refine v_assign (c := .v _) rfl ?_
    refine v_assign (c := .v (.bool false)) rfl ?_
    refine v_nil ?_
    refine q_n ?_
    refine w_ret ?_
    refine r_r rfl ?_
    have hp11 : ∀ j < 11, ¬ (intV (m * 2 ^ (u + j)) ∧ ¬ bigV (m * 2 ^ (u + j))) := fun j hj => hp j (by omega)
    rw [told_none hp11, frK_none hp11]
    exact a_tup (.cons tr_v (.cons tr_v .nil))
  have hi1 : i ≤ 10 := of_decide_eq_true ((bk_leq i hi).symm.trans h1)
  have hdi := hd i (by omega)
  have hvp := hdi.pos
  refine v_nil ?_
  refine q_n ?_
  refine w_t rfl ?_
  refine w_skip ?_
  refine q_n ?_
  refine w_seq ?_
  refine w_block ?_
  refine w_seq ?_
  refine w_reg rfl ?_
  refine v_move rfl ?_
  refine v_conv_ff _ lay32 lay94 rfl (hx) ?_
  refine v_move rfl ?_
  refine v_bin (c := .f .f64 (some (dW true m (u + i)))) lay94 rfl rfl (congrArg (fun z => some (C.f .f64 z)) (dmul h0 (by omega))) ?_
  refine v_assign rfl ?_
  refine v_nil ?_
  refine q_n ?_
  refine w_seq ?_
  refine w_seq ?_
  refine w_reg rfl ?_
  refine v_move rfl ?_
  refine v_move rfl ?_
  refine v_call (cTrc (okd hdi)) rfl rfl rfl (.cons vw_f .nil) ?_
  refine v_binb lay94 rfl rfl rfl (fun h2 => ?_) (fun h2 => ?_)
  · have hne : ¬ (intV (m * 2 ^ (u + i)) ∧ ¬ bigV (m * 2 ^ (u + i))) := fun hh => by
      have e := hdi.eq_trunc (s := true) hh.2
      rw [decide_eq_true hh.1] at e
      have q := h2
      unfold bne at q
      rw [e] at q
      cases q
    refine v_move rfl ?_
    refine v_guard_off rfl rfl rfl ?_
    refine v_guard_off rfl rfl rfl ?_
    refine v_guard_off rfl rfl rfl ?_
    refine v_pick_t (v := .v (.bool true)) rfl rfl ?_
    refine v_nil ?_
    refine q_n ?_
    refine w_t rfl ?_
    refine w_exit ?_
    refine q_e ?_
    refine q_hit ?_
    refine q_n ?_
    refine w_reg rfl ?_
    refine v_move rfl ?_
    refine v_bin (c := .f .f64 (some (Bk (i + 1)))) lay94 rfl rfl (congrArg (fun z => some (C.f .f64 z)) (bk_next i hi1)) ?_
    refine v_assign rfl ?_
    refine v_nil ?_
    refine q_n ?_
    refine ⟨_, _, _, ?_, ⟨i + 1, rfl, by omega, (fun j hj => by
      by_cases hji : j < i
      · exact hp j hji
      · obtain rfl : j = i := by omega
        exact hne), rfl, rfl⟩, by omega⟩
    exact turn0 ⟨tr_f, tr_f, trivial⟩
  have heq := not_ne h2
  refine v_move rfl ?_
  refine v_guard_on rfl rfl ?_
  refine v_move rfl ?_
  refine v_guard_on rfl rfl ?_
  refine v_call (cAbs hdi) rfl rfl rfl (.cons vw_f .nil) ?_
  refine v_guard_on rfl rfl ?_
  refine v_binb lay94 rfl rfl rfl (fun h3 => ?_) (fun h3 => ?_)
  · have hg := (hdi.gt_top (s := false)).symm.trans h3
    have hne : ¬ (intV (m * 2 ^ (u + i)) ∧ ¬ bigV (m * 2 ^ (u + i))) := fun hh => hh.2 (of_decide_eq_true hg).2
    refine v_pick_f rfl rfl ?_
    refine v_nil ?_
    refine q_n ?_
    refine w_t rfl ?_
    refine w_exit ?_
    refine q_e ?_
    refine q_hit ?_
    refine q_n ?_
    refine w_reg rfl ?_
    refine v_move rfl ?_
    refine v_bin (c := .f .f64 (some (Bk (i + 1)))) lay94 rfl rfl (congrArg (fun z => some (C.f .f64 z)) (bk_next i hi1)) ?_
    refine v_assign rfl ?_
    refine v_nil ?_
    refine q_n ?_
    refine ⟨_, _, _, ?_, ⟨i + 1, rfl, by omega, (fun j hj => by
      by_cases hji : j < i
      · exact hp j hji
      · obtain rfl : j = i := by omega
        exact hne), rfl, rfl⟩, by omega⟩
    exact turn0 ⟨tr_f, tr_f, trivial⟩
  have hg := (hdi.gt_top (s := false)).symm.trans h3
  have hnb : ¬ bigV (m * 2 ^ (u + i)) := fun hb => by simp [hb] at hg
  have hint : intV (m * 2 ^ (u + i)) := of_decide_eq_true ((hdi.eq_trunc (s := true) hnb).symm.trans heq)
  have hN := (small_log hnb).2.2
  have hN0 := int_pos hint hvp
  have hsl := sg_len (s := true) hN hN0
  refine v_pick_f rfl rfl ?_
  refine v_nil ?_
  refine q_n ?_
  refine w_f rfl ?_
  refine w_skip ?_
  refine q_n ?_
  refine w_seq ?_
  refine w_reg rfl ?_
  refine v_move rfl ?_
  refine v_conv_fi (sg true (m * 2 ^ (u + i) / 2 ^ 201)) lay94 lay2 rfl (hdi.toInt) (i64r (sg_rng hN)) ?_
  refine v_call (cDeci _ (by first | exact sg_rng hN | (have := two_le i (by omega); omega))) rfl rfl rfl (.cons vw_v .nil) ?_
  refine v_assign rfl ?_
  refine v_nil ?_
  refine q_n ?_
  refine w_seq ?_
  refine w_seq ?_
  refine w_reg rfl ?_
  refine v_move rfl ?_
  refine v_binb lay94 rfl rfl rfl (fun h4 => ?_) (fun h4 => ?_)
  rotate_left
  · have hby := h4
    refine v_nil ?_
    refine q_n ?_
    refine w_f rfl ?_
    refine w_skip ?_
    refine q_n ?_
    refine w_seq ?_
    refine w_reg rfl ?_
    refine v_move rfl ?_
    refine v_assign rfl ?_
    refine v_assign (c := .v (.bool true)) rfl ?_
    refine v_nil ?_
    refine q_n ?_
    refine w_ret (q_br (q_r (q_r (q_br (q_r ?_)))))
    refine r_r rfl ?_
    rw [told_hit (by omega) hp hint hnb, frK_hit (by omega) hp ⟨hint, hnb⟩]
    exact a_tup (.cons (a_s (by unfold ftx; rw [if_neg (of_decide_eq_false ((bk_gt i hi1).symm.trans hby)), itoa_sg hN0])) (.cons tr_v .nil))
  have hby := h4
  refine v_nil ?_
  refine q_n ?_
  refine w_t rfl ?_
  refine w_reg rfl ?_
  refine v_move rfl ?_
  refine v_move rfl ?_
  refine v_conv_fi ((2 : Int) ^ i) lay94 lay2 rfl (bk_int i hi1) (i64r (by have := two_le i (by omega); omega)) ?_
  refine v_call (cDeci _ (by first | exact sg_rng hN | (have := two_le i (by omega); omega))) rfl rfl rfl (.cons vw_v .nil) ?_
  refine v_sadd lay9 rfl rfl (by have := itoa_len (a := (2 : Int) ^ i) (by have := two_le i (by omega); omega); unfold maxLen; simp only [List.length_cons, List.length_nil]; omega) ?_
  refine v_sadd lay9 rfl rfl (by have := itoa_len (a := (2 : Int) ^ i) (by have := two_le i (by omega); omega); unfold maxLen; simp only [List.length_append, List.length_cons, List.length_nil]; omega) ?_
  refine v_assign rfl ?_
  refine v_nil ?_
  refine q_n ?_
  refine w_seq ?_
  refine w_reg rfl ?_
  refine v_move rfl ?_
  refine v_assign rfl ?_
  refine v_assign (c := .v (.bool true)) rfl ?_
  refine v_nil ?_
  refine q_n ?_
  refine w_ret (q_br (q_r (q_r (q_br (q_r ?_)))))
  refine r_r rfl ?_
  rw [told_hit (by omega) hp hint hnb, frK_hit (by omega) hp ⟨hint, hnb⟩]
  exact a_tup (.cons (a_s (by unfold ftx; rw [if_pos (of_decide_eq_true ((bk_gt i hi1).symm.trans hby)), itoa_sg hN0])) (.cons tr_v .nil))

theorem conv0 : convF .f32 .f64 (some 0) = some (some 0) := by decide
theorem ok0 : okF .f64 (some 0) := fun b e => by
  obtain rfl := Option.some.inj e
  decide
theorem itoa_0 : itoa 0 = [48] := by
  rw [show itoa 0 = Lib.decDigits 0 from itoa_nat 0, Lib.decDigits_one (by decide)]; rfl

theorem cAbs0 : PureC X 52 [.c (.f .f64 (some 0))] (.c (.f .f64 (some 0))) := by
  refine PureC.of_body (drawD_ok X) (fun _ _ => Go.Proofs.Tryd.call52 _ _) Go.Proofs.Tryd.func52 rfl (n := 7) rfl ?_
  refine w_seq ?_
  refine w_reg rfl ?_
  refine v_assign (c := .f _ _) rfl ?_
  refine v_nil ?_
  refine q_n ?_
  refine w_seq ?_
  refine w_reg rfl ?_
  refine v_move rfl ?_
  refine v_call (cB64 _) rfl rfl rfl (.cons vw_f .nil) ?_
  refine v_bin (c := .v (.int .u64 0)) lay113 rfl rfl (congrArg (fun z => some (C.v (.int .u64 z))) (by decide)) ?_
  refine v_call (cF64 0 (by decide)) rfl rfl rfl (.cons vw_v .nil) ?_
  refine v_assign rfl ?_
  refine v_nil ?_
  refine q_n ?_
  refine w_ret ?_
  refine r_r rfl ?_
  exact tr_f

theorem cTld0 : PureC X 33 [.c (.f .f32 (some 0))] (cS [48]) := by
  refine PureC.of_body (drawD_ok X) (fun _ _ => Go.Proofs.Tryd.call33 _ _) Go.Proofs.Tryd.func33 rfl (n := 45) rfl ?_
  refine w_seq ?_
  refine w_reg rfl ?_
  refine v_assign (c := .v _) rfl ?_
  refine v_nil ?_
  refine q_n ?_
  refine w_seq ?_
  refine w_reg rfl ?_
  refine v_assign (c := .v (.int .i64 1)) rfl ?_
  refine v_nil ?_
  refine q_n ?_
  refine w_seq ?_
  refine w_seq ?_
  refine w_reg rfl ?_
  refine v_assign (c := .v (.int .i64 0)) rfl ?_
  refine v_nil ?_
  refine q_n ?_
  refine w_block ?_
  refine w_loop (fun k sl H => k = 0 ∧ sl = sls [(0, .c (.f .f32 (some 0))), (3, cI 1), (4, cI 0)] ∧ H = []) ?_ ?_
  · refine ⟨_, _, _, ?_, rfl, rfl, rfl⟩
    exact turn0 ⟨tr_f, tr_v, tr_v, trivial⟩
  rintro k sl H ⟨rfl, rfl, rfl⟩
  refine w_seq ?_
  refine w_seq ?_
  refine w_reg rfl ?_
  refine v_move rfl ?_
  refine v_leq lay3 rfl rfl (fun h1 => ?_) (fun h1 => ?_)
  rotate_left
  · exact absurd (by decide) h1
  refine v_nil ?_
  refine q_n ?_
  refine w_t rfl ?_
  refine w_skip ?_
  refine q_n ?_
  refine w_seq ?_
  refine w_block ?_
  refine w_seq ?_
  refine w_reg rfl ?_
  refine v_move rfl ?_
  refine v_conv_ff _ lay32 lay94 rfl (conv0) ?_
  refine v_move rfl ?_
  refine v_conv_if lay2 lay94 rfl ?_
  refine v_bin (c := .f .f64 (some 0)) lay94 rfl rfl (congrArg (fun z => some (C.f .f64 z)) (by decide)) ?_
  refine v_assign rfl ?_
  refine v_nil ?_
  refine q_n ?_
  refine w_seq ?_
  refine w_seq ?_
  refine w_reg rfl ?_
  refine v_move rfl ?_
  refine v_binb lay94 rfl rfl rfl (fun h2 => ?_) (fun h2 => ?_)
  · exact absurd h2 (by decide)
  refine v_move rfl ?_
  refine v_guard_on rfl rfl ?_
  refine v_move rfl ?_
  refine v_guard_on rfl rfl ?_
  refine v_binb lay94 rfl rfl rfl (fun h3 => ?_) (fun h3 => ?_)
  · exact absurd h3 (by decide)
  refine v_pick_f rfl rfl ?_
  refine v_nil ?_
  refine q_n ?_
  refine w_f rfl ?_
  refine w_skip ?_
  refine q_n ?_
  refine w_seq ?_
  refine w_seq ?_
  refine w_reg rfl ?_
  refine v_move rfl ?_
  refine v_move rfl ?_
  refine v_call (cFlr ok0) rfl rfl rfl (.cons vw_f .nil) ?_
  refine v_binb lay94 rfl rfl rfl (fun h4 => ?_) (fun h4 => ?_)
  rotate_left
  · exact absurd h4 (by decide)
  refine v_nil ?_
  refine q_n ?_
  refine w_t rfl ?_
  refine w_seq ?_
  refine w_reg rfl ?_
  refine v_assign (c := .v _) rfl ?_
  refine v_nil ?_
  refine q_n ?_
  refine w_seq ?_
  refine w_seq ?_
  refine w_reg rfl ?_
  refine v_move rfl ?_
  refine v_binb lay94 rfl rfl rfl (fun h5 => ?_) (fun h5 => ?_)
  · exact absurd h5 (by decide)
  refine v_nil ?_
  refine q_n ?_
  refine w_f rfl ?_
  refine w_skip ?_
  refine q_n ?_
  refine w_seq ?_
  refine w_reg rfl ?_
  refine v_move rfl ?_
  refine v_move rfl ?_
  refine v_conv_fi (0) lay94 lay2 rfl (by decide) (i64r (by omega)) ?_
  refine v_call (cDecI _ (by omega)) rfl rfl rfl (.cons vw_v .nil) ?_
  refine v_sadd lay9 rfl rfl (by rw [itoa_0]; unfold maxLen; simp only [List.length_cons, List.length_nil]; omega) ?_
  refine v_assign rfl ?_
  refine v_nil ?_
  refine q_n ?_
  refine w_seq ?_
  refine w_seq ?_
  refine w_reg rfl ?_
  refine v_move rfl ?_
  refine v_gtr lay2 rfl rfl (fun h6 => ?_) (fun h6 => ?_)
  · exact absurd h6 (by decide)
  refine v_nil ?_
  refine q_n ?_
  refine w_f rfl ?_
  refine w_skip ?_
  refine q_n ?_
  refine w_seq ?_
  refine w_reg rfl ?_
  refine v_move rfl ?_
  refine v_assign rfl ?_
  refine v_nil ?_
  refine q_n ?_
  refine w_ret (q_r (q_br (q_r (q_r (q_br (q_r ?_))))))
  refine r_r rfl ?_
  exact a_s (by rw [itoa_0]; rfl)

theorem cFr0 : PureC X 35 [.c (.f .f32 (some 0))] (.tup [cS [48], cB true]) := by
  refine PureC.of_body (drawD_ok X) (fun _ _ => Go.Proofs.Tryd.call35 _ _) Go.Proofs.Tryd.func35 rfl (n := 36) rfl ?_
  refine w_seq ?_
  refine w_reg rfl ?_
  refine v_assign (c := .v _) rfl ?_
  refine v_assign (c := .v (.bool false)) rfl ?_
  refine v_nil ?_
  refine q_n ?_
  refine w_seq ?_
  refine w_seq ?_
  refine w_reg rfl ?_
  refine v_assign (c := .f _ _) rfl ?_
  refine v_nil ?_
  refine q_n ?_
  refine w_block ?_
  refine w_loop (fun k sl H => k = 0 ∧ sl = sls [(0, .c (.f .f32 (some 0))), (4, .c (.f .f64 (some (Bk 0))))] ∧ H = []) ?_ ?_
  · refine ⟨_, _, _, ?_, rfl, rfl, rfl⟩
    exact turn0 ⟨tr_f, tr_fe bk_0, trivial⟩
  rintro k sl H ⟨rfl, rfl, rfl⟩
  refine w_seq ?_
  refine w_seq ?_
  refine w_reg rfl ?_
  refine v_move rfl ?_
  refine v_binb lay94 rfl rfl rfl (fun h1 => ?_) (fun h1 => ?_)
  rotate_left
  · exact absurd h1 (by decide)
  refine v_nil ?_
  refine q_n ?_
  refine w_t rfl ?_
  refine w_skip ?_
  refine q_n ?_
  refine w_seq ?_
  refine w_block ?_
  refine w_seq ?_
  refine w_reg rfl ?_
  refine v_move rfl ?_
  refine v_conv_ff _ lay32 lay94 rfl (conv0) ?_
  refine v_move rfl ?_
  refine v_bin (c := .f .f64 (some 0)) lay94 rfl rfl (congrArg (fun z => some (C.f .f64 z)) (by decide)) ?_
  refine v_assign rfl ?_
  refine v_nil ?_
  refine q_n ?_
  refine w_seq ?_
  refine w_seq ?_
  refine w_reg rfl ?_
  refine v_move rfl ?_
  refine v_move rfl ?_
  refine v_call (cTrc ok0) rfl rfl rfl (.cons vw_f .nil) ?_
  refine v_binb lay94 rfl rfl rfl (fun h2 => ?_) (fun h2 => ?_)
  · exact absurd h2 (by decide)
  refine v_move rfl ?_
  refine v_guard_on rfl rfl ?_
  refine v_move rfl ?_
  refine v_guard_on rfl rfl ?_
  refine v_call (cAbs0) rfl rfl rfl (.cons vw_f .nil) ?_
  refine v_guard_on rfl rfl ?_
  refine v_binb lay94 rfl rfl rfl (fun h3 => ?_) (fun h3 => ?_)
  · exact absurd h3 (by decide)
  refine v_pick_f rfl rfl ?_
  refine v_nil ?_
  refine q_n ?_
  refine w_f rfl ?_
  refine w_skip ?_
  refine q_n ?_
  refine w_seq ?_
  refine w_reg rfl ?_
  refine v_move rfl ?_
  refine v_conv_fi (0) lay94 lay2 rfl (by decide) (i64r (by omega)) ?_
  refine v_call (cDeci _ (by omega)) rfl rfl rfl (.cons vw_v .nil) ?_
  refine v_assign rfl ?_
  refine v_nil ?_
  refine q_n ?_
  refine w_seq ?_
  refine w_seq ?_
  refine w_reg rfl ?_
  refine v_move rfl ?_
  refine v_binb lay94 rfl rfl rfl (fun h4 => ?_) (fun h4 => ?_)
  · exact absurd h4 (by decide)
  refine v_nil ?_
  refine q_n ?_
  refine w_f rfl ?_
  refine w_skip ?_
  refine q_n ?_
  refine w_seq ?_
  refine w_reg rfl ?_
  refine v_move rfl ?_
  refine v_assign rfl ?_
  refine v_assign (c := .v (.bool true)) rfl ?_
  refine v_nil ?_
  refine q_n ?_
  refine w_ret (q_br (q_r (q_r (q_br (q_r ?_)))))
  refine r_r rfl ?_
  exact a_tup (.cons (a_s itoa_0) (.cons tr_v .nil))

/-- The text of a single as a fraction, and whether there is one. -/
def frt (x : Nat) : List UInt8 := match fS.read x with
  | .number s m e => if m = 0 then [48] else told s m (e + 201).toNat
  | _ => []
def frOk (x : Nat) : Bool := match fS.read x with
  | .number _ m e => if m = 0 then true else (frK m (e + 201).toNat).isSome
  | _ => false
theorem fr_data {x : Nat} (hb : x < 2 ^ 32) (hf : fin (some x) = true) (hz : x ≠ 2147483648) : (x = 0 ∧ frt x = [48] ∧ frOk x = true) ∨ ∃ (s : Bool) (m u : Nat), convF .f32 .f64 (some x) = some (some (dW s m u)) ∧ (∀ k : Nat, k ≤ 11 → Dm m (u + k)) ∧ frt x = told s m u ∧ frOk x = (frK m u).isSome := by
  obtain ⟨s, m, e, hr⟩ := num_of_fin hf
  obtain ⟨hm, he1, he2⟩ := read_single hr
  by_cases hm0 : m = 0
  · left
    subst hm0
    have hs : s = false := by
      cases s with
      | false => rfl
      | true => exact absurd ((neg_zero_bits hb hr).2 ⟨rfl, rfl⟩) hz
    subst hs
    have hx : x = 0 := by
      have hw : fS.read x = .number false 0 e := hr
      unfold Ieee.Format.read at hw
      simp only [fS_sw, fS_bi, fS_in, fS_lp] at hw
      split at hw
      · simp only [Ieee.Datum.number.injEq] at hw
        obtain ⟨h1, h2, -⟩ := hw
        have : ¬ x / 2147483648 % 2 = 1 := by simpa using h1
        omega
      · split at hw
        · simp only [Ieee.Datum.number.injEq] at hw
          omega
        · split at hw <;> cases hw
    subst hx
    exact ⟨rfl, by decide, by decide⟩
  · right
    have hl : m.log2 ≤ 52 := by
      have h2 := Nat.log2_self_le hm0
      have : 2 ^ m.log2 < 2 ^ 53 := by
        have : (2 : Nat) ^ 53 = 9007199254740992 := by decide
        omega
      have := (Nat.pow_lt_pow_iff_right (show 1 < 2 by decide)).1 this
      omega
    refine ⟨s, m, (e + 201).toNat, ?_, fun k hk => ⟨hm0, hl, by omega⟩, ?_, ?_⟩
    · rw [convF_wide hr]
      unfold dW
      rw [show (((e + 201).toNat : Nat) : Int) - 201 = e by omega]
    · unfold frt
      rw [show fS.read x = _ from hr]
      simp only
      rw [if_neg hm0]
    · unfold frOk
      rw [show fS.read x = _ from hr]
      simp only
      rw [if_neg hm0]
theorem cTld {x : Nat} (hb : x < 2 ^ 32) (hf : fin (some x) = true) (hz : x ≠ 2147483648) : PureC X 33 [.c (.f .f32 (some x))] (cS (frt x)) := by
  rcases fr_data hb hf hz with ⟨rfl, e, -⟩ | ⟨s, m, u, h1, h2, e, -⟩
  · rw [e]; exact cTld0
  · rw [e]
    cases s
    · exact cTldF x m u h1 h2
    · exact cTldT x m u h1 h2
theorem cFr {x : Nat} (hb : x < 2 ^ 32) (hf : fin (some x) = true) (hz : x ≠ 2147483648) : PureC X 35 [.c (.f .f32 (some x))] (.tup [cS (frt x), cB (frOk x)]) := by
  rcases fr_data hb hf hz with ⟨rfl, e, e2⟩ | ⟨s, m, u, h1, h2, e, e2⟩
  · rw [e, e2]; exact cFr0
  · rw [e, e2]
    cases s
    · exact cFrF x m u h1 h2
    · exact cFrT x m u h1 h2
theorem frt_nil {x : Nat} : frt x = [] ↔ frOk x = false := by
  unfold frt frOk
  cases fS.read x with
  | number s m e =>
    simp only
    split
    · simp
    · unfold told
      cases frK m (e + 201).toNat with
      | none => simp
      | some k =>
        simp only [Option.isSome_some]
        constructor
        · intro h
          exfalso
          have hl := congrArg List.length h
          have hp := (dec_digs (m * 2 ^ ((e + 201).toNat + k) / 2 ^ 201)).2.2.1
          unfold ftx at hl
          rw [itoa_nat] at hl
          split at hl <;> simp only [List.length_append, List.length_nil] at hl <;> omega
        · intro h; cases h
  | infinity _ => simp
  | nan _ _ => simp
end Go.VL
namespace Go.VL
open Go.RowKit
set_option maxRecDepth 20000
set_option maxHeartbeats 8000000
theorem join_2 (x y s : List UInt8) : Lib.join [x, y] s = (x ++ s) ++ y := by
  rw [Lib.join_cons]; simp [Lib.joinTail]
theorem join_3 (x y z s : List UInt8) : Lib.join [x, y, z] s = ((x ++ s) ++ y) ++ (s ++ z) := by
  rw [Lib.join_cons]; simp [Lib.joinTail]
theorem join_4 (x y z v s : List UInt8) : Lib.join [x, y, z, v] s = (((x ++ s) ++ y) ++ (s ++ z)) ++ (s ++ v) := by
  rw [Lib.join_cons]; simp [Lib.joinTail]
theorem join_5 (x y z v w s : List UInt8) : Lib.join [x, y, z, v, w] s = ((((x ++ s) ++ y) ++ (s ++ z)) ++ (s ++ v)) ++ (s ++ w) := by
  rw [Lib.join_cons]; simp [Lib.joinTail]
/-- The words of an act's text. -/
def aW (k a b c : Int) (x : Nat) : List (List UInt8) := wordA.getD k.toNat [] :: itoa a :: ((if 1 < wh k then [itoa b] else []) ++ ((if 2 < wh k then [itoa c] else []) ++ (if fr k = true then [frt x] else [])))
/-- The text of an act. -/
def aTx (k a b c : Int) (x : Option Nat) : List UInt8 := match x with
  | none => []
  | some x => if actOk k a b c (some x) then (if fr k = true ∧ frOk x = false then [] else Lib.join (aW k a b c x) [32]) else []
theorem aTx_no {k a b c : Int} {x : Option Nat} (h : ¬ actOk k a b c x) : aTx k a b c x = [] := by
  cases x with
  | none => rfl
  | some x => show (if _ then _ else _) = _; rw [if_neg h]
theorem aTx_bad {k a b c : Int} {x : Nat} (h : actOk k a b c (some x)) (h1 : fr k = true) (h2 : frOk x = false) : aTx k a b c (some x) = [] := by
  show (if _ then _ else _) = _; rw [if_pos h, if_pos ⟨h1, h2⟩]
theorem aTx_ok {k a b c : Int} {x : Nat} (h : actOk k a b c (some x)) (h1 : ¬ (fr k = true ∧ frOk x = false)) : aTx k a b c (some x) = Lib.join (aW k a b c x) [32] := by
  show (if _ then _ else _) = _; rw [if_pos h, if_neg h1]
theorem frt_len {x : Nat} (hb : x < 2 ^ 32) (hf : fin (some x) = true) (hz : x ≠ 2147483648) : (frt x).length ≤ 41 := by
  rcases fr_data hb hf hz with ⟨-, e, -⟩ | ⟨s, m, u, -, -, e, -⟩
  · rw [e]; decide
  · rw [e]
    unfold told
    cases h : frK m u with
    | none => exact Nat.zero_le _
    | some k =>
      have hk := List.find?_some h
      have hm := List.mem_of_find?_eq_some h
      have hk11 : k < 11 := by simpa using hm
      have hb2 : ¬ bigV (m * 2 ^ (u + k)) := (of_decide_eq_true hk).2
      have hN := (small_log hb2).2.2
      have l1 := itoa_len (a := ((m * 2 ^ (u + k) / 2 ^ 201 : Nat) : Int)) (by omega)
      have l2 := itoa_len (a := (2 : Int) ^ k) (by have := two_le k (by omega); omega)
      have l3 : (if s then [45] else ([] : List UInt8)).length ≤ 1 := by cases s <;> decide
      unfold ftx
      simp only
      split <;> simp only [List.length_append, List.length_cons, List.length_nil] <;> omega
/-- What is told in so many rounds. -/
def wi (n : Nat) (w : List UInt8) (a b c : Int) (i : Nat) : List (List UInt8) := w :: ([itoa a, itoa b, itoa c].take (min i n))
theorem cJoin (xs : List (List UInt8)) (sep : List UInt8) (h0 : xs ≠ []) (hx : xs.length ≤ 1048576) (hl : (Lib.join xs sep).length ≤ 1099511627776) : PureC X 36 [.c (.sl false xs.length 1 (flat st xs)), cS sep] (cS (Lib.join xs sep)) :=
  PureC.of_calls (fun _ _ => Go.Proofs.Tryd.call36 _ _) fun w F μ arr hS hr => by
    obtain ⟨x, y, rfl, h1, h2⟩ := two_args hr
    obtain rfl := rv_v h2
    have hfl : (flat st xs).length = xs.length * 1 := flat_length st_len xs
    rcases h1.slI with ⟨-, hn, -⟩ | ⟨a, cap, rfl, hn, hm, hl2, hF, hc⟩
    · exact absurd (List.length_eq_zero_iff.1 hn) h0
    · have hne : flat st xs ≠ [] := fun e => by
        rw [e] at hfl
        have := List.length_pos_iff.2 h0
        simp only [List.length_nil] at hfl
        omega
      obtain ⟨hsp, -⟩ := hF hne
      have hcell : ∀ (j : Nat) (x : ByteArray), (xs.map tx)[j]? = some x → w.cell? ⟨a.block, a.off + j, none⟩ = some (.string x) := fun j x hj => by
        rw [List.getElem?_map, Option.map_eq_some_iff] at hj
        obtain ⟨p, hp, rfl⟩ := hj
        have hat : (flat st xs)[j]? = some (.v (.string (tx p))) := by
          have h5 : ∀ (ys : List (List UInt8)) (j : Nat), (flat st ys)[j]? = ys[j]?.map fun p => C.v (.string (tx p)) := by
            intro ys
            induction ys with
            | nil => intro j; rfl
            | cons y r ih =>
              intro j
              cases j with
              | zero => rfl
              | succ j => exact ih j
          rw [h5, hp]; rfl
        obtain ⟨v, hv, hR⟩ := hc j _ hat
        have : v = .string (tx p) := by cases hR; rfl
        rw [← this]
        exact hv
      obtain ⟨bk, o, sp⟩ := a
      simp only at hsp
      subst hsp
      have hbk : bk < w.heap.size := by
        cases xs with
        | nil => exact absurd rfl h0
        | cons p r => exact Lib.lt_of_cell (hcell 0 (tx p) rfl)
      have e : (xs.map tx).map (·.data.toList) = xs := by
        rw [List.map_map]
        have : (fun x : ByteArray => x.data.toList) ∘ tx = id := by
          funext l; simp
        rw [this, List.map_id]
      have hj := Go.Proofs.Tryd.strings_Join bk o cap (xs.map tx) (tx sep) w hcell hbk (by rw [List.length_map]; omega) (by rw [List.length_map]; exact hn) (by rw [e]; show (Lib.join xs sep).length ≤ _; omega)
      rw [e, List.length_map] at hj
      exact hj.mono fun e w' ⟨he, hb⟩ => ⟨_, he, hb, .c (.fz (.v (by simp [plain])))⟩

theorem cFr1 {x : Nat} (hb : x < 2 ^ 32) (hf : fin (some x) = true) (hz : x ≠ 2147483648) (h : frOk x = true) : PureC X 35 [.c (.f .f32 (some x))] (.tup [cS (frt x), cB true]) := by
  have := cFr hb hf hz
  rwa [h] at this
theorem cFr2 {x : Nat} (hb : x < 2 ^ 32) (hf : fin (some x) = true) (hz : x ≠ 2147483648) (h : ¬ frOk x = true) : PureC X 35 [.c (.f .f32 (some x))] (.tup [cS (frt x), cB false]) := by
  have := cFr hb hf hz
  rwa [Bool.eq_false_iff.2 h] at this

theorem cActT1 (a b c : Int) (x : Nat) (hb : x < 2 ^ 32) (hok : actOk 1 a b c (some x)) : PureC X 13 [.agg (act 1 a b c (some x))] (cS (aTx 1 a b c (some x))) := by
  refine PureC.of_body (drawD_ok X) (fun _ _ => Go.Proofs.Tryd.call13 _ _) Go.Proofs.Tryd.func13 rfl (n := 64) rfl ?_
  obtain ⟨-, ha, hbb, hcc, hf, hz0, -⟩ := id hok
  have hz : x ≠ 2147483648 := fun e => hz0 (by rw [e])
  have la := itoa_len (a := a) (by omega)
  have lb := itoa_len (a := b) (by omega)
  have lc := itoa_len (a := c) (by omega)
  have lf := frt_len hb hf hz
  have lw : (wordA[1]).length ≤ 5 := by decide
  refine w_seq ?_
  refine w_reg rfl ?_
  refine v_box (m := 0) (H' := [_]) lay36 rfl rfl rfl ?_
  refine v_assign (c := .v _) rfl ?_
  refine v_nil ?_
  refine q_n ?_
  refine w_seq ?_
  refine w_seq ?_
  refine w_reg rfl ?_
  refine v_callb (cActS _ _ _ _ _) rfl rfl (.cons (vw_pt rfl (.cons .v (.cons .v (.cons .v (.cons .v (.cons .f .nil)))))) .nil) (fun h1 => ?_) (fun h1 => ?_)
  rotate_left
  · exact absurd hok h1
  refine v_not false rfl rfl ?_
  refine v_nil ?_
  refine q_n ?_
  refine w_f rfl ?_
  refine w_skip ?_
  refine q_n ?_
  refine w_seq ?_
  refine w_reg rfl ?_
  refine v_call (cWdA) rfl rfl rfl .nil ?_
  refine v_move_t rfl ?_
  refine v_extract_c rfl rfl ?_
  refine v_extract_c rfl rfl ?_
  refine v_extract_c rfl rfl ?_
  refine v_assign rfl ?_
  refine v_assign rfl ?_
  refine v_assign rfl ?_
  refine v_nil ?_
  refine q_n ?_
  refine w_seq ?_
  refine w_draw [0, 0, 2, 7, 15, 31, 0, 64, 192, 511, 1023] [⟨0, 0, []⟩, ⟨1, 0, []⟩, ⟨2, 0, []⟩, ⟨3, 0, []⟩, ⟨4, 0, []⟩, ⟨5, 0, []⟩, ⟨6, 0, []⟩, ⟨7, 0, []⟩, ⟨8, 0, []⟩, ⟨9, 0, []⟩, ⟨10, 0, []⟩] rfl rfl ?_
  refine d_q rfl rfl rfl rfl rfl ?_
  refine v_move rfl ?_
  refine v_nil ?_
  refine d_q rfl rfl rfl rfl rfl ?_
  refine v_fa_pt (off' := 0) lay36 rfl rfl rfl ?_
  refine v_nil ?_
  refine d_q rfl rfl rfl rfl rfl ?_
  refine v_load_pt (.c _) lay2 rfl rfl rfl rfl ?_
  refine v_nil ?_
  refine d_q rfl rfl rfl rfl rfl ?_
  refine v_idx_e (k := 1) (1) st_len lay45 lay9 rfl rfl rfl (rfl) rfl (rfl) (by decide) ?_
  refine v_nil ?_
  refine d_q rfl rfl rfl rfl rfl ?_
  refine v_load_vw (.c (.v _)) lay9 rfl rfl rfl ?_
  refine v_nil ?_
  refine d_q rfl rfl rfl rfl rfl ?_
  refine v_sadd lay9 rfl rfl (by unfold maxLen; simp only [List.length_cons, List.length_nil]; omega) ?_
  refine v_nil ?_
  refine d_q rfl rfl rfl rfl rfl ?_
  refine v_fa_pt (off' := 1) lay36 rfl rfl rfl ?_
  refine v_nil ?_
  refine d_q rfl rfl rfl rfl rfl ?_
  refine v_load_pt (.c _) lay2 rfl rfl rfl rfl ?_
  refine v_nil ?_
  refine d_call (cDecI _ (by omega)) rfl rfl rfl rfl rfl (.cons vw_v .nil) ?_
  refine d_q rfl rfl rfl rfl rfl ?_
  refine v_sadd lay9 rfl rfl (by unfold maxLen; simp only [List.length_append, List.length_cons, List.length_nil]; omega) ?_
  refine v_nil ?_
  refine d_q rfl rfl rfl rfl rfl ?_
  refine v_assign rfl ?_
  refine v_nil ?_
  refine d_nil ?_
  refine q_n ?_
  refine w_seq ?_
  refine w_seq ?_
  refine w_reg rfl ?_
  refine v_move rfl ?_
  refine v_fa_pt (off' := 0) lay36 rfl rfl rfl ?_
  refine v_load_pt (.c _) lay2 rfl rfl rfl rfl ?_
  refine v_idx_e (k := 1) (1) int_len lay46 lay3 rfl rfl rfl (rfl) rfl (rfl) (by decide) ?_
  refine v_load_vw (.c (.v _)) lay3 rfl rfl rfl ?_
  refine v_gtr lay3 rfl rfl (fun h4 => ?_) (fun h4 => ?_)
  · exact absurd h4 (by decide)
  refine v_nil ?_
  refine q_n ?_
  refine w_f rfl ?_
  refine w_skip ?_
  refine q_n ?_
  refine w_seq ?_
  refine w_seq ?_
  refine w_reg rfl ?_
  refine v_move rfl ?_
  refine v_fa_pt (off' := 0) lay36 rfl rfl rfl ?_
  refine v_load_pt (.c _) lay2 rfl rfl rfl rfl ?_
  refine v_idx_e (k := 1) (1) int_len lay46 lay3 rfl rfl rfl (rfl) rfl (rfl) (by decide) ?_
  refine v_load_vw (.c (.v _)) lay3 rfl rfl rfl ?_
  refine v_gtr lay3 rfl rfl (fun h6 => ?_) (fun h6 => ?_)
  · exact absurd h6 (by decide)
  refine v_nil ?_
  refine q_n ?_
  refine w_f rfl ?_
  refine w_skip ?_
  refine q_n ?_
  refine w_seq ?_
  refine w_seq ?_
  refine w_reg rfl ?_
  refine v_move rfl ?_
  refine v_fa_pt (off' := 0) lay36 rfl rfl rfl ?_
  refine v_load_pt (.c _) lay2 rfl rfl rfl rfl ?_
  refine v_idx_e (k := 1) (1) bo_len lay58 lay4 rfl rfl rfl (rfl) rfl (rfl) (by decide) ?_
  refine v_load_vwb lay4 rfl rfl rfl (fun h8 => ?_) (fun h8 => ?_)
  rotate_left
  · exact absurd h8 (by decide)
  refine v_nil ?_
  refine q_n ?_
  refine w_t rfl ?_
  refine w_seq ?_
  refine w_reg rfl ?_
  refine v_fa_pt (off' := 4) lay36 rfl rfl rfl ?_
  refine v_load_pt (.c _) lay32 rfl rfl rfl rfl ?_
  refine v_call (cTld hb hf hz) rfl rfl rfl (.cons vw_f .nil) ?_
  refine v_assign rfl ?_
  refine v_nil ?_
  refine q_n ?_
  refine w_seq ?_
  refine w_seq ?_
  refine w_reg rfl ?_
  refine v_move rfl ?_
  refine v_seql lay9 rfl rfl (fun h9 => ?_) (fun h9 => ?_)
  · have hfe := h9
    refine v_nil ?_
    refine q_n ?_
    refine w_t rfl ?_
    refine w_seq ?_
    refine w_reg rfl ?_
    refine v_assign (c := .v _) rfl ?_
    refine v_nil ?_
    refine q_n ?_
    refine w_ret (q_r (q_r ?_))
    refine r_r rfl ?_
    rw [aTx_bad hok (by decide) (frt_nil.1 hfe)]
    exact tr_v
  have hfe := h9
  refine v_nil ?_
  refine q_n ?_
  refine w_f rfl ?_
  refine w_skip ?_
  refine q_n ?_
  refine w_reg rfl ?_
  refine v_move rfl ?_
  refine v_move rfl ?_
  refine v_sadd lay9 rfl rfl (by unfold maxLen; simp only [List.length_cons, List.length_nil]; omega) ?_
  refine v_sadd lay9 rfl rfl (by unfold maxLen; simp only [List.length_append, List.length_cons, List.length_nil]; omega) ?_
  refine v_assign rfl ?_
  refine v_nil ?_
  refine q_n ?_
  refine w_seq ?_
  refine w_reg rfl ?_
  refine v_move rfl ?_
  refine v_assign rfl ?_
  refine v_nil ?_
  refine q_n ?_
  refine w_ret ?_
  refine r_r rfl ?_
  rw [aTx_ok hok (fun q => hfe (frt_nil.2 q.2))]
  exact a_s (join_3 _ _ _ _).symm

theorem cActU1 (a b c : Int) (x : Nat) (hb : x < 2 ^ 32) (hok : actOk 1 a b c (some x)) : PureC X 15 [.agg (act 1 a b c (some x))] (cS (aTx 1 a b c (some x))) := by
  refine PureC.of_body (drawD_ok X) (fun _ _ => Go.Proofs.Tryd.call15 _ _) Go.Proofs.Tryd.func15 rfl (n := 57) rfl ?_
  obtain ⟨-, ha, hbb, hcc, hf, hz0, -⟩ := id hok
  have hz : x ≠ 2147483648 := fun e => hz0 (by rw [e])
  have la := itoa_len (a := a) (by omega)
  have lb := itoa_len (a := b) (by omega)
  have lc := itoa_len (a := c) (by omega)
  have lf := frt_len hb hf hz
  have lw : (wordA[1]).length ≤ 5 := by decide
  have hW : aW 1 a b c x = [wordA[1], itoa a, frt x] := rfl
  have hj0 : aW 1 a b c x ≠ [] := by rw [hW]; exact fun e => by cases e
  have hj1 : (aW 1 a b c x).length ≤ 1048576 := by rw [hW]; exact Nat.le_of_ble_eq_true rfl
  have hj2 : (Lib.join (aW 1 a b c x) [32]).length ≤ 1099511627776 := by
    rw [hW, join_3]
    simp only [List.length_append, List.length_cons, List.length_nil]
    omega
  have hs : Sg (some x) := ⟨fun b e => by
    obtain rfl := Option.some.inj e
    obtain ⟨s, m, e, hr⟩ := num_of_fin hf
    unfold isNaN
    rw [show FloatKind.f32.decode x = _ from hr]; rfl, fun b e => by
    obtain rfl := Option.some.inj e
    exact hb⟩
  refine w_seq ?_
  refine w_reg rfl ?_
  refine v_box (m := 0) (H' := [_]) lay36 rfl rfl rfl ?_
  refine v_assign (c := .v _) rfl ?_
  refine v_nil ?_
  refine q_n ?_
  refine w_seq ?_
  refine w_seq ?_
  refine w_reg rfl ?_
  refine v_load_pt (.agg [_, _, _, _, _]) lay36 rfl rfl rfl rfl ?_
  refine v_callb (cActI _ _ _ _ _ (by assumption)) rfl rfl (.cons (vw_agg (.cons vw_v (.cons vw_v (.cons vw_v (.cons vw_v (.cons vw_f .nil)))))) .nil) (fun h1 => ?_) (fun h1 => ?_)
  rotate_left
  · exact absurd hok h1
  refine v_not false rfl rfl ?_
  refine v_nil ?_
  refine q_n ?_
  refine w_f rfl ?_
  refine w_skip ?_
  refine q_n ?_
  refine w_seq ?_
  refine w_reg rfl ?_
  refine v_fa_pt (off' := 0) lay36 rfl rfl rfl ?_
  refine v_load_pt (.c _) lay2 rfl rfl rfl rfl ?_
  refine v_sub lay2 rfl rfl (i64r (by omega)) ?_
  refine v_idx_av (k := 3) lay65 lay64 rfl rfl rfl (by decide) (fun qZ hqZ eZ => ?_)
  obtain rfl : qZ = 0 := by omega
  refine v_load_av (q := 0) formL (.agg [.v _, .v _, .v _]) fenc_len lay64 rfl rfl rfl (by decide) rfl ?_
  refine v_alloc (m := 1) (H' := [_, ⟨[.v _, .v _, .v _], 64, true⟩]) lay64 rfl rfl ?_
  refine v_store (H' := [_, ⟨[_, _, _], 64, true⟩]) lay64 rfl rfl rfl rfl rfl rfl ?_
  refine v_nil ?_
  refine q_n ?_
  refine w_seq ?_
  refine w_reg rfl ?_
  refine v_fa_pt (off' := 0) lay64 rfl rfl rfl ?_
  refine v_load_pt (.c _) lay9 rfl rfl rfl rfl ?_
  refine v_lit (flat st [_]) (H' := [_, _, _]) lay45 lay9 rfl rfl ⟨by decide, by decide⟩ rfl rfl ?_
  refine v_assign rfl ?_
  refine v_nil ?_
  refine q_n ?_
  refine w_seq ?_
  refine w_seq ?_
  refine w_reg rfl ?_
  refine v_fa_pt (off' := 1) lay36 rfl rfl rfl ?_
  refine v_load_pt (.c _) lay2 rfl rfl rfl rfl ?_
  refine v_fa_pt (off' := 2) lay36 rfl rfl rfl ?_
  refine v_load_pt (.c _) lay2 rfl rfl rfl rfl ?_
  refine v_fa_pt (off' := 3) lay36 rfl rfl rfl ?_
  refine v_load_pt (.c _) lay2 rfl rfl rfl rfl ?_
  refine v_build_a [.v _, .v _, .v _] lay66 lay2 rfl ?_
  refine v_move (c := .v (.int .i64 0)) rfl ?_
  refine v_nil ?_
  refine q_n ?_
  refine w_block ?_
  refine w_loop (fun k sl H => ∃ i : Nat, k = 3 - i ∧ i ≤ 3 ∧ sl = sls [(1, .c (.pt 0 0)), (3, .c (.pt 1 0)), (4, .c (.mu 2 0 (wi 1 formL[0].1 a b c i).length 1)), (26, .agg [.v (.int .i64 a), .v (.int .i64 b), .v (.int .i64 c)]), (27, cI i)] ∧ H = [⟨act 1 a b c (some x), 36, true⟩, ⟨fenc formL[0], 64, true⟩, ⟨flat st (wi 1 formL[0].1 a b c i), 9, true⟩]) ?_ ?_
  · refine ⟨_, _, _, ?_, 0, rfl, by omega, rfl, rfl⟩
    exact turn [some 0, some 1, some 2] rfl rfl rfl ⟨⟨_, rfl, trc_act⟩, ⟨_, rfl, trc_form⟩, ⟨_, rfl, trc_flat st_sc rfl⟩, trivial⟩ ⟨tr_pt rfl, tr_pt rfl, tr_mun rfl rfl, tr_agg (.cons tr_v (.cons tr_v (.cons tr_v .nil))), tr_v, trivial⟩
  rintro k sl H ⟨i, rfl, hi, rfl, rfl⟩
  rcases (by omega : i = 0 ∨ i = 1 ∨ i = 2 ∨ i = 3) with rfl | rfl | rfl | rfl
  · skip
    refine w_seq ?_
    refine w_reg rfl ?_
    refine v_lss lay3 rfl rfl (fun h3 => ?_) (fun h3 => ?_)
    rotate_left
    · exact absurd (by decide) h3
    refine v_nil ?_
    refine q_n ?_
    refine w_seq ?_
    refine w_t rfl ?_
    refine w_skip ?_
    refine q_n ?_
    refine w_seq ?_
    refine w_block ?_
    refine w_seq ?_
    refine w_reg rfl ?_
    refine v_move rfl ?_
    refine v_index (.c _) lay66 lay2 rfl rfl ⟨by decide, by decide, Nat.le_of_ble_eq_true rfl⟩ rfl ?_
    refine v_assign rfl ?_
    refine v_assign rfl ?_
    refine v_nil ?_
    refine q_n ?_
    refine w_seq ?_
    refine w_reg rfl ?_
    refine v_move rfl ?_
    refine v_fa_pt (off' := 1) lay64 rfl rfl rfl ?_
    refine v_load_pt (.c _) lay3 rfl rfl rfl rfl ?_
    refine v_lss lay3 rfl rfl (fun h4 => ?_) (fun h4 => ?_)
    rotate_left
    · exact absurd (show (0 : Int) < 1 by decide) h4
    refine v_nil ?_
    refine q_n ?_
    refine w_t rfl ?_
    refine w_reg rfl ?_
    refine v_move rfl ?_
    refine v_move rfl ?_
    refine v_call (cDeci _ (by omega)) rfl rfl rfl (.cons vw_v .nil) ?_
    refine v_lit (flat st [_]) (H' := [_, _, _, _]) lay45 lay9 rfl rfl ⟨by decide, by decide⟩ rfl rfl ?_
    refine v_app_flat (H' := [_, _, _, _, _]) st_sc st_len lay45 lay9 rfl rfl (by first | rfl | (simp; done)) rfl rfl (by first | rfl | (simp; done)) rfl rfl (⟨Nat.le_of_ble_eq_true rfl, Nat.le_of_ble_eq_true rfl⟩) rfl rfl ?_
    refine v_assign rfl ?_
    refine v_nil ?_
    refine q_bn ?_
    refine q_n ?_
    refine w_reg rfl ?_
    refine v_add lay3 rfl rfl (i64r (by omega)) ?_
    refine v_move rfl ?_
    refine v_nil ?_
    refine q_n ?_
    refine ⟨_, _, _, ?_, ⟨1, rfl, by omega, rfl, rfl⟩, by omega⟩
    exact turn [some 0, some 1, some 4] rfl rfl rfl ⟨⟨_, rfl, trc_act⟩, ⟨_, rfl, trc_form⟩, ⟨_, rfl, trc_flat st_sc rfl⟩, trivial⟩ ⟨tr_pt rfl, tr_pt rfl, tr_mun rfl rfl, tr_agg (.cons tr_v (.cons tr_v (.cons tr_v .nil))), tr_v, trivial⟩
  · skip
    refine w_seq ?_
    refine w_reg rfl ?_
    refine v_lss lay3 rfl rfl (fun h5 => ?_) (fun h5 => ?_)
    rotate_left
    · exact absurd (by decide) h5
    refine v_nil ?_
    refine q_n ?_
    refine w_seq ?_
    refine w_t rfl ?_
    refine w_skip ?_
    refine q_n ?_
    refine w_seq ?_
    refine w_block ?_
    refine w_seq ?_
    refine w_reg rfl ?_
    refine v_move rfl ?_
    refine v_index (.c _) lay66 lay2 rfl rfl ⟨by decide, by decide, Nat.le_of_ble_eq_true rfl⟩ rfl ?_
    refine v_assign rfl ?_
    refine v_assign rfl ?_
    refine v_nil ?_
    refine q_n ?_
    refine w_seq ?_
    refine w_reg rfl ?_
    refine v_move rfl ?_
    refine v_fa_pt (off' := 1) lay64 rfl rfl rfl ?_
    refine v_load_pt (.c _) lay3 rfl rfl rfl rfl ?_
    refine v_lss lay3 rfl rfl (fun h6 => ?_) (fun h6 => ?_)
    · exact absurd h6 (show ¬ ((1 : Int) < 1) by decide)
    refine v_nil ?_
    refine q_n ?_
    refine w_f rfl ?_
    refine w_skip ?_
    refine q_bn ?_
    refine q_n ?_
    refine w_reg rfl ?_
    refine v_add lay3 rfl rfl (i64r (by omega)) ?_
    refine v_move rfl ?_
    refine v_nil ?_
    refine q_n ?_
    refine ⟨_, _, _, ?_, ⟨2, rfl, by omega, rfl, rfl⟩, by omega⟩
    exact turn [some 0, some 1, some 2] rfl rfl rfl ⟨⟨_, rfl, trc_act⟩, ⟨_, rfl, trc_form⟩, ⟨_, rfl, trc_flat st_sc rfl⟩, trivial⟩ ⟨tr_pt rfl, tr_pt rfl, tr_mun rfl rfl, tr_agg (.cons tr_v (.cons tr_v (.cons tr_v .nil))), tr_v, trivial⟩
  · skip
    refine w_seq ?_
    refine w_reg rfl ?_
    refine v_lss lay3 rfl rfl (fun h7 => ?_) (fun h7 => ?_)
    rotate_left
    · exact absurd (by decide) h7
    refine v_nil ?_
    refine q_n ?_
    refine w_seq ?_
    refine w_t rfl ?_
    refine w_skip ?_
    refine q_n ?_
    refine w_seq ?_
    refine w_block ?_
    refine w_seq ?_
    refine w_reg rfl ?_
    refine v_move rfl ?_
    refine v_index (.c _) lay66 lay2 rfl rfl ⟨by decide, by decide, Nat.le_of_ble_eq_true rfl⟩ rfl ?_
    refine v_assign rfl ?_
    refine v_assign rfl ?_
    refine v_nil ?_
    refine q_n ?_
    refine w_seq ?_
    refine w_reg rfl ?_
    refine v_move rfl ?_
    refine v_fa_pt (off' := 1) lay64 rfl rfl rfl ?_
    refine v_load_pt (.c _) lay3 rfl rfl rfl rfl ?_
    refine v_lss lay3 rfl rfl (fun h8 => ?_) (fun h8 => ?_)
    · exact absurd h8 (show ¬ ((2 : Int) < 1) by decide)
    refine v_nil ?_
    refine q_n ?_
    refine w_f rfl ?_
    refine w_skip ?_
    refine q_bn ?_
    refine q_n ?_
    refine w_reg rfl ?_
    refine v_add lay3 rfl rfl (i64r (by omega)) ?_
    refine v_move rfl ?_
    refine v_nil ?_
    refine q_n ?_
    refine ⟨_, _, _, ?_, ⟨3, rfl, by omega, rfl, rfl⟩, by omega⟩
    exact turn [some 0, some 1, some 2] rfl rfl rfl ⟨⟨_, rfl, trc_act⟩, ⟨_, rfl, trc_form⟩, ⟨_, rfl, trc_flat st_sc rfl⟩, trivial⟩ ⟨tr_pt rfl, tr_pt rfl, tr_mun rfl rfl, tr_agg (.cons tr_v (.cons tr_v (.cons tr_v .nil))), tr_v, trivial⟩
  · skip
    refine w_seq ?_
    refine w_reg rfl ?_
    refine v_lss lay3 rfl rfl (fun h9 => ?_) (fun h9 => ?_)
    · exact absurd h9 (by decide)
    refine v_nil ?_
    refine q_n ?_
    refine w_seq ?_
    refine w_f rfl ?_
    refine w_exit ?_
    refine q_e ?_
    refine q_e ?_
    refine q_hit ?_
    refine q_n ?_
    refine w_seq ?_
    refine w_seq ?_
    refine w_reg rfl ?_
    refine v_fa_pt (off' := 2) lay64 rfl rfl rfl ?_
    refine v_load_ptb lay4 rfl rfl rfl rfl (fun h10 => ?_) (fun h10 => ?_)
    rotate_left
    · exact absurd (show true = false from h10) (by decide)
    refine v_nil ?_
    refine q_n ?_
    refine w_t rfl ?_
    refine w_seq ?_
    refine w_reg rfl ?_
    refine v_fa_pt (off' := 4) lay36 rfl rfl rfl ?_
    refine v_load_pt (.c _) lay32 rfl rfl rfl rfl ?_
    refine dec_split (p := frOk x = true) (fun h11 => ?_) (fun h11 => ?_)
    rotate_left
    · refine v_call (cFr2 hb hf hz h11) rfl rfl rfl (.cons vw_f .nil) ?_
      refine v_move_t rfl ?_
      refine v_extract_c rfl rfl ?_
      refine v_extract_c rfl rfl ?_
      refine v_assign rfl ?_
      refine v_assign rfl ?_
      refine v_nil ?_
      refine q_n ?_
      refine w_seq ?_
      refine w_seq ?_
      refine w_reg rfl ?_
      refine v_move rfl ?_
      refine v_not true rfl rfl ?_
      refine v_nil ?_
      refine q_n ?_
      refine w_t rfl ?_
      refine w_seq ?_
      refine w_reg rfl ?_
      refine v_assign (c := .v _) rfl ?_
      refine v_nil ?_
      refine q_n ?_
      refine w_ret (q_r (q_r ?_))
      refine r_r rfl ?_
      rw [aTx_bad hok (by decide) (Bool.eq_false_iff.2 (by assumption))]
      exact tr_v
    refine v_call (cFr1 hb hf hz h11) rfl rfl rfl (.cons vw_f .nil) ?_
    refine v_move_t rfl ?_
    refine v_extract_c rfl rfl ?_
    refine v_extract_c rfl rfl ?_
    refine v_assign rfl ?_
    refine v_assign rfl ?_
    refine v_nil ?_
    refine q_n ?_
    refine w_seq ?_
    refine w_seq ?_
    refine w_reg rfl ?_
    refine v_move rfl ?_
    refine v_not false rfl rfl ?_
    refine v_nil ?_
    refine q_n ?_
    refine w_f rfl ?_
    refine w_skip ?_
    refine q_n ?_
    refine w_reg rfl ?_
    refine v_move rfl ?_
    refine v_move rfl ?_
    refine v_lit (flat st [_]) (H' := [_, _, _, _]) lay45 lay9 rfl rfl ⟨by decide, by decide⟩ rfl rfl ?_
    refine v_app_flat (H' := [_, _, _, _, _]) st_sc st_len lay45 lay9 rfl rfl (by first | rfl | (simp; done)) rfl rfl (by first | rfl | (simp; done)) rfl rfl (⟨Nat.le_of_ble_eq_true rfl, Nat.le_of_ble_eq_true rfl⟩) rfl rfl ?_
    refine v_assign rfl ?_
    refine v_nil ?_
    refine q_n ?_
    refine w_seq ?_
    refine w_reg rfl ?_
    refine v_move rfl ?_
    refine v_call (cJoin (aW 1 a b c x) [32] hj0 hj1 hj2) rfl rfl rfl (.cons (vw_mu2 st_sc st_len rfl (rfl)) (.cons vw_v .nil)) ?_
    refine v_assign rfl ?_
    refine v_nil ?_
    refine q_n ?_
    refine w_ret ?_
    refine r_r rfl ?_
    rw [aTx_ok hok (fun q => absurd (q.2.symm.trans (by assumption : frOk x = true)) (by decide))]
    exact tr_v

theorem cActT2 (a b c : Int) (x : Nat) (hb : x < 2 ^ 32) (hok : actOk 2 a b c (some x)) : PureC X 13 [.agg (act 2 a b c (some x))] (cS (aTx 2 a b c (some x))) := by
  refine PureC.of_body (drawD_ok X) (fun _ _ => Go.Proofs.Tryd.call13 _ _) Go.Proofs.Tryd.func13 rfl (n := 64) rfl ?_
  obtain ⟨-, ha, hbb, hcc, hf, hz0, -⟩ := id hok
  have hz : x ≠ 2147483648 := fun e => hz0 (by rw [e])
  have la := itoa_len (a := a) (by omega)
  have lb := itoa_len (a := b) (by omega)
  have lc := itoa_len (a := c) (by omega)
  have lf := frt_len hb hf hz
  have lw : (wordA[2]).length ≤ 5 := by decide
  refine w_seq ?_
  refine w_reg rfl ?_
  refine v_box (m := 0) (H' := [_]) lay36 rfl rfl rfl ?_
  refine v_assign (c := .v _) rfl ?_
  refine v_nil ?_
  refine q_n ?_
  refine w_seq ?_
  refine w_seq ?_
  refine w_reg rfl ?_
  refine v_callb (cActS _ _ _ _ _) rfl rfl (.cons (vw_pt rfl (.cons .v (.cons .v (.cons .v (.cons .v (.cons .f .nil)))))) .nil) (fun h1 => ?_) (fun h1 => ?_)
  rotate_left
  · exact absurd hok h1
  refine v_not false rfl rfl ?_
  refine v_nil ?_
  refine q_n ?_
  refine w_f rfl ?_
  refine w_skip ?_
  refine q_n ?_
  refine w_seq ?_
  refine w_reg rfl ?_
  refine v_call (cWdA) rfl rfl rfl .nil ?_
  refine v_move_t rfl ?_
  refine v_extract_c rfl rfl ?_
  refine v_extract_c rfl rfl ?_
  refine v_extract_c rfl rfl ?_
  refine v_assign rfl ?_
  refine v_assign rfl ?_
  refine v_assign rfl ?_
  refine v_nil ?_
  refine q_n ?_
  refine w_seq ?_
  refine w_draw [0, 0, 2, 7, 15, 31, 0, 64, 192, 511, 1023] [⟨0, 0, []⟩, ⟨1, 0, []⟩, ⟨2, 0, []⟩, ⟨3, 0, []⟩, ⟨4, 0, []⟩, ⟨5, 0, []⟩, ⟨6, 0, []⟩, ⟨7, 0, []⟩, ⟨8, 0, []⟩, ⟨9, 0, []⟩, ⟨10, 0, []⟩] rfl rfl ?_
  refine d_q rfl rfl rfl rfl rfl ?_
  refine v_move rfl ?_
  refine v_nil ?_
  refine d_q rfl rfl rfl rfl rfl ?_
  refine v_fa_pt (off' := 0) lay36 rfl rfl rfl ?_
  refine v_nil ?_
  refine d_q rfl rfl rfl rfl rfl ?_
  refine v_load_pt (.c _) lay2 rfl rfl rfl rfl ?_
  refine v_nil ?_
  refine d_q rfl rfl rfl rfl rfl ?_
  refine v_idx_e (k := 1) (2) st_len lay45 lay9 rfl rfl rfl (rfl) rfl (rfl) (by decide) ?_
  refine v_nil ?_
  refine d_q rfl rfl rfl rfl rfl ?_
  refine v_load_vw (.c (.v _)) lay9 rfl rfl rfl ?_
  refine v_nil ?_
  refine d_q rfl rfl rfl rfl rfl ?_
  refine v_sadd lay9 rfl rfl (by unfold maxLen; simp only [List.length_cons, List.length_nil]; omega) ?_
  refine v_nil ?_
  refine d_q rfl rfl rfl rfl rfl ?_
  refine v_fa_pt (off' := 1) lay36 rfl rfl rfl ?_
  refine v_nil ?_
  refine d_q rfl rfl rfl rfl rfl ?_
  refine v_load_pt (.c _) lay2 rfl rfl rfl rfl ?_
  refine v_nil ?_
  refine d_call (cDecI _ (by omega)) rfl rfl rfl rfl rfl (.cons vw_v .nil) ?_
  refine d_q rfl rfl rfl rfl rfl ?_
  refine v_sadd lay9 rfl rfl (by unfold maxLen; simp only [List.length_append, List.length_cons, List.length_nil]; omega) ?_
  refine v_nil ?_
  refine d_q rfl rfl rfl rfl rfl ?_
  refine v_assign rfl ?_
  refine v_nil ?_
  refine d_nil ?_
  refine q_n ?_
  refine w_seq ?_
  refine w_seq ?_
  refine w_reg rfl ?_
  refine v_move rfl ?_
  refine v_fa_pt (off' := 0) lay36 rfl rfl rfl ?_
  refine v_load_pt (.c _) lay2 rfl rfl rfl rfl ?_
  refine v_idx_e (k := 1) (2) int_len lay46 lay3 rfl rfl rfl (rfl) rfl (rfl) (by decide) ?_
  refine v_load_vw (.c (.v _)) lay3 rfl rfl rfl ?_
  refine v_gtr lay3 rfl rfl (fun h4 => ?_) (fun h4 => ?_)
  rotate_left
  · exact absurd h4 (by decide)
  refine v_nil ?_
  refine q_n ?_
  refine w_t rfl ?_
  refine w_reg rfl ?_
  refine v_move rfl ?_
  refine v_fa_pt (off' := 2) lay36 rfl rfl rfl ?_
  refine v_load_pt (.c _) lay2 rfl rfl rfl rfl ?_
  refine v_call (cDecI _ (by omega)) rfl rfl rfl (.cons vw_v .nil) ?_
  refine v_sadd lay9 rfl rfl (by unfold maxLen; simp only [List.length_cons, List.length_nil]; omega) ?_
  refine v_sadd lay9 rfl rfl (by unfold maxLen; simp only [List.length_append, List.length_cons, List.length_nil]; omega) ?_
  refine v_assign rfl ?_
  refine v_nil ?_
  refine q_n ?_
  refine w_seq ?_
  refine w_seq ?_
  refine w_reg rfl ?_
  refine v_move rfl ?_
  refine v_fa_pt (off' := 0) lay36 rfl rfl rfl ?_
  refine v_load_pt (.c _) lay2 rfl rfl rfl rfl ?_
  refine v_idx_e (k := 1) (2) int_len lay46 lay3 rfl rfl rfl (rfl) rfl (rfl) (by decide) ?_
  refine v_load_vw (.c (.v _)) lay3 rfl rfl rfl ?_
  refine v_gtr lay3 rfl rfl (fun h6 => ?_) (fun h6 => ?_)
  · exact absurd h6 (by decide)
  refine v_nil ?_
  refine q_n ?_
  refine w_f rfl ?_
  refine w_skip ?_
  refine q_n ?_
  refine w_seq ?_
  refine w_seq ?_
  refine w_reg rfl ?_
  refine v_move rfl ?_
  refine v_fa_pt (off' := 0) lay36 rfl rfl rfl ?_
  refine v_load_pt (.c _) lay2 rfl rfl rfl rfl ?_
  refine v_idx_e (k := 1) (2) bo_len lay58 lay4 rfl rfl rfl (rfl) rfl (rfl) (by decide) ?_
  refine v_load_vwb lay4 rfl rfl rfl (fun h8 => ?_) (fun h8 => ?_)
  rotate_left
  · exact absurd h8 (by decide)
  refine v_nil ?_
  refine q_n ?_
  refine w_t rfl ?_
  refine w_seq ?_
  refine w_reg rfl ?_
  refine v_fa_pt (off' := 4) lay36 rfl rfl rfl ?_
  refine v_load_pt (.c _) lay32 rfl rfl rfl rfl ?_
  refine v_call (cTld hb hf hz) rfl rfl rfl (.cons vw_f .nil) ?_
  refine v_assign rfl ?_
  refine v_nil ?_
  refine q_n ?_
  refine w_seq ?_
  refine w_seq ?_
  refine w_reg rfl ?_
  refine v_move rfl ?_
  refine v_seql lay9 rfl rfl (fun h9 => ?_) (fun h9 => ?_)
  · have hfe := h9
    refine v_nil ?_
    refine q_n ?_
    refine w_t rfl ?_
    refine w_seq ?_
    refine w_reg rfl ?_
    refine v_assign (c := .v _) rfl ?_
    refine v_nil ?_
    refine q_n ?_
    refine w_ret (q_r (q_r ?_))
    refine r_r rfl ?_
    rw [aTx_bad hok (by decide) (frt_nil.1 hfe)]
    exact tr_v
  have hfe := h9
  refine v_nil ?_
  refine q_n ?_
  refine w_f rfl ?_
  refine w_skip ?_
  refine q_n ?_
  refine w_reg rfl ?_
  refine v_move rfl ?_
  refine v_move rfl ?_
  refine v_sadd lay9 rfl rfl (by unfold maxLen; simp only [List.length_cons, List.length_nil]; omega) ?_
  refine v_sadd lay9 rfl rfl (by unfold maxLen; simp only [List.length_append, List.length_cons, List.length_nil]; omega) ?_
  refine v_assign rfl ?_
  refine v_nil ?_
  refine q_n ?_
  refine w_seq ?_
  refine w_reg rfl ?_
  refine v_move rfl ?_
  refine v_assign rfl ?_
  refine v_nil ?_
  refine q_n ?_
  refine w_ret ?_
  refine r_r rfl ?_
  rw [aTx_ok hok (fun q => hfe (frt_nil.2 q.2))]
  exact a_s (join_4 _ _ _ _ _).symm

theorem cActU2 (a b c : Int) (x : Nat) (hb : x < 2 ^ 32) (hok : actOk 2 a b c (some x)) : PureC X 15 [.agg (act 2 a b c (some x))] (cS (aTx 2 a b c (some x))) := by
  refine PureC.of_body (drawD_ok X) (fun _ _ => Go.Proofs.Tryd.call15 _ _) Go.Proofs.Tryd.func15 rfl (n := 57) rfl ?_
  obtain ⟨-, ha, hbb, hcc, hf, hz0, -⟩ := id hok
  have hz : x ≠ 2147483648 := fun e => hz0 (by rw [e])
  have la := itoa_len (a := a) (by omega)
  have lb := itoa_len (a := b) (by omega)
  have lc := itoa_len (a := c) (by omega)
  have lf := frt_len hb hf hz
  have lw : (wordA[2]).length ≤ 5 := by decide
  have hW : aW 2 a b c x = [wordA[2], itoa a, itoa b, frt x] := rfl
  have hj0 : aW 2 a b c x ≠ [] := by rw [hW]; exact fun e => by cases e
  have hj1 : (aW 2 a b c x).length ≤ 1048576 := by rw [hW]; exact Nat.le_of_ble_eq_true rfl
  have hj2 : (Lib.join (aW 2 a b c x) [32]).length ≤ 1099511627776 := by
    rw [hW, join_4]
    simp only [List.length_append, List.length_cons, List.length_nil]
    omega
  have hs : Sg (some x) := ⟨fun b e => by
    obtain rfl := Option.some.inj e
    obtain ⟨s, m, e, hr⟩ := num_of_fin hf
    unfold isNaN
    rw [show FloatKind.f32.decode x = _ from hr]; rfl, fun b e => by
    obtain rfl := Option.some.inj e
    exact hb⟩
  refine w_seq ?_
  refine w_reg rfl ?_
  refine v_box (m := 0) (H' := [_]) lay36 rfl rfl rfl ?_
  refine v_assign (c := .v _) rfl ?_
  refine v_nil ?_
  refine q_n ?_
  refine w_seq ?_
  refine w_seq ?_
  refine w_reg rfl ?_
  refine v_load_pt (.agg [_, _, _, _, _]) lay36 rfl rfl rfl rfl ?_
  refine v_callb (cActI _ _ _ _ _ (by assumption)) rfl rfl (.cons (vw_agg (.cons vw_v (.cons vw_v (.cons vw_v (.cons vw_v (.cons vw_f .nil)))))) .nil) (fun h1 => ?_) (fun h1 => ?_)
  rotate_left
  · exact absurd hok h1
  refine v_not false rfl rfl ?_
  refine v_nil ?_
  refine q_n ?_
  refine w_f rfl ?_
  refine w_skip ?_
  refine q_n ?_
  refine w_seq ?_
  refine w_reg rfl ?_
  refine v_fa_pt (off' := 0) lay36 rfl rfl rfl ?_
  refine v_load_pt (.c _) lay2 rfl rfl rfl rfl ?_
  refine v_sub lay2 rfl rfl (i64r (by omega)) ?_
  refine v_idx_av (k := 3) lay65 lay64 rfl rfl rfl (by decide) (fun qZ hqZ eZ => ?_)
  obtain rfl : qZ = 1 := by omega
  refine v_load_av (q := 1) formL (.agg [.v _, .v _, .v _]) fenc_len lay64 rfl rfl rfl (by decide) rfl ?_
  refine v_alloc (m := 1) (H' := [_, ⟨[.v _, .v _, .v _], 64, true⟩]) lay64 rfl rfl ?_
  refine v_store (H' := [_, ⟨[_, _, _], 64, true⟩]) lay64 rfl rfl rfl rfl rfl rfl ?_
  refine v_nil ?_
  refine q_n ?_
  refine w_seq ?_
  refine w_reg rfl ?_
  refine v_fa_pt (off' := 0) lay64 rfl rfl rfl ?_
  refine v_load_pt (.c _) lay9 rfl rfl rfl rfl ?_
  refine v_lit (flat st [_]) (H' := [_, _, _]) lay45 lay9 rfl rfl ⟨by decide, by decide⟩ rfl rfl ?_
  refine v_assign rfl ?_
  refine v_nil ?_
  refine q_n ?_
  refine w_seq ?_
  refine w_seq ?_
  refine w_reg rfl ?_
  refine v_fa_pt (off' := 1) lay36 rfl rfl rfl ?_
  refine v_load_pt (.c _) lay2 rfl rfl rfl rfl ?_
  refine v_fa_pt (off' := 2) lay36 rfl rfl rfl ?_
  refine v_load_pt (.c _) lay2 rfl rfl rfl rfl ?_
  refine v_fa_pt (off' := 3) lay36 rfl rfl rfl ?_
  refine v_load_pt (.c _) lay2 rfl rfl rfl rfl ?_
  refine v_build_a [.v _, .v _, .v _] lay66 lay2 rfl ?_
  refine v_move (c := .v (.int .i64 0)) rfl ?_
  refine v_nil ?_
  refine q_n ?_
  refine w_block ?_
  refine w_loop (fun k sl H => ∃ i : Nat, k = 3 - i ∧ i ≤ 3 ∧ sl = sls [(1, .c (.pt 0 0)), (3, .c (.pt 1 0)), (4, .c (.mu 2 0 (wi 2 formL[1].1 a b c i).length 1)), (26, .agg [.v (.int .i64 a), .v (.int .i64 b), .v (.int .i64 c)]), (27, cI i)] ∧ H = [⟨act 2 a b c (some x), 36, true⟩, ⟨fenc formL[1], 64, true⟩, ⟨flat st (wi 2 formL[1].1 a b c i), 9, true⟩]) ?_ ?_
  · refine ⟨_, _, _, ?_, 0, rfl, by omega, rfl, rfl⟩
    exact turn [some 0, some 1, some 2] rfl rfl rfl ⟨⟨_, rfl, trc_act⟩, ⟨_, rfl, trc_form⟩, ⟨_, rfl, trc_flat st_sc rfl⟩, trivial⟩ ⟨tr_pt rfl, tr_pt rfl, tr_mun rfl rfl, tr_agg (.cons tr_v (.cons tr_v (.cons tr_v .nil))), tr_v, trivial⟩
  rintro k sl H ⟨i, rfl, hi, rfl, rfl⟩
  rcases (by omega : i = 0 ∨ i = 1 ∨ i = 2 ∨ i = 3) with rfl | rfl | rfl | rfl
  · skip
    refine w_seq ?_
    refine w_reg rfl ?_
    refine v_lss lay3 rfl rfl (fun h3 => ?_) (fun h3 => ?_)
    rotate_left
    · exact absurd (by decide) h3
    refine v_nil ?_
    refine q_n ?_
    refine w_seq ?_
    refine w_t rfl ?_
    refine w_skip ?_
    refine q_n ?_
    refine w_seq ?_
    refine w_block ?_
    refine w_seq ?_
    refine w_reg rfl ?_
    refine v_move rfl ?_
    refine v_index (.c _) lay66 lay2 rfl rfl ⟨by decide, by decide, Nat.le_of_ble_eq_true rfl⟩ rfl ?_
    refine v_assign rfl ?_
    refine v_assign rfl ?_
    refine v_nil ?_
    refine q_n ?_
    refine w_seq ?_
    refine w_reg rfl ?_
    refine v_move rfl ?_
    refine v_fa_pt (off' := 1) lay64 rfl rfl rfl ?_
    refine v_load_pt (.c _) lay3 rfl rfl rfl rfl ?_
    refine v_lss lay3 rfl rfl (fun h4 => ?_) (fun h4 => ?_)
    rotate_left
    · exact absurd (show (0 : Int) < 2 by decide) h4
    refine v_nil ?_
    refine q_n ?_
    refine w_t rfl ?_
    refine w_reg rfl ?_
    refine v_move rfl ?_
    refine v_move rfl ?_
    refine v_call (cDeci _ (by omega)) rfl rfl rfl (.cons vw_v .nil) ?_
    refine v_lit (flat st [_]) (H' := [_, _, _, _]) lay45 lay9 rfl rfl ⟨by decide, by decide⟩ rfl rfl ?_
    refine v_app_flat (H' := [_, _, _, _, _]) st_sc st_len lay45 lay9 rfl rfl (by first | rfl | (simp; done)) rfl rfl (by first | rfl | (simp; done)) rfl rfl (⟨Nat.le_of_ble_eq_true rfl, Nat.le_of_ble_eq_true rfl⟩) rfl rfl ?_
    refine v_assign rfl ?_
    refine v_nil ?_
    refine q_bn ?_
    refine q_n ?_
    refine w_reg rfl ?_
    refine v_add lay3 rfl rfl (i64r (by omega)) ?_
    refine v_move rfl ?_
    refine v_nil ?_
    refine q_n ?_
    refine ⟨_, _, _, ?_, ⟨1, rfl, by omega, rfl, rfl⟩, by omega⟩
    exact turn [some 0, some 1, some 4] rfl rfl rfl ⟨⟨_, rfl, trc_act⟩, ⟨_, rfl, trc_form⟩, ⟨_, rfl, trc_flat st_sc rfl⟩, trivial⟩ ⟨tr_pt rfl, tr_pt rfl, tr_mun rfl rfl, tr_agg (.cons tr_v (.cons tr_v (.cons tr_v .nil))), tr_v, trivial⟩
  · skip
    refine w_seq ?_
    refine w_reg rfl ?_
    refine v_lss lay3 rfl rfl (fun h5 => ?_) (fun h5 => ?_)
    rotate_left
    · exact absurd (by decide) h5
    refine v_nil ?_
    refine q_n ?_
    refine w_seq ?_
    refine w_t rfl ?_
    refine w_skip ?_
    refine q_n ?_
    refine w_seq ?_
    refine w_block ?_
    refine w_seq ?_
    refine w_reg rfl ?_
    refine v_move rfl ?_
    refine v_index (.c _) lay66 lay2 rfl rfl ⟨by decide, by decide, Nat.le_of_ble_eq_true rfl⟩ rfl ?_
    refine v_assign rfl ?_
    refine v_assign rfl ?_
    refine v_nil ?_
    refine q_n ?_
    refine w_seq ?_
    refine w_reg rfl ?_
    refine v_move rfl ?_
    refine v_fa_pt (off' := 1) lay64 rfl rfl rfl ?_
    refine v_load_pt (.c _) lay3 rfl rfl rfl rfl ?_
    refine v_lss lay3 rfl rfl (fun h6 => ?_) (fun h6 => ?_)
    rotate_left
    · exact absurd (show (1 : Int) < 2 by decide) h6
    refine v_nil ?_
    refine q_n ?_
    refine w_t rfl ?_
    refine w_reg rfl ?_
    refine v_move rfl ?_
    refine v_move rfl ?_
    refine v_call (cDeci _ (by omega)) rfl rfl rfl (.cons vw_v .nil) ?_
    refine v_lit (flat st [_]) (H' := [_, _, _, _]) lay45 lay9 rfl rfl ⟨by decide, by decide⟩ rfl rfl ?_
    refine v_app_flat (H' := [_, _, _, _, _]) st_sc st_len lay45 lay9 rfl rfl (by first | rfl | (simp; done)) rfl rfl (by first | rfl | (simp; done)) rfl rfl (⟨Nat.le_of_ble_eq_true rfl, Nat.le_of_ble_eq_true rfl⟩) rfl rfl ?_
    refine v_assign rfl ?_
    refine v_nil ?_
    refine q_bn ?_
    refine q_n ?_
    refine w_reg rfl ?_
    refine v_add lay3 rfl rfl (i64r (by omega)) ?_
    refine v_move rfl ?_
    refine v_nil ?_
    refine q_n ?_
    refine ⟨_, _, _, ?_, ⟨2, rfl, by omega, rfl, rfl⟩, by omega⟩
    exact turn [some 0, some 1, some 4] rfl rfl rfl ⟨⟨_, rfl, trc_act⟩, ⟨_, rfl, trc_form⟩, ⟨_, rfl, trc_flat st_sc rfl⟩, trivial⟩ ⟨tr_pt rfl, tr_pt rfl, tr_mun rfl rfl, tr_agg (.cons tr_v (.cons tr_v (.cons tr_v .nil))), tr_v, trivial⟩
  · skip
    refine w_seq ?_
    refine w_reg rfl ?_
    refine v_lss lay3 rfl rfl (fun h7 => ?_) (fun h7 => ?_)
    rotate_left
    · exact absurd (by decide) h7
    refine v_nil ?_
    refine q_n ?_
    refine w_seq ?_
    refine w_t rfl ?_
    refine w_skip ?_
    refine q_n ?_
    refine w_seq ?_
    refine w_block ?_
    refine w_seq ?_
    refine w_reg rfl ?_
    refine v_move rfl ?_
    refine v_index (.c _) lay66 lay2 rfl rfl ⟨by decide, by decide, Nat.le_of_ble_eq_true rfl⟩ rfl ?_
    refine v_assign rfl ?_
    refine v_assign rfl ?_
    refine v_nil ?_
    refine q_n ?_
    refine w_seq ?_
    refine w_reg rfl ?_
    refine v_move rfl ?_
    refine v_fa_pt (off' := 1) lay64 rfl rfl rfl ?_
    refine v_load_pt (.c _) lay3 rfl rfl rfl rfl ?_
    refine v_lss lay3 rfl rfl (fun h8 => ?_) (fun h8 => ?_)
    · exact absurd h8 (show ¬ ((2 : Int) < 2) by decide)
    refine v_nil ?_
    refine q_n ?_
    refine w_f rfl ?_
    refine w_skip ?_
    refine q_bn ?_
    refine q_n ?_
    refine w_reg rfl ?_
    refine v_add lay3 rfl rfl (i64r (by omega)) ?_
    refine v_move rfl ?_
    refine v_nil ?_
    refine q_n ?_
    refine ⟨_, _, _, ?_, ⟨3, rfl, by omega, rfl, rfl⟩, by omega⟩
    exact turn [some 0, some 1, some 2] rfl rfl rfl ⟨⟨_, rfl, trc_act⟩, ⟨_, rfl, trc_form⟩, ⟨_, rfl, trc_flat st_sc rfl⟩, trivial⟩ ⟨tr_pt rfl, tr_pt rfl, tr_mun rfl rfl, tr_agg (.cons tr_v (.cons tr_v (.cons tr_v .nil))), tr_v, trivial⟩
  · skip
    refine w_seq ?_
    refine w_reg rfl ?_
    refine v_lss lay3 rfl rfl (fun h9 => ?_) (fun h9 => ?_)
    · exact absurd h9 (by decide)
    refine v_nil ?_
    refine q_n ?_
    refine w_seq ?_
    refine w_f rfl ?_
    refine w_exit ?_
    refine q_e ?_
    refine q_e ?_
    refine q_hit ?_
    refine q_n ?_
    refine w_seq ?_
    refine w_seq ?_
    refine w_reg rfl ?_
    refine v_fa_pt (off' := 2) lay64 rfl rfl rfl ?_
    refine v_load_ptb lay4 rfl rfl rfl rfl (fun h10 => ?_) (fun h10 => ?_)
    rotate_left
    · exact absurd (show true = false from h10) (by decide)
    refine v_nil ?_
    refine q_n ?_
    refine w_t rfl ?_
    refine w_seq ?_
    refine w_reg rfl ?_
    refine v_fa_pt (off' := 4) lay36 rfl rfl rfl ?_
    refine v_load_pt (.c _) lay32 rfl rfl rfl rfl ?_
    refine dec_split (p := frOk x = true) (fun h11 => ?_) (fun h11 => ?_)
    rotate_left
    · refine v_call (cFr2 hb hf hz h11) rfl rfl rfl (.cons vw_f .nil) ?_
      refine v_move_t rfl ?_
      refine v_extract_c rfl rfl ?_
      refine v_extract_c rfl rfl ?_
      refine v_assign rfl ?_
      refine v_assign rfl ?_
      refine v_nil ?_
      refine q_n ?_
      refine w_seq ?_
      refine w_seq ?_
      refine w_reg rfl ?_
      refine v_move rfl ?_
      refine v_not true rfl rfl ?_
      refine v_nil ?_
      refine q_n ?_
      refine w_t rfl ?_
      refine w_seq ?_
      refine w_reg rfl ?_
      refine v_assign (c := .v _) rfl ?_
      refine v_nil ?_
      refine q_n ?_
      refine w_ret (q_r (q_r ?_))
      refine r_r rfl ?_
      rw [aTx_bad hok (by decide) (Bool.eq_false_iff.2 (by assumption))]
      exact tr_v
    refine v_call (cFr1 hb hf hz h11) rfl rfl rfl (.cons vw_f .nil) ?_
    refine v_move_t rfl ?_
    refine v_extract_c rfl rfl ?_
    refine v_extract_c rfl rfl ?_
    refine v_assign rfl ?_
    refine v_assign rfl ?_
    refine v_nil ?_
    refine q_n ?_
    refine w_seq ?_
    refine w_seq ?_
    refine w_reg rfl ?_
    refine v_move rfl ?_
    refine v_not false rfl rfl ?_
    refine v_nil ?_
    refine q_n ?_
    refine w_f rfl ?_
    refine w_skip ?_
    refine q_n ?_
    refine w_reg rfl ?_
    refine v_move rfl ?_
    refine v_move rfl ?_
    refine v_lit (flat st [_]) (H' := [_, _, _, _]) lay45 lay9 rfl rfl ⟨by decide, by decide⟩ rfl rfl ?_
    refine v_app_flat (H' := [_, _, _, _, _]) st_sc st_len lay45 lay9 rfl rfl (by first | rfl | (simp; done)) rfl rfl (by first | rfl | (simp; done)) rfl rfl (⟨Nat.le_of_ble_eq_true rfl, Nat.le_of_ble_eq_true rfl⟩) rfl rfl ?_
    refine v_assign rfl ?_
    refine v_nil ?_
    refine q_n ?_
    refine w_seq ?_
    refine w_reg rfl ?_
    refine v_move rfl ?_
    refine v_call (cJoin (aW 2 a b c x) [32] hj0 hj1 hj2) rfl rfl rfl (.cons (vw_mu2 st_sc st_len rfl (rfl)) (.cons vw_v .nil)) ?_
    refine v_assign rfl ?_
    refine v_nil ?_
    refine q_n ?_
    refine w_ret ?_
    refine r_r rfl ?_
    rw [aTx_ok hok (fun q => absurd (q.2.symm.trans (by assumption : frOk x = true)) (by decide))]
    exact tr_v

theorem cActT3 (a b c : Int) (x : Nat) (hb : x < 2 ^ 32) (hok : actOk 3 a b c (some x)) : PureC X 13 [.agg (act 3 a b c (some x))] (cS (aTx 3 a b c (some x))) := by
  refine PureC.of_body (drawD_ok X) (fun _ _ => Go.Proofs.Tryd.call13 _ _) Go.Proofs.Tryd.func13 rfl (n := 64) rfl ?_
  obtain ⟨-, ha, hbb, hcc, hf, hz0, -⟩ := id hok
  have hz : x ≠ 2147483648 := fun e => hz0 (by rw [e])
  have la := itoa_len (a := a) (by omega)
  have lb := itoa_len (a := b) (by omega)
  have lc := itoa_len (a := c) (by omega)
  have lf := frt_len hb hf hz
  have lw : (wordA[3]).length ≤ 5 := by decide
  refine w_seq ?_
  refine w_reg rfl ?_
  refine v_box (m := 0) (H' := [_]) lay36 rfl rfl rfl ?_
  refine v_assign (c := .v _) rfl ?_
  refine v_nil ?_
  refine q_n ?_
  refine w_seq ?_
  refine w_seq ?_
  refine w_reg rfl ?_
  refine v_callb (cActS _ _ _ _ _) rfl rfl (.cons (vw_pt rfl (.cons .v (.cons .v (.cons .v (.cons .v (.cons .f .nil)))))) .nil) (fun h1 => ?_) (fun h1 => ?_)
  rotate_left
  · exact absurd hok h1
  refine v_not false rfl rfl ?_
  refine v_nil ?_
  refine q_n ?_
  refine w_f rfl ?_
  refine w_skip ?_
  refine q_n ?_
  refine w_seq ?_
  refine w_reg rfl ?_
  refine v_call (cWdA) rfl rfl rfl .nil ?_
  refine v_move_t rfl ?_
  refine v_extract_c rfl rfl ?_
  refine v_extract_c rfl rfl ?_
  refine v_extract_c rfl rfl ?_
  refine v_assign rfl ?_
  refine v_assign rfl ?_
  refine v_assign rfl ?_
  refine v_nil ?_
  refine q_n ?_
  refine w_seq ?_
  refine w_draw [0, 0, 2, 7, 15, 31, 0, 64, 192, 511, 1023] [⟨0, 0, []⟩, ⟨1, 0, []⟩, ⟨2, 0, []⟩, ⟨3, 0, []⟩, ⟨4, 0, []⟩, ⟨5, 0, []⟩, ⟨6, 0, []⟩, ⟨7, 0, []⟩, ⟨8, 0, []⟩, ⟨9, 0, []⟩, ⟨10, 0, []⟩] rfl rfl ?_
  refine d_q rfl rfl rfl rfl rfl ?_
  refine v_move rfl ?_
  refine v_nil ?_
  refine d_q rfl rfl rfl rfl rfl ?_
  refine v_fa_pt (off' := 0) lay36 rfl rfl rfl ?_
  refine v_nil ?_
  refine d_q rfl rfl rfl rfl rfl ?_
  refine v_load_pt (.c _) lay2 rfl rfl rfl rfl ?_
  refine v_nil ?_
  refine d_q rfl rfl rfl rfl rfl ?_
  refine v_idx_e (k := 1) (3) st_len lay45 lay9 rfl rfl rfl (rfl) rfl (rfl) (by decide) ?_
  refine v_nil ?_
  refine d_q rfl rfl rfl rfl rfl ?_
  refine v_load_vw (.c (.v _)) lay9 rfl rfl rfl ?_
  refine v_nil ?_
  refine d_q rfl rfl rfl rfl rfl ?_
  refine v_sadd lay9 rfl rfl (by unfold maxLen; simp only [List.length_cons, List.length_nil]; omega) ?_
  refine v_nil ?_
  refine d_q rfl rfl rfl rfl rfl ?_
  refine v_fa_pt (off' := 1) lay36 rfl rfl rfl ?_
  refine v_nil ?_
  refine d_q rfl rfl rfl rfl rfl ?_
  refine v_load_pt (.c _) lay2 rfl rfl rfl rfl ?_
  refine v_nil ?_
  refine d_call (cDecI _ (by omega)) rfl rfl rfl rfl rfl (.cons vw_v .nil) ?_
  refine d_q rfl rfl rfl rfl rfl ?_
  refine v_sadd lay9 rfl rfl (by unfold maxLen; simp only [List.length_append, List.length_cons, List.length_nil]; omega) ?_
  refine v_nil ?_
  refine d_q rfl rfl rfl rfl rfl ?_
  refine v_assign rfl ?_
  refine v_nil ?_
  refine d_nil ?_
  refine q_n ?_
  refine w_seq ?_
  refine w_seq ?_
  refine w_reg rfl ?_
  refine v_move rfl ?_
  refine v_fa_pt (off' := 0) lay36 rfl rfl rfl ?_
  refine v_load_pt (.c _) lay2 rfl rfl rfl rfl ?_
  refine v_idx_e (k := 1) (3) int_len lay46 lay3 rfl rfl rfl (rfl) rfl (rfl) (by decide) ?_
  refine v_load_vw (.c (.v _)) lay3 rfl rfl rfl ?_
  refine v_gtr lay3 rfl rfl (fun h4 => ?_) (fun h4 => ?_)
  rotate_left
  · exact absurd h4 (by decide)
  refine v_nil ?_
  refine q_n ?_
  refine w_t rfl ?_
  refine w_reg rfl ?_
  refine v_move rfl ?_
  refine v_fa_pt (off' := 2) lay36 rfl rfl rfl ?_
  refine v_load_pt (.c _) lay2 rfl rfl rfl rfl ?_
  refine v_call (cDecI _ (by omega)) rfl rfl rfl (.cons vw_v .nil) ?_
  refine v_sadd lay9 rfl rfl (by unfold maxLen; simp only [List.length_cons, List.length_nil]; omega) ?_
  refine v_sadd lay9 rfl rfl (by unfold maxLen; simp only [List.length_append, List.length_cons, List.length_nil]; omega) ?_
  refine v_assign rfl ?_
  refine v_nil ?_
  refine q_n ?_
  refine w_seq ?_
  refine w_seq ?_
  refine w_reg rfl ?_
  refine v_move rfl ?_
  refine v_fa_pt (off' := 0) lay36 rfl rfl rfl ?_
  refine v_load_pt (.c _) lay2 rfl rfl rfl rfl ?_
  refine v_idx_e (k := 1) (3) int_len lay46 lay3 rfl rfl rfl (rfl) rfl (rfl) (by decide) ?_
  refine v_load_vw (.c (.v _)) lay3 rfl rfl rfl ?_
  refine v_gtr lay3 rfl rfl (fun h6 => ?_) (fun h6 => ?_)
  · exact absurd h6 (by decide)
  refine v_nil ?_
  refine q_n ?_
  refine w_f rfl ?_
  refine w_skip ?_
  refine q_n ?_
  refine w_seq ?_
  refine w_seq ?_
  refine w_reg rfl ?_
  refine v_move rfl ?_
  refine v_fa_pt (off' := 0) lay36 rfl rfl rfl ?_
  refine v_load_pt (.c _) lay2 rfl rfl rfl rfl ?_
  refine v_idx_e (k := 1) (3) bo_len lay58 lay4 rfl rfl rfl (rfl) rfl (rfl) (by decide) ?_
  refine v_load_vwb lay4 rfl rfl rfl (fun h8 => ?_) (fun h8 => ?_)
  · exact absurd h8 (by decide)
  refine v_nil ?_
  refine q_n ?_
  refine w_f rfl ?_
  refine w_skip ?_
  refine q_n ?_
  refine w_seq ?_
  refine w_reg rfl ?_
  refine v_move rfl ?_
  refine v_assign rfl ?_
  refine v_nil ?_
  refine q_n ?_
  refine w_ret ?_
  refine r_r rfl ?_
  rw [aTx_ok hok (fun q => absurd q.1 (by decide))]
  exact a_s (join_3 _ _ _ _).symm

theorem cActU3 (a b c : Int) (x : Nat) (hb : x < 2 ^ 32) (hok : actOk 3 a b c (some x)) : PureC X 15 [.agg (act 3 a b c (some x))] (cS (aTx 3 a b c (some x))) := by
  refine PureC.of_body (drawD_ok X) (fun _ _ => Go.Proofs.Tryd.call15 _ _) Go.Proofs.Tryd.func15 rfl (n := 57) rfl ?_
  obtain ⟨-, ha, hbb, hcc, hf, hz0, -⟩ := id hok
  have hz : x ≠ 2147483648 := fun e => hz0 (by rw [e])
  have la := itoa_len (a := a) (by omega)
  have lb := itoa_len (a := b) (by omega)
  have lc := itoa_len (a := c) (by omega)
  have lf := frt_len hb hf hz
  have lw : (wordA[3]).length ≤ 5 := by decide
  have hW : aW 3 a b c x = [wordA[3], itoa a, itoa b] := rfl
  have hj0 : aW 3 a b c x ≠ [] := by rw [hW]; exact fun e => by cases e
  have hj1 : (aW 3 a b c x).length ≤ 1048576 := by rw [hW]; exact Nat.le_of_ble_eq_true rfl
  have hj2 : (Lib.join (aW 3 a b c x) [32]).length ≤ 1099511627776 := by
    rw [hW, join_3]
    simp only [List.length_append, List.length_cons, List.length_nil]
    omega
  have hs : Sg (some x) := ⟨fun b e => by
    obtain rfl := Option.some.inj e
    obtain ⟨s, m, e, hr⟩ := num_of_fin hf
    unfold isNaN
    rw [show FloatKind.f32.decode x = _ from hr]; rfl, fun b e => by
    obtain rfl := Option.some.inj e
    exact hb⟩
  refine w_seq ?_
  refine w_reg rfl ?_
  refine v_box (m := 0) (H' := [_]) lay36 rfl rfl rfl ?_
  refine v_assign (c := .v _) rfl ?_
  refine v_nil ?_
  refine q_n ?_
  refine w_seq ?_
  refine w_seq ?_
  refine w_reg rfl ?_
  refine v_load_pt (.agg [_, _, _, _, _]) lay36 rfl rfl rfl rfl ?_
  refine v_callb (cActI _ _ _ _ _ (by assumption)) rfl rfl (.cons (vw_agg (.cons vw_v (.cons vw_v (.cons vw_v (.cons vw_v (.cons vw_f .nil)))))) .nil) (fun h1 => ?_) (fun h1 => ?_)
  rotate_left
  · exact absurd hok h1
  refine v_not false rfl rfl ?_
  refine v_nil ?_
  refine q_n ?_
  refine w_f rfl ?_
  refine w_skip ?_
  refine q_n ?_
  refine w_seq ?_
  refine w_reg rfl ?_
  refine v_fa_pt (off' := 0) lay36 rfl rfl rfl ?_
  refine v_load_pt (.c _) lay2 rfl rfl rfl rfl ?_
  refine v_sub lay2 rfl rfl (i64r (by omega)) ?_
  refine v_idx_av (k := 3) lay65 lay64 rfl rfl rfl (by decide) (fun qZ hqZ eZ => ?_)
  obtain rfl : qZ = 2 := by omega
  refine v_load_av (q := 2) formL (.agg [.v _, .v _, .v _]) fenc_len lay64 rfl rfl rfl (by decide) rfl ?_
  refine v_alloc (m := 1) (H' := [_, ⟨[.v _, .v _, .v _], 64, true⟩]) lay64 rfl rfl ?_
  refine v_store (H' := [_, ⟨[_, _, _], 64, true⟩]) lay64 rfl rfl rfl rfl rfl rfl ?_
  refine v_nil ?_
  refine q_n ?_
  refine w_seq ?_
  refine w_reg rfl ?_
  refine v_fa_pt (off' := 0) lay64 rfl rfl rfl ?_
  refine v_load_pt (.c _) lay9 rfl rfl rfl rfl ?_
  refine v_lit (flat st [_]) (H' := [_, _, _]) lay45 lay9 rfl rfl ⟨by decide, by decide⟩ rfl rfl ?_
  refine v_assign rfl ?_
  refine v_nil ?_
  refine q_n ?_
  refine w_seq ?_
  refine w_seq ?_
  refine w_reg rfl ?_
  refine v_fa_pt (off' := 1) lay36 rfl rfl rfl ?_
  refine v_load_pt (.c _) lay2 rfl rfl rfl rfl ?_
  refine v_fa_pt (off' := 2) lay36 rfl rfl rfl ?_
  refine v_load_pt (.c _) lay2 rfl rfl rfl rfl ?_
  refine v_fa_pt (off' := 3) lay36 rfl rfl rfl ?_
  refine v_load_pt (.c _) lay2 rfl rfl rfl rfl ?_
  refine v_build_a [.v _, .v _, .v _] lay66 lay2 rfl ?_
  refine v_move (c := .v (.int .i64 0)) rfl ?_
  refine v_nil ?_
  refine q_n ?_
  refine w_block ?_
  refine w_loop (fun k sl H => ∃ i : Nat, k = 3 - i ∧ i ≤ 3 ∧ sl = sls [(1, .c (.pt 0 0)), (3, .c (.pt 1 0)), (4, .c (.mu 2 0 (wi 2 formL[2].1 a b c i).length 1)), (26, .agg [.v (.int .i64 a), .v (.int .i64 b), .v (.int .i64 c)]), (27, cI i)] ∧ H = [⟨act 3 a b c (some x), 36, true⟩, ⟨fenc formL[2], 64, true⟩, ⟨flat st (wi 2 formL[2].1 a b c i), 9, true⟩]) ?_ ?_
  · refine ⟨_, _, _, ?_, 0, rfl, by omega, rfl, rfl⟩
    exact turn [some 0, some 1, some 2] rfl rfl rfl ⟨⟨_, rfl, trc_act⟩, ⟨_, rfl, trc_form⟩, ⟨_, rfl, trc_flat st_sc rfl⟩, trivial⟩ ⟨tr_pt rfl, tr_pt rfl, tr_mun rfl rfl, tr_agg (.cons tr_v (.cons tr_v (.cons tr_v .nil))), tr_v, trivial⟩
  rintro k sl H ⟨i, rfl, hi, rfl, rfl⟩
  rcases (by omega : i = 0 ∨ i = 1 ∨ i = 2 ∨ i = 3) with rfl | rfl | rfl | rfl
  · skip
    refine w_seq ?_
    refine w_reg rfl ?_
    refine v_lss lay3 rfl rfl (fun h3 => ?_) (fun h3 => ?_)
    rotate_left
    · exact absurd (by decide) h3
    refine v_nil ?_
    refine q_n ?_
    refine w_seq ?_
    refine w_t rfl ?_
    refine w_skip ?_
    refine q_n ?_
    refine w_seq ?_
    refine w_block ?_
    refine w_seq ?_
    refine w_reg rfl ?_
    refine v_move rfl ?_
    refine v_index (.c _) lay66 lay2 rfl rfl ⟨by decide, by decide, Nat.le_of_ble_eq_true rfl⟩ rfl ?_
    refine v_assign rfl ?_
    refine v_assign rfl ?_
    refine v_nil ?_
    refine q_n ?_
    refine w_seq ?_
    refine w_reg rfl ?_
    refine v_move rfl ?_
    refine v_fa_pt (off' := 1) lay64 rfl rfl rfl ?_
    refine v_load_pt (.c _) lay3 rfl rfl rfl rfl ?_
    refine v_lss lay3 rfl rfl (fun h4 => ?_) (fun h4 => ?_)
    rotate_left
    · exact absurd (show (0 : Int) < 2 by decide) h4
    refine v_nil ?_
    refine q_n ?_
    refine w_t rfl ?_
    refine w_reg rfl ?_
    refine v_move rfl ?_
    refine v_move rfl ?_
    refine v_call (cDeci _ (by omega)) rfl rfl rfl (.cons vw_v .nil) ?_
    refine v_lit (flat st [_]) (H' := [_, _, _, _]) lay45 lay9 rfl rfl ⟨by decide, by decide⟩ rfl rfl ?_
    refine v_app_flat (H' := [_, _, _, _, _]) st_sc st_len lay45 lay9 rfl rfl (by first | rfl | (simp; done)) rfl rfl (by first | rfl | (simp; done)) rfl rfl (⟨Nat.le_of_ble_eq_true rfl, Nat.le_of_ble_eq_true rfl⟩) rfl rfl ?_
    refine v_assign rfl ?_
    refine v_nil ?_
    refine q_bn ?_
    refine q_n ?_
    refine w_reg rfl ?_
    refine v_add lay3 rfl rfl (i64r (by omega)) ?_
    refine v_move rfl ?_
    refine v_nil ?_
    refine q_n ?_
    refine ⟨_, _, _, ?_, ⟨1, rfl, by omega, rfl, rfl⟩, by omega⟩
    exact turn [some 0, some 1, some 4] rfl rfl rfl ⟨⟨_, rfl, trc_act⟩, ⟨_, rfl, trc_form⟩, ⟨_, rfl, trc_flat st_sc rfl⟩, trivial⟩ ⟨tr_pt rfl, tr_pt rfl, tr_mun rfl rfl, tr_agg (.cons tr_v (.cons tr_v (.cons tr_v .nil))), tr_v, trivial⟩
  · skip
    refine w_seq ?_
    refine w_reg rfl ?_
    refine v_lss lay3 rfl rfl (fun h5 => ?_) (fun h5 => ?_)
    rotate_left
    · exact absurd (by decide) h5
    refine v_nil ?_
    refine q_n ?_
    refine w_seq ?_
    refine w_t rfl ?_
    refine w_skip ?_
    refine q_n ?_
    refine w_seq ?_
    refine w_block ?_
    refine w_seq ?_
    refine w_reg rfl ?_
    refine v_move rfl ?_
    refine v_index (.c _) lay66 lay2 rfl rfl ⟨by decide, by decide, Nat.le_of_ble_eq_true rfl⟩ rfl ?_
    refine v_assign rfl ?_
    refine v_assign rfl ?_
    refine v_nil ?_
    refine q_n ?_
    refine w_seq ?_
    refine w_reg rfl ?_
    refine v_move rfl ?_
    refine v_fa_pt (off' := 1) lay64 rfl rfl rfl ?_
    refine v_load_pt (.c _) lay3 rfl rfl rfl rfl ?_
    refine v_lss lay3 rfl rfl (fun h6 => ?_) (fun h6 => ?_)
    rotate_left
    · exact absurd (show (1 : Int) < 2 by decide) h6
    refine v_nil ?_
    refine q_n ?_
    refine w_t rfl ?_
    refine w_reg rfl ?_
    refine v_move rfl ?_
    refine v_move rfl ?_
    refine v_call (cDeci _ (by omega)) rfl rfl rfl (.cons vw_v .nil) ?_
    refine v_lit (flat st [_]) (H' := [_, _, _, _]) lay45 lay9 rfl rfl ⟨by decide, by decide⟩ rfl rfl ?_
    refine v_app_flat (H' := [_, _, _, _, _]) st_sc st_len lay45 lay9 rfl rfl (by first | rfl | (simp; done)) rfl rfl (by first | rfl | (simp; done)) rfl rfl (⟨Nat.le_of_ble_eq_true rfl, Nat.le_of_ble_eq_true rfl⟩) rfl rfl ?_
    refine v_assign rfl ?_
    refine v_nil ?_
    refine q_bn ?_
    refine q_n ?_
    refine w_reg rfl ?_
    refine v_add lay3 rfl rfl (i64r (by omega)) ?_
    refine v_move rfl ?_
    refine v_nil ?_
    refine q_n ?_
    refine ⟨_, _, _, ?_, ⟨2, rfl, by omega, rfl, rfl⟩, by omega⟩
    exact turn [some 0, some 1, some 4] rfl rfl rfl ⟨⟨_, rfl, trc_act⟩, ⟨_, rfl, trc_form⟩, ⟨_, rfl, trc_flat st_sc rfl⟩, trivial⟩ ⟨tr_pt rfl, tr_pt rfl, tr_mun rfl rfl, tr_agg (.cons tr_v (.cons tr_v (.cons tr_v .nil))), tr_v, trivial⟩
  · skip
    refine w_seq ?_
    refine w_reg rfl ?_
    refine v_lss lay3 rfl rfl (fun h7 => ?_) (fun h7 => ?_)
    rotate_left
    · exact absurd (by decide) h7
    refine v_nil ?_
    refine q_n ?_
    refine w_seq ?_
    refine w_t rfl ?_
    refine w_skip ?_
    refine q_n ?_
    refine w_seq ?_
    refine w_block ?_
    refine w_seq ?_
    refine w_reg rfl ?_
    refine v_move rfl ?_
    refine v_index (.c _) lay66 lay2 rfl rfl ⟨by decide, by decide, Nat.le_of_ble_eq_true rfl⟩ rfl ?_
    refine v_assign rfl ?_
    refine v_assign rfl ?_
    refine v_nil ?_
    refine q_n ?_
    refine w_seq ?_
    refine w_reg rfl ?_
    refine v_move rfl ?_
    refine v_fa_pt (off' := 1) lay64 rfl rfl rfl ?_
    refine v_load_pt (.c _) lay3 rfl rfl rfl rfl ?_
    refine v_lss lay3 rfl rfl (fun h8 => ?_) (fun h8 => ?_)
    · exact absurd h8 (show ¬ ((2 : Int) < 2) by decide)
    refine v_nil ?_
    refine q_n ?_
    refine w_f rfl ?_
    refine w_skip ?_
    refine q_bn ?_
    refine q_n ?_
    refine w_reg rfl ?_
    refine v_add lay3 rfl rfl (i64r (by omega)) ?_
    refine v_move rfl ?_
    refine v_nil ?_
    refine q_n ?_
    refine ⟨_, _, _, ?_, ⟨3, rfl, by omega, rfl, rfl⟩, by omega⟩
    exact turn [some 0, some 1, some 2] rfl rfl rfl ⟨⟨_, rfl, trc_act⟩, ⟨_, rfl, trc_form⟩, ⟨_, rfl, trc_flat st_sc rfl⟩, trivial⟩ ⟨tr_pt rfl, tr_pt rfl, tr_mun rfl rfl, tr_agg (.cons tr_v (.cons tr_v (.cons tr_v .nil))), tr_v, trivial⟩
  · skip
    refine w_seq ?_
    refine w_reg rfl ?_
    refine v_lss lay3 rfl rfl (fun h9 => ?_) (fun h9 => ?_)
    · exact absurd h9 (by decide)
    refine v_nil ?_
    refine q_n ?_
    refine w_seq ?_
    refine w_f rfl ?_
    refine w_exit ?_
    refine q_e ?_
    refine q_e ?_
    refine q_hit ?_
    refine q_n ?_
    refine w_seq ?_
    refine w_seq ?_
    refine w_reg rfl ?_
    refine v_fa_pt (off' := 2) lay64 rfl rfl rfl ?_
    refine v_load_ptb lay4 rfl rfl rfl rfl (fun h10 => ?_) (fun h10 => ?_)
    · exact absurd (show false = true from h10) (by decide)
    refine v_nil ?_
    refine q_n ?_
    refine w_f rfl ?_
    refine w_skip ?_
    refine q_n ?_
    refine w_seq ?_
    refine w_reg rfl ?_
    refine v_move rfl ?_
    refine v_call (cJoin (aW 3 a b c x) [32] hj0 hj1 hj2) rfl rfl rfl (.cons (vw_mu2 st_sc st_len rfl (rfl)) (.cons vw_v .nil)) ?_
    refine v_assign rfl ?_
    refine v_nil ?_
    refine q_n ?_
    refine w_ret ?_
    refine r_r rfl ?_
    rw [aTx_ok hok (fun q => absurd q.1 (by decide))]
    exact tr_v

theorem cActT4 (a b c : Int) (x : Nat) (hb : x < 2 ^ 32) (hok : actOk 4 a b c (some x)) : PureC X 13 [.agg (act 4 a b c (some x))] (cS (aTx 4 a b c (some x))) := by
  refine PureC.of_body (drawD_ok X) (fun _ _ => Go.Proofs.Tryd.call13 _ _) Go.Proofs.Tryd.func13 rfl (n := 64) rfl ?_
  obtain ⟨-, ha, hbb, hcc, hf, hz0, -⟩ := id hok
  have hz : x ≠ 2147483648 := fun e => hz0 (by rw [e])
  have la := itoa_len (a := a) (by omega)
  have lb := itoa_len (a := b) (by omega)
  have lc := itoa_len (a := c) (by omega)
  have lf := frt_len hb hf hz
  have lw : (wordA[4]).length ≤ 5 := by decide
  refine w_seq ?_
  refine w_reg rfl ?_
  refine v_box (m := 0) (H' := [_]) lay36 rfl rfl rfl ?_
  refine v_assign (c := .v _) rfl ?_
  refine v_nil ?_
  refine q_n ?_
  refine w_seq ?_
  refine w_seq ?_
  refine w_reg rfl ?_
  refine v_callb (cActS _ _ _ _ _) rfl rfl (.cons (vw_pt rfl (.cons .v (.cons .v (.cons .v (.cons .v (.cons .f .nil)))))) .nil) (fun h1 => ?_) (fun h1 => ?_)
  rotate_left
  · exact absurd hok h1
  refine v_not false rfl rfl ?_
  refine v_nil ?_
  refine q_n ?_
  refine w_f rfl ?_
  refine w_skip ?_
  refine q_n ?_
  refine w_seq ?_
  refine w_reg rfl ?_
  refine v_call (cWdA) rfl rfl rfl .nil ?_
  refine v_move_t rfl ?_
  refine v_extract_c rfl rfl ?_
  refine v_extract_c rfl rfl ?_
  refine v_extract_c rfl rfl ?_
  refine v_assign rfl ?_
  refine v_assign rfl ?_
  refine v_assign rfl ?_
  refine v_nil ?_
  refine q_n ?_
  refine w_seq ?_
  refine w_draw [0, 0, 2, 7, 15, 31, 0, 64, 192, 511, 1023] [⟨0, 0, []⟩, ⟨1, 0, []⟩, ⟨2, 0, []⟩, ⟨3, 0, []⟩, ⟨4, 0, []⟩, ⟨5, 0, []⟩, ⟨6, 0, []⟩, ⟨7, 0, []⟩, ⟨8, 0, []⟩, ⟨9, 0, []⟩, ⟨10, 0, []⟩] rfl rfl ?_
  refine d_q rfl rfl rfl rfl rfl ?_
  refine v_move rfl ?_
  refine v_nil ?_
  refine d_q rfl rfl rfl rfl rfl ?_
  refine v_fa_pt (off' := 0) lay36 rfl rfl rfl ?_
  refine v_nil ?_
  refine d_q rfl rfl rfl rfl rfl ?_
  refine v_load_pt (.c _) lay2 rfl rfl rfl rfl ?_
  refine v_nil ?_
  refine d_q rfl rfl rfl rfl rfl ?_
  refine v_idx_e (k := 1) (4) st_len lay45 lay9 rfl rfl rfl (rfl) rfl (rfl) (by decide) ?_
  refine v_nil ?_
  refine d_q rfl rfl rfl rfl rfl ?_
  refine v_load_vw (.c (.v _)) lay9 rfl rfl rfl ?_
  refine v_nil ?_
  refine d_q rfl rfl rfl rfl rfl ?_
  refine v_sadd lay9 rfl rfl (by unfold maxLen; simp only [List.length_cons, List.length_nil]; omega) ?_
  refine v_nil ?_
  refine d_q rfl rfl rfl rfl rfl ?_
  refine v_fa_pt (off' := 1) lay36 rfl rfl rfl ?_
  refine v_nil ?_
  refine d_q rfl rfl rfl rfl rfl ?_
  refine v_load_pt (.c _) lay2 rfl rfl rfl rfl ?_
  refine v_nil ?_
  refine d_call (cDecI _ (by omega)) rfl rfl rfl rfl rfl (.cons vw_v .nil) ?_
  refine d_q rfl rfl rfl rfl rfl ?_
  refine v_sadd lay9 rfl rfl (by unfold maxLen; simp only [List.length_append, List.length_cons, List.length_nil]; omega) ?_
  refine v_nil ?_
  refine d_q rfl rfl rfl rfl rfl ?_
  refine v_assign rfl ?_
  refine v_nil ?_
  refine d_nil ?_
  refine q_n ?_
  refine w_seq ?_
  refine w_seq ?_
  refine w_reg rfl ?_
  refine v_move rfl ?_
  refine v_fa_pt (off' := 0) lay36 rfl rfl rfl ?_
  refine v_load_pt (.c _) lay2 rfl rfl rfl rfl ?_
  refine v_idx_e (k := 1) (4) int_len lay46 lay3 rfl rfl rfl (rfl) rfl (rfl) (by decide) ?_
  refine v_load_vw (.c (.v _)) lay3 rfl rfl rfl ?_
  refine v_gtr lay3 rfl rfl (fun h4 => ?_) (fun h4 => ?_)
  · exact absurd h4 (by decide)
  refine v_nil ?_
  refine q_n ?_
  refine w_f rfl ?_
  refine w_skip ?_
  refine q_n ?_
  refine w_seq ?_
  refine w_seq ?_
  refine w_reg rfl ?_
  refine v_move rfl ?_
  refine v_fa_pt (off' := 0) lay36 rfl rfl rfl ?_
  refine v_load_pt (.c _) lay2 rfl rfl rfl rfl ?_
  refine v_idx_e (k := 1) (4) int_len lay46 lay3 rfl rfl rfl (rfl) rfl (rfl) (by decide) ?_
  refine v_load_vw (.c (.v _)) lay3 rfl rfl rfl ?_
  refine v_gtr lay3 rfl rfl (fun h6 => ?_) (fun h6 => ?_)
  · exact absurd h6 (by decide)
  refine v_nil ?_
  refine q_n ?_
  refine w_f rfl ?_
  refine w_skip ?_
  refine q_n ?_
  refine w_seq ?_
  refine w_seq ?_
  refine w_reg rfl ?_
  refine v_move rfl ?_
  refine v_fa_pt (off' := 0) lay36 rfl rfl rfl ?_
  refine v_load_pt (.c _) lay2 rfl rfl rfl rfl ?_
  refine v_idx_e (k := 1) (4) bo_len lay58 lay4 rfl rfl rfl (rfl) rfl (rfl) (by decide) ?_
  refine v_load_vwb lay4 rfl rfl rfl (fun h8 => ?_) (fun h8 => ?_)
  · exact absurd h8 (by decide)
  refine v_nil ?_
  refine q_n ?_
  refine w_f rfl ?_
  refine w_skip ?_
  refine q_n ?_
  refine w_seq ?_
  refine w_reg rfl ?_
  refine v_move rfl ?_
  refine v_assign rfl ?_
  refine v_nil ?_
  refine q_n ?_
  refine w_ret ?_
  refine r_r rfl ?_
  rw [aTx_ok hok (fun q => absurd q.1 (by decide))]
  exact a_s (join_2 _ _ _).symm

theorem cActU4 (a b c : Int) (x : Nat) (hb : x < 2 ^ 32) (hok : actOk 4 a b c (some x)) : PureC X 15 [.agg (act 4 a b c (some x))] (cS (aTx 4 a b c (some x))) := by
  refine PureC.of_body (drawD_ok X) (fun _ _ => Go.Proofs.Tryd.call15 _ _) Go.Proofs.Tryd.func15 rfl (n := 57) rfl ?_
  obtain ⟨-, ha, hbb, hcc, hf, hz0, -⟩ := id hok
  have hz : x ≠ 2147483648 := fun e => hz0 (by rw [e])
  have la := itoa_len (a := a) (by omega)
  have lb := itoa_len (a := b) (by omega)
  have lc := itoa_len (a := c) (by omega)
  have lf := frt_len hb hf hz
  have lw : (wordA[4]).length ≤ 5 := by decide
  have hW : aW 4 a b c x = [wordA[4], itoa a] := rfl
  have hj0 : aW 4 a b c x ≠ [] := by rw [hW]; exact fun e => by cases e
  have hj1 : (aW 4 a b c x).length ≤ 1048576 := by rw [hW]; exact Nat.le_of_ble_eq_true rfl
  have hj2 : (Lib.join (aW 4 a b c x) [32]).length ≤ 1099511627776 := by
    rw [hW, join_2]
    simp only [List.length_append, List.length_cons, List.length_nil]
    omega
  have hs : Sg (some x) := ⟨fun b e => by
    obtain rfl := Option.some.inj e
    obtain ⟨s, m, e, hr⟩ := num_of_fin hf
    unfold isNaN
    rw [show FloatKind.f32.decode x = _ from hr]; rfl, fun b e => by
    obtain rfl := Option.some.inj e
    exact hb⟩
  refine w_seq ?_
  refine w_reg rfl ?_
  refine v_box (m := 0) (H' := [_]) lay36 rfl rfl rfl ?_
  refine v_assign (c := .v _) rfl ?_
  refine v_nil ?_
  refine q_n ?_
  refine w_seq ?_
  refine w_seq ?_
  refine w_reg rfl ?_
  refine v_load_pt (.agg [_, _, _, _, _]) lay36 rfl rfl rfl rfl ?_
  refine v_callb (cActI _ _ _ _ _ (by assumption)) rfl rfl (.cons (vw_agg (.cons vw_v (.cons vw_v (.cons vw_v (.cons vw_v (.cons vw_f .nil)))))) .nil) (fun h1 => ?_) (fun h1 => ?_)
  rotate_left
  · exact absurd hok h1
  refine v_not false rfl rfl ?_
  refine v_nil ?_
  refine q_n ?_
  refine w_f rfl ?_
  refine w_skip ?_
  refine q_n ?_
  refine w_seq ?_
  refine w_reg rfl ?_
  refine v_fa_pt (off' := 0) lay36 rfl rfl rfl ?_
  refine v_load_pt (.c _) lay2 rfl rfl rfl rfl ?_
  refine v_sub lay2 rfl rfl (i64r (by omega)) ?_
  refine v_idx_av (k := 3) lay65 lay64 rfl rfl rfl (by decide) (fun qZ hqZ eZ => ?_)
  obtain rfl : qZ = 3 := by omega
  refine v_load_av (q := 3) formL (.agg [.v _, .v _, .v _]) fenc_len lay64 rfl rfl rfl (by decide) rfl ?_
  refine v_alloc (m := 1) (H' := [_, ⟨[.v _, .v _, .v _], 64, true⟩]) lay64 rfl rfl ?_
  refine v_store (H' := [_, ⟨[_, _, _], 64, true⟩]) lay64 rfl rfl rfl rfl rfl rfl ?_
  refine v_nil ?_
  refine q_n ?_
  refine w_seq ?_
  refine w_reg rfl ?_
  refine v_fa_pt (off' := 0) lay64 rfl rfl rfl ?_
  refine v_load_pt (.c _) lay9 rfl rfl rfl rfl ?_
  refine v_lit (flat st [_]) (H' := [_, _, _]) lay45 lay9 rfl rfl ⟨by decide, by decide⟩ rfl rfl ?_
  refine v_assign rfl ?_
  refine v_nil ?_
  refine q_n ?_
  refine w_seq ?_
  refine w_seq ?_
  refine w_reg rfl ?_
  refine v_fa_pt (off' := 1) lay36 rfl rfl rfl ?_
  refine v_load_pt (.c _) lay2 rfl rfl rfl rfl ?_
  refine v_fa_pt (off' := 2) lay36 rfl rfl rfl ?_
  refine v_load_pt (.c _) lay2 rfl rfl rfl rfl ?_
  refine v_fa_pt (off' := 3) lay36 rfl rfl rfl ?_
  refine v_load_pt (.c _) lay2 rfl rfl rfl rfl ?_
  refine v_build_a [.v _, .v _, .v _] lay66 lay2 rfl ?_
  refine v_move (c := .v (.int .i64 0)) rfl ?_
  refine v_nil ?_
  refine q_n ?_
  refine w_block ?_
  refine w_loop (fun k sl H => ∃ i : Nat, k = 3 - i ∧ i ≤ 3 ∧ sl = sls [(1, .c (.pt 0 0)), (3, .c (.pt 1 0)), (4, .c (.mu 2 0 (wi 1 formL[3].1 a b c i).length 1)), (26, .agg [.v (.int .i64 a), .v (.int .i64 b), .v (.int .i64 c)]), (27, cI i)] ∧ H = [⟨act 4 a b c (some x), 36, true⟩, ⟨fenc formL[3], 64, true⟩, ⟨flat st (wi 1 formL[3].1 a b c i), 9, true⟩]) ?_ ?_
  · refine ⟨_, _, _, ?_, 0, rfl, by omega, rfl, rfl⟩
    exact turn [some 0, some 1, some 2] rfl rfl rfl ⟨⟨_, rfl, trc_act⟩, ⟨_, rfl, trc_form⟩, ⟨_, rfl, trc_flat st_sc rfl⟩, trivial⟩ ⟨tr_pt rfl, tr_pt rfl, tr_mun rfl rfl, tr_agg (.cons tr_v (.cons tr_v (.cons tr_v .nil))), tr_v, trivial⟩
  rintro k sl H ⟨i, rfl, hi, rfl, rfl⟩
  rcases (by omega : i = 0 ∨ i = 1 ∨ i = 2 ∨ i = 3) with rfl | rfl | rfl | rfl
  · skip
    refine w_seq ?_
    refine w_reg rfl ?_
    refine v_lss lay3 rfl rfl (fun h3 => ?_) (fun h3 => ?_)
    rotate_left
    · exact absurd (by decide) h3
    refine v_nil ?_
    refine q_n ?_
    refine w_seq ?_
    refine w_t rfl ?_
    refine w_skip ?_
    refine q_n ?_
    refine w_seq ?_
    refine w_block ?_
    refine w_seq ?_
    refine w_reg rfl ?_
    refine v_move rfl ?_
    refine v_index (.c _) lay66 lay2 rfl rfl ⟨by decide, by decide, Nat.le_of_ble_eq_true rfl⟩ rfl ?_
    refine v_assign rfl ?_
    refine v_assign rfl ?_
    refine v_nil ?_
    refine q_n ?_
    refine w_seq ?_
    refine w_reg rfl ?_
    refine v_move rfl ?_
    refine v_fa_pt (off' := 1) lay64 rfl rfl rfl ?_
    refine v_load_pt (.c _) lay3 rfl rfl rfl rfl ?_
    refine v_lss lay3 rfl rfl (fun h4 => ?_) (fun h4 => ?_)
    rotate_left
    · exact absurd (show (0 : Int) < 1 by decide) h4
    refine v_nil ?_
    refine q_n ?_
    refine w_t rfl ?_
    refine w_reg rfl ?_
    refine v_move rfl ?_
    refine v_move rfl ?_
    refine v_call (cDeci _ (by omega)) rfl rfl rfl (.cons vw_v .nil) ?_
    refine v_lit (flat st [_]) (H' := [_, _, _, _]) lay45 lay9 rfl rfl ⟨by decide, by decide⟩ rfl rfl ?_
    refine v_app_flat (H' := [_, _, _, _, _]) st_sc st_len lay45 lay9 rfl rfl (by first | rfl | (simp; done)) rfl rfl (by first | rfl | (simp; done)) rfl rfl (⟨Nat.le_of_ble_eq_true rfl, Nat.le_of_ble_eq_true rfl⟩) rfl rfl ?_
    refine v_assign rfl ?_
    refine v_nil ?_
    refine q_bn ?_
    refine q_n ?_
    refine w_reg rfl ?_
    refine v_add lay3 rfl rfl (i64r (by omega)) ?_
    refine v_move rfl ?_
    refine v_nil ?_
    refine q_n ?_
    refine ⟨_, _, _, ?_, ⟨1, rfl, by omega, rfl, rfl⟩, by omega⟩
    exact turn [some 0, some 1, some 4] rfl rfl rfl ⟨⟨_, rfl, trc_act⟩, ⟨_, rfl, trc_form⟩, ⟨_, rfl, trc_flat st_sc rfl⟩, trivial⟩ ⟨tr_pt rfl, tr_pt rfl, tr_mun rfl rfl, tr_agg (.cons tr_v (.cons tr_v (.cons tr_v .nil))), tr_v, trivial⟩
  · skip
    refine w_seq ?_
    refine w_reg rfl ?_
    refine v_lss lay3 rfl rfl (fun h5 => ?_) (fun h5 => ?_)
    rotate_left
    · exact absurd (by decide) h5
    refine v_nil ?_
    refine q_n ?_
    refine w_seq ?_
    refine w_t rfl ?_
    refine w_skip ?_
    refine q_n ?_
    refine w_seq ?_
    refine w_block ?_
    refine w_seq ?_
    refine w_reg rfl ?_
    refine v_move rfl ?_
    refine v_index (.c _) lay66 lay2 rfl rfl ⟨by decide, by decide, Nat.le_of_ble_eq_true rfl⟩ rfl ?_
    refine v_assign rfl ?_
    refine v_assign rfl ?_
    refine v_nil ?_
    refine q_n ?_
    refine w_seq ?_
    refine w_reg rfl ?_
    refine v_move rfl ?_
    refine v_fa_pt (off' := 1) lay64 rfl rfl rfl ?_
    refine v_load_pt (.c _) lay3 rfl rfl rfl rfl ?_
    refine v_lss lay3 rfl rfl (fun h6 => ?_) (fun h6 => ?_)
    · exact absurd h6 (show ¬ ((1 : Int) < 1) by decide)
    refine v_nil ?_
    refine q_n ?_
    refine w_f rfl ?_
    refine w_skip ?_
    refine q_bn ?_
    refine q_n ?_
    refine w_reg rfl ?_
    refine v_add lay3 rfl rfl (i64r (by omega)) ?_
    refine v_move rfl ?_
    refine v_nil ?_
    refine q_n ?_
    refine ⟨_, _, _, ?_, ⟨2, rfl, by omega, rfl, rfl⟩, by omega⟩
    exact turn [some 0, some 1, some 2] rfl rfl rfl ⟨⟨_, rfl, trc_act⟩, ⟨_, rfl, trc_form⟩, ⟨_, rfl, trc_flat st_sc rfl⟩, trivial⟩ ⟨tr_pt rfl, tr_pt rfl, tr_mun rfl rfl, tr_agg (.cons tr_v (.cons tr_v (.cons tr_v .nil))), tr_v, trivial⟩
  · skip
    refine w_seq ?_
    refine w_reg rfl ?_
    refine v_lss lay3 rfl rfl (fun h7 => ?_) (fun h7 => ?_)
    rotate_left
    · exact absurd (by decide) h7
    refine v_nil ?_
    refine q_n ?_
    refine w_seq ?_
    refine w_t rfl ?_
    refine w_skip ?_
    refine q_n ?_
    refine w_seq ?_
    refine w_block ?_
    refine w_seq ?_
    refine w_reg rfl ?_
    refine v_move rfl ?_
    refine v_index (.c _) lay66 lay2 rfl rfl ⟨by decide, by decide, Nat.le_of_ble_eq_true rfl⟩ rfl ?_
    refine v_assign rfl ?_
    refine v_assign rfl ?_
    refine v_nil ?_
    refine q_n ?_
    refine w_seq ?_
    refine w_reg rfl ?_
    refine v_move rfl ?_
    refine v_fa_pt (off' := 1) lay64 rfl rfl rfl ?_
    refine v_load_pt (.c _) lay3 rfl rfl rfl rfl ?_
    refine v_lss lay3 rfl rfl (fun h8 => ?_) (fun h8 => ?_)
    · exact absurd h8 (show ¬ ((2 : Int) < 1) by decide)
    refine v_nil ?_
    refine q_n ?_
    refine w_f rfl ?_
    refine w_skip ?_
    refine q_bn ?_
    refine q_n ?_
    refine w_reg rfl ?_
    refine v_add lay3 rfl rfl (i64r (by omega)) ?_
    refine v_move rfl ?_
    refine v_nil ?_
    refine q_n ?_
    refine ⟨_, _, _, ?_, ⟨3, rfl, by omega, rfl, rfl⟩, by omega⟩
    exact turn [some 0, some 1, some 2] rfl rfl rfl ⟨⟨_, rfl, trc_act⟩, ⟨_, rfl, trc_form⟩, ⟨_, rfl, trc_flat st_sc rfl⟩, trivial⟩ ⟨tr_pt rfl, tr_pt rfl, tr_mun rfl rfl, tr_agg (.cons tr_v (.cons tr_v (.cons tr_v .nil))), tr_v, trivial⟩
  · skip
    refine w_seq ?_
    refine w_reg rfl ?_
    refine v_lss lay3 rfl rfl (fun h9 => ?_) (fun h9 => ?_)
    · exact absurd h9 (by decide)
    refine v_nil ?_
    refine q_n ?_
    refine w_seq ?_
    refine w_f rfl ?_
    refine w_exit ?_
    refine q_e ?_
    refine q_e ?_
    refine q_hit ?_
    refine q_n ?_
    refine w_seq ?_
    refine w_seq ?_
    refine w_reg rfl ?_
    refine v_fa_pt (off' := 2) lay64 rfl rfl rfl ?_
    refine v_load_ptb lay4 rfl rfl rfl rfl (fun h10 => ?_) (fun h10 => ?_)
    · exact absurd (show false = true from h10) (by decide)
    refine v_nil ?_
    refine q_n ?_
    refine w_f rfl ?_
    refine w_skip ?_
    refine q_n ?_
    refine w_seq ?_
    refine w_reg rfl ?_
    refine v_move rfl ?_
    refine v_call (cJoin (aW 4 a b c x) [32] hj0 hj1 hj2) rfl rfl rfl (.cons (vw_mu2 st_sc st_len rfl (rfl)) (.cons vw_v .nil)) ?_
    refine v_assign rfl ?_
    refine v_nil ?_
    refine q_n ?_
    refine w_ret ?_
    refine r_r rfl ?_
    rw [aTx_ok hok (fun q => absurd q.1 (by decide))]
    exact tr_v

theorem cActT5 (a b c : Int) (x : Nat) (hb : x < 2 ^ 32) (hok : actOk 5 a b c (some x)) : PureC X 13 [.agg (act 5 a b c (some x))] (cS (aTx 5 a b c (some x))) := by
  refine PureC.of_body (drawD_ok X) (fun _ _ => Go.Proofs.Tryd.call13 _ _) Go.Proofs.Tryd.func13 rfl (n := 64) rfl ?_
  obtain ⟨-, ha, hbb, hcc, hf, hz0, -⟩ := id hok
  have hz : x ≠ 2147483648 := fun e => hz0 (by rw [e])
  have la := itoa_len (a := a) (by omega)
  have lb := itoa_len (a := b) (by omega)
  have lc := itoa_len (a := c) (by omega)
  have lf := frt_len hb hf hz
  have lw : (wordA[5]).length ≤ 5 := by decide
  refine w_seq ?_
  refine w_reg rfl ?_
  refine v_box (m := 0) (H' := [_]) lay36 rfl rfl rfl ?_
  refine v_assign (c := .v _) rfl ?_
  refine v_nil ?_
  refine q_n ?_
  refine w_seq ?_
  refine w_seq ?_
  refine w_reg rfl ?_
  refine v_callb (cActS _ _ _ _ _) rfl rfl (.cons (vw_pt rfl (.cons .v (.cons .v (.cons .v (.cons .v (.cons .f .nil)))))) .nil) (fun h1 => ?_) (fun h1 => ?_)
  rotate_left
  · exact absurd hok h1
  refine v_not false rfl rfl ?_
  refine v_nil ?_
  refine q_n ?_
  refine w_f rfl ?_
  refine w_skip ?_
  refine q_n ?_
  refine w_seq ?_
  refine w_reg rfl ?_
  refine v_call (cWdA) rfl rfl rfl .nil ?_
  refine v_move_t rfl ?_
  refine v_extract_c rfl rfl ?_
  refine v_extract_c rfl rfl ?_
  refine v_extract_c rfl rfl ?_
  refine v_assign rfl ?_
  refine v_assign rfl ?_
  refine v_assign rfl ?_
  refine v_nil ?_
  refine q_n ?_
  refine w_seq ?_
  refine w_draw [0, 0, 2, 7, 15, 31, 0, 64, 192, 511, 1023] [⟨0, 0, []⟩, ⟨1, 0, []⟩, ⟨2, 0, []⟩, ⟨3, 0, []⟩, ⟨4, 0, []⟩, ⟨5, 0, []⟩, ⟨6, 0, []⟩, ⟨7, 0, []⟩, ⟨8, 0, []⟩, ⟨9, 0, []⟩, ⟨10, 0, []⟩] rfl rfl ?_
  refine d_q rfl rfl rfl rfl rfl ?_
  refine v_move rfl ?_
  refine v_nil ?_
  refine d_q rfl rfl rfl rfl rfl ?_
  refine v_fa_pt (off' := 0) lay36 rfl rfl rfl ?_
  refine v_nil ?_
  refine d_q rfl rfl rfl rfl rfl ?_
  refine v_load_pt (.c _) lay2 rfl rfl rfl rfl ?_
  refine v_nil ?_
  refine d_q rfl rfl rfl rfl rfl ?_
  refine v_idx_e (k := 1) (5) st_len lay45 lay9 rfl rfl rfl (rfl) rfl (rfl) (by decide) ?_
  refine v_nil ?_
  refine d_q rfl rfl rfl rfl rfl ?_
  refine v_load_vw (.c (.v _)) lay9 rfl rfl rfl ?_
  refine v_nil ?_
  refine d_q rfl rfl rfl rfl rfl ?_
  refine v_sadd lay9 rfl rfl (by unfold maxLen; simp only [List.length_cons, List.length_nil]; omega) ?_
  refine v_nil ?_
  refine d_q rfl rfl rfl rfl rfl ?_
  refine v_fa_pt (off' := 1) lay36 rfl rfl rfl ?_
  refine v_nil ?_
  refine d_q rfl rfl rfl rfl rfl ?_
  refine v_load_pt (.c _) lay2 rfl rfl rfl rfl ?_
  refine v_nil ?_
  refine d_call (cDecI _ (by omega)) rfl rfl rfl rfl rfl (.cons vw_v .nil) ?_
  refine d_q rfl rfl rfl rfl rfl ?_
  refine v_sadd lay9 rfl rfl (by unfold maxLen; simp only [List.length_append, List.length_cons, List.length_nil]; omega) ?_
  refine v_nil ?_
  refine d_q rfl rfl rfl rfl rfl ?_
  refine v_assign rfl ?_
  refine v_nil ?_
  refine d_nil ?_
  refine q_n ?_
  refine w_seq ?_
  refine w_seq ?_
  refine w_reg rfl ?_
  refine v_move rfl ?_
  refine v_fa_pt (off' := 0) lay36 rfl rfl rfl ?_
  refine v_load_pt (.c _) lay2 rfl rfl rfl rfl ?_
  refine v_idx_e (k := 1) (5) int_len lay46 lay3 rfl rfl rfl (rfl) rfl (rfl) (by decide) ?_
  refine v_load_vw (.c (.v _)) lay3 rfl rfl rfl ?_
  refine v_gtr lay3 rfl rfl (fun h4 => ?_) (fun h4 => ?_)
  rotate_left
  · exact absurd h4 (by decide)
  refine v_nil ?_
  refine q_n ?_
  refine w_t rfl ?_
  refine w_reg rfl ?_
  refine v_move rfl ?_
  refine v_fa_pt (off' := 2) lay36 rfl rfl rfl ?_
  refine v_load_pt (.c _) lay2 rfl rfl rfl rfl ?_
  refine v_call (cDecI _ (by omega)) rfl rfl rfl (.cons vw_v .nil) ?_
  refine v_sadd lay9 rfl rfl (by unfold maxLen; simp only [List.length_cons, List.length_nil]; omega) ?_
  refine v_sadd lay9 rfl rfl (by unfold maxLen; simp only [List.length_append, List.length_cons, List.length_nil]; omega) ?_
  refine v_assign rfl ?_
  refine v_nil ?_
  refine q_n ?_
  refine w_seq ?_
  refine w_seq ?_
  refine w_reg rfl ?_
  refine v_move rfl ?_
  refine v_fa_pt (off' := 0) lay36 rfl rfl rfl ?_
  refine v_load_pt (.c _) lay2 rfl rfl rfl rfl ?_
  refine v_idx_e (k := 1) (5) int_len lay46 lay3 rfl rfl rfl (rfl) rfl (rfl) (by decide) ?_
  refine v_load_vw (.c (.v _)) lay3 rfl rfl rfl ?_
  refine v_gtr lay3 rfl rfl (fun h6 => ?_) (fun h6 => ?_)
  rotate_left
  · exact absurd h6 (by decide)
  refine v_nil ?_
  refine q_n ?_
  refine w_t rfl ?_
  refine w_reg rfl ?_
  refine v_move rfl ?_
  refine v_fa_pt (off' := 3) lay36 rfl rfl rfl ?_
  refine v_load_pt (.c _) lay2 rfl rfl rfl rfl ?_
  refine v_call (cDecI _ (by omega)) rfl rfl rfl (.cons vw_v .nil) ?_
  refine v_sadd lay9 rfl rfl (by unfold maxLen; simp only [List.length_cons, List.length_nil]; omega) ?_
  refine v_sadd lay9 rfl rfl (by unfold maxLen; simp only [List.length_append, List.length_cons, List.length_nil]; omega) ?_
  refine v_assign rfl ?_
  refine v_nil ?_
  refine q_n ?_
  refine w_seq ?_
  refine w_seq ?_
  refine w_reg rfl ?_
  refine v_move rfl ?_
  refine v_fa_pt (off' := 0) lay36 rfl rfl rfl ?_
  refine v_load_pt (.c _) lay2 rfl rfl rfl rfl ?_
  refine v_idx_e (k := 1) (5) bo_len lay58 lay4 rfl rfl rfl (rfl) rfl (rfl) (by decide) ?_
  refine v_load_vwb lay4 rfl rfl rfl (fun h8 => ?_) (fun h8 => ?_)
  rotate_left
  · exact absurd h8 (by decide)
  refine v_nil ?_
  refine q_n ?_
  refine w_t rfl ?_
  refine w_seq ?_
  refine w_reg rfl ?_
  refine v_fa_pt (off' := 4) lay36 rfl rfl rfl ?_
  refine v_load_pt (.c _) lay32 rfl rfl rfl rfl ?_
  refine v_call (cTld hb hf hz) rfl rfl rfl (.cons vw_f .nil) ?_
  refine v_assign rfl ?_
  refine v_nil ?_
  refine q_n ?_
  refine w_seq ?_
  refine w_seq ?_
  refine w_reg rfl ?_
  refine v_move rfl ?_
  refine v_seql lay9 rfl rfl (fun h9 => ?_) (fun h9 => ?_)
  · have hfe := h9
    refine v_nil ?_
    refine q_n ?_
    refine w_t rfl ?_
    refine w_seq ?_
    refine w_reg rfl ?_
    refine v_assign (c := .v _) rfl ?_
    refine v_nil ?_
    refine q_n ?_
    refine w_ret (q_r (q_r ?_))
    refine r_r rfl ?_
    rw [aTx_bad hok (by decide) (frt_nil.1 hfe)]
    exact tr_v
  have hfe := h9
  refine v_nil ?_
  refine q_n ?_
  refine w_f rfl ?_
  refine w_skip ?_
  refine q_n ?_
  refine w_reg rfl ?_
  refine v_move rfl ?_
  refine v_move rfl ?_
  refine v_sadd lay9 rfl rfl (by unfold maxLen; simp only [List.length_cons, List.length_nil]; omega) ?_
  refine v_sadd lay9 rfl rfl (by unfold maxLen; simp only [List.length_append, List.length_cons, List.length_nil]; omega) ?_
  refine v_assign rfl ?_
  refine v_nil ?_
  refine q_n ?_
  refine w_seq ?_
  refine w_reg rfl ?_
  refine v_move rfl ?_
  refine v_assign rfl ?_
  refine v_nil ?_
  refine q_n ?_
  refine w_ret ?_
  refine r_r rfl ?_
  rw [aTx_ok hok (fun q => hfe (frt_nil.2 q.2))]
  exact a_s (join_5 _ _ _ _ _ _).symm

theorem cActU5 (a b c : Int) (x : Nat) (hb : x < 2 ^ 32) (hok : actOk 5 a b c (some x)) : PureC X 15 [.agg (act 5 a b c (some x))] (cS (aTx 5 a b c (some x))) := by
  refine PureC.of_body (drawD_ok X) (fun _ _ => Go.Proofs.Tryd.call15 _ _) Go.Proofs.Tryd.func15 rfl (n := 57) rfl ?_
  obtain ⟨-, ha, hbb, hcc, hf, hz0, -⟩ := id hok
  have hz : x ≠ 2147483648 := fun e => hz0 (by rw [e])
  have la := itoa_len (a := a) (by omega)
  have lb := itoa_len (a := b) (by omega)
  have lc := itoa_len (a := c) (by omega)
  have lf := frt_len hb hf hz
  have lw : (wordA[5]).length ≤ 5 := by decide
  have hW : aW 5 a b c x = [wordA[5], itoa a, itoa b, itoa c, frt x] := rfl
  have hj0 : aW 5 a b c x ≠ [] := by rw [hW]; exact fun e => by cases e
  have hj1 : (aW 5 a b c x).length ≤ 1048576 := by rw [hW]; exact Nat.le_of_ble_eq_true rfl
  have hj2 : (Lib.join (aW 5 a b c x) [32]).length ≤ 1099511627776 := by
    rw [hW, join_5]
    simp only [List.length_append, List.length_cons, List.length_nil]
    omega
  have hs : Sg (some x) := ⟨fun b e => by
    obtain rfl := Option.some.inj e
    obtain ⟨s, m, e, hr⟩ := num_of_fin hf
    unfold isNaN
    rw [show FloatKind.f32.decode x = _ from hr]; rfl, fun b e => by
    obtain rfl := Option.some.inj e
    exact hb⟩
  refine w_seq ?_
  refine w_reg rfl ?_
  refine v_box (m := 0) (H' := [_]) lay36 rfl rfl rfl ?_
  refine v_assign (c := .v _) rfl ?_
  refine v_nil ?_
  refine q_n ?_
  refine w_seq ?_
  refine w_seq ?_
  refine w_reg rfl ?_
  refine v_load_pt (.agg [_, _, _, _, _]) lay36 rfl rfl rfl rfl ?_
  refine v_callb (cActI _ _ _ _ _ (by assumption)) rfl rfl (.cons (vw_agg (.cons vw_v (.cons vw_v (.cons vw_v (.cons vw_v (.cons vw_f .nil)))))) .nil) (fun h1 => ?_) (fun h1 => ?_)
  rotate_left
  · exact absurd hok h1
  refine v_not false rfl rfl ?_
  refine v_nil ?_
  refine q_n ?_
  refine w_f rfl ?_
  refine w_skip ?_
  refine q_n ?_
  refine w_seq ?_
  refine w_reg rfl ?_
  refine v_fa_pt (off' := 0) lay36 rfl rfl rfl ?_
  refine v_load_pt (.c _) lay2 rfl rfl rfl rfl ?_
  refine v_sub lay2 rfl rfl (i64r (by omega)) ?_
  refine v_idx_av (k := 3) lay65 lay64 rfl rfl rfl (by decide) (fun qZ hqZ eZ => ?_)
  obtain rfl : qZ = 4 := by omega
  refine v_load_av (q := 4) formL (.agg [.v _, .v _, .v _]) fenc_len lay64 rfl rfl rfl (by decide) rfl ?_
  refine v_alloc (m := 1) (H' := [_, ⟨[.v _, .v _, .v _], 64, true⟩]) lay64 rfl rfl ?_
  refine v_store (H' := [_, ⟨[_, _, _], 64, true⟩]) lay64 rfl rfl rfl rfl rfl rfl ?_
  refine v_nil ?_
  refine q_n ?_
  refine w_seq ?_
  refine w_reg rfl ?_
  refine v_fa_pt (off' := 0) lay64 rfl rfl rfl ?_
  refine v_load_pt (.c _) lay9 rfl rfl rfl rfl ?_
  refine v_lit (flat st [_]) (H' := [_, _, _]) lay45 lay9 rfl rfl ⟨by decide, by decide⟩ rfl rfl ?_
  refine v_assign rfl ?_
  refine v_nil ?_
  refine q_n ?_
  refine w_seq ?_
  refine w_seq ?_
  refine w_reg rfl ?_
  refine v_fa_pt (off' := 1) lay36 rfl rfl rfl ?_
  refine v_load_pt (.c _) lay2 rfl rfl rfl rfl ?_
  refine v_fa_pt (off' := 2) lay36 rfl rfl rfl ?_
  refine v_load_pt (.c _) lay2 rfl rfl rfl rfl ?_
  refine v_fa_pt (off' := 3) lay36 rfl rfl rfl ?_
  refine v_load_pt (.c _) lay2 rfl rfl rfl rfl ?_
  refine v_build_a [.v _, .v _, .v _] lay66 lay2 rfl ?_
  refine v_move (c := .v (.int .i64 0)) rfl ?_
  refine v_nil ?_
  refine q_n ?_
  refine w_block ?_
  refine w_loop (fun k sl H => ∃ i : Nat, k = 3 - i ∧ i ≤ 3 ∧ sl = sls [(1, .c (.pt 0 0)), (3, .c (.pt 1 0)), (4, .c (.mu 2 0 (wi 3 formL[4].1 a b c i).length 1)), (26, .agg [.v (.int .i64 a), .v (.int .i64 b), .v (.int .i64 c)]), (27, cI i)] ∧ H = [⟨act 5 a b c (some x), 36, true⟩, ⟨fenc formL[4], 64, true⟩, ⟨flat st (wi 3 formL[4].1 a b c i), 9, true⟩]) ?_ ?_
  · refine ⟨_, _, _, ?_, 0, rfl, by omega, rfl, rfl⟩
    exact turn [some 0, some 1, some 2] rfl rfl rfl ⟨⟨_, rfl, trc_act⟩, ⟨_, rfl, trc_form⟩, ⟨_, rfl, trc_flat st_sc rfl⟩, trivial⟩ ⟨tr_pt rfl, tr_pt rfl, tr_mun rfl rfl, tr_agg (.cons tr_v (.cons tr_v (.cons tr_v .nil))), tr_v, trivial⟩
  rintro k sl H ⟨i, rfl, hi, rfl, rfl⟩
  rcases (by omega : i = 0 ∨ i = 1 ∨ i = 2 ∨ i = 3) with rfl | rfl | rfl | rfl
  · skip
    refine w_seq ?_
    refine w_reg rfl ?_
    refine v_lss lay3 rfl rfl (fun h3 => ?_) (fun h3 => ?_)
    rotate_left
    · exact absurd (by decide) h3
    refine v_nil ?_
    refine q_n ?_
    refine w_seq ?_
    refine w_t rfl ?_
    refine w_skip ?_
    refine q_n ?_
    refine w_seq ?_
    refine w_block ?_
    refine w_seq ?_
    refine w_reg rfl ?_
    refine v_move rfl ?_
    refine v_index (.c _) lay66 lay2 rfl rfl ⟨by decide, by decide, Nat.le_of_ble_eq_true rfl⟩ rfl ?_
    refine v_assign rfl ?_
    refine v_assign rfl ?_
    refine v_nil ?_
    refine q_n ?_
    refine w_seq ?_
    refine w_reg rfl ?_
    refine v_move rfl ?_
    refine v_fa_pt (off' := 1) lay64 rfl rfl rfl ?_
    refine v_load_pt (.c _) lay3 rfl rfl rfl rfl ?_
    refine v_lss lay3 rfl rfl (fun h4 => ?_) (fun h4 => ?_)
    rotate_left
    · exact absurd (show (0 : Int) < 3 by decide) h4
    refine v_nil ?_
    refine q_n ?_
    refine w_t rfl ?_
    refine w_reg rfl ?_
    refine v_move rfl ?_
    refine v_move rfl ?_
    refine v_call (cDeci _ (by omega)) rfl rfl rfl (.cons vw_v .nil) ?_
    refine v_lit (flat st [_]) (H' := [_, _, _, _]) lay45 lay9 rfl rfl ⟨by decide, by decide⟩ rfl rfl ?_
    refine v_app_flat (H' := [_, _, _, _, _]) st_sc st_len lay45 lay9 rfl rfl (by first | rfl | (simp; done)) rfl rfl (by first | rfl | (simp; done)) rfl rfl (⟨Nat.le_of_ble_eq_true rfl, Nat.le_of_ble_eq_true rfl⟩) rfl rfl ?_
    refine v_assign rfl ?_
    refine v_nil ?_
    refine q_bn ?_
    refine q_n ?_
    refine w_reg rfl ?_
    refine v_add lay3 rfl rfl (i64r (by omega)) ?_
    refine v_move rfl ?_
    refine v_nil ?_
    refine q_n ?_
    refine ⟨_, _, _, ?_, ⟨1, rfl, by omega, rfl, rfl⟩, by omega⟩
    exact turn [some 0, some 1, some 4] rfl rfl rfl ⟨⟨_, rfl, trc_act⟩, ⟨_, rfl, trc_form⟩, ⟨_, rfl, trc_flat st_sc rfl⟩, trivial⟩ ⟨tr_pt rfl, tr_pt rfl, tr_mun rfl rfl, tr_agg (.cons tr_v (.cons tr_v (.cons tr_v .nil))), tr_v, trivial⟩
  · skip
    refine w_seq ?_
    refine w_reg rfl ?_
    refine v_lss lay3 rfl rfl (fun h5 => ?_) (fun h5 => ?_)
    rotate_left
    · exact absurd (by decide) h5
    refine v_nil ?_
    refine q_n ?_
    refine w_seq ?_
    refine w_t rfl ?_
    refine w_skip ?_
    refine q_n ?_
    refine w_seq ?_
    refine w_block ?_
    refine w_seq ?_
    refine w_reg rfl ?_
    refine v_move rfl ?_
    refine v_index (.c _) lay66 lay2 rfl rfl ⟨by decide, by decide, Nat.le_of_ble_eq_true rfl⟩ rfl ?_
    refine v_assign rfl ?_
    refine v_assign rfl ?_
    refine v_nil ?_
    refine q_n ?_
    refine w_seq ?_
    refine w_reg rfl ?_
    refine v_move rfl ?_
    refine v_fa_pt (off' := 1) lay64 rfl rfl rfl ?_
    refine v_load_pt (.c _) lay3 rfl rfl rfl rfl ?_
    refine v_lss lay3 rfl rfl (fun h6 => ?_) (fun h6 => ?_)
    rotate_left
    · exact absurd (show (1 : Int) < 3 by decide) h6
    refine v_nil ?_
    refine q_n ?_
    refine w_t rfl ?_
    refine w_reg rfl ?_
    refine v_move rfl ?_
    refine v_move rfl ?_
    refine v_call (cDeci _ (by omega)) rfl rfl rfl (.cons vw_v .nil) ?_
    refine v_lit (flat st [_]) (H' := [_, _, _, _]) lay45 lay9 rfl rfl ⟨by decide, by decide⟩ rfl rfl ?_
    refine v_app_flat (H' := [_, _, _, _, _]) st_sc st_len lay45 lay9 rfl rfl (by first | rfl | (simp; done)) rfl rfl (by first | rfl | (simp; done)) rfl rfl (⟨Nat.le_of_ble_eq_true rfl, Nat.le_of_ble_eq_true rfl⟩) rfl rfl ?_
    refine v_assign rfl ?_
    refine v_nil ?_
    refine q_bn ?_
    refine q_n ?_
    refine w_reg rfl ?_
    refine v_add lay3 rfl rfl (i64r (by omega)) ?_
    refine v_move rfl ?_
    refine v_nil ?_
    refine q_n ?_
    refine ⟨_, _, _, ?_, ⟨2, rfl, by omega, rfl, rfl⟩, by omega⟩
    exact turn [some 0, some 1, some 4] rfl rfl rfl ⟨⟨_, rfl, trc_act⟩, ⟨_, rfl, trc_form⟩, ⟨_, rfl, trc_flat st_sc rfl⟩, trivial⟩ ⟨tr_pt rfl, tr_pt rfl, tr_mun rfl rfl, tr_agg (.cons tr_v (.cons tr_v (.cons tr_v .nil))), tr_v, trivial⟩
  · skip
    refine w_seq ?_
    refine w_reg rfl ?_
    refine v_lss lay3 rfl rfl (fun h7 => ?_) (fun h7 => ?_)
    rotate_left
    · exact absurd (by decide) h7
    refine v_nil ?_
    refine q_n ?_
    refine w_seq ?_
    refine w_t rfl ?_
    refine w_skip ?_
    refine q_n ?_
    refine w_seq ?_
    refine w_block ?_
    refine w_seq ?_
    refine w_reg rfl ?_
    refine v_move rfl ?_
    refine v_index (.c _) lay66 lay2 rfl rfl ⟨by decide, by decide, Nat.le_of_ble_eq_true rfl⟩ rfl ?_
    refine v_assign rfl ?_
    refine v_assign rfl ?_
    refine v_nil ?_
    refine q_n ?_
    refine w_seq ?_
    refine w_reg rfl ?_
    refine v_move rfl ?_
    refine v_fa_pt (off' := 1) lay64 rfl rfl rfl ?_
    refine v_load_pt (.c _) lay3 rfl rfl rfl rfl ?_
    refine v_lss lay3 rfl rfl (fun h8 => ?_) (fun h8 => ?_)
    rotate_left
    · exact absurd (show (2 : Int) < 3 by decide) h8
    refine v_nil ?_
    refine q_n ?_
    refine w_t rfl ?_
    refine w_reg rfl ?_
    refine v_move rfl ?_
    refine v_move rfl ?_
    refine v_call (cDeci _ (by omega)) rfl rfl rfl (.cons vw_v .nil) ?_
    refine v_lit (flat st [_]) (H' := [_, _, _, _]) lay45 lay9 rfl rfl ⟨by decide, by decide⟩ rfl rfl ?_
    refine v_app_flat (H' := [_, _, _, _, _]) st_sc st_len lay45 lay9 rfl rfl (by first | rfl | (simp; done)) rfl rfl (by first | rfl | (simp; done)) rfl rfl (⟨Nat.le_of_ble_eq_true rfl, Nat.le_of_ble_eq_true rfl⟩) rfl rfl ?_
    refine v_assign rfl ?_
    refine v_nil ?_
    refine q_bn ?_
    refine q_n ?_
    refine w_reg rfl ?_
    refine v_add lay3 rfl rfl (i64r (by omega)) ?_
    refine v_move rfl ?_
    refine v_nil ?_
    refine q_n ?_
    refine ⟨_, _, _, ?_, ⟨3, rfl, by omega, rfl, rfl⟩, by omega⟩
    exact turn [some 0, some 1, some 4] rfl rfl rfl ⟨⟨_, rfl, trc_act⟩, ⟨_, rfl, trc_form⟩, ⟨_, rfl, trc_flat st_sc rfl⟩, trivial⟩ ⟨tr_pt rfl, tr_pt rfl, tr_mun rfl rfl, tr_agg (.cons tr_v (.cons tr_v (.cons tr_v .nil))), tr_v, trivial⟩
  · skip
    refine w_seq ?_
    refine w_reg rfl ?_
    refine v_lss lay3 rfl rfl (fun h9 => ?_) (fun h9 => ?_)
    · exact absurd h9 (by decide)
    refine v_nil ?_
    refine q_n ?_
    refine w_seq ?_
    refine w_f rfl ?_
    refine w_exit ?_
    refine q_e ?_
    refine q_e ?_
    refine q_hit ?_
    refine q_n ?_
    refine w_seq ?_
    refine w_seq ?_
    refine w_reg rfl ?_
    refine v_fa_pt (off' := 2) lay64 rfl rfl rfl ?_
    refine v_load_ptb lay4 rfl rfl rfl rfl (fun h10 => ?_) (fun h10 => ?_)
    rotate_left
    · exact absurd (show true = false from h10) (by decide)
    refine v_nil ?_
    refine q_n ?_
    refine w_t rfl ?_
    refine w_seq ?_
    refine w_reg rfl ?_
    refine v_fa_pt (off' := 4) lay36 rfl rfl rfl ?_
    refine v_load_pt (.c _) lay32 rfl rfl rfl rfl ?_
    refine dec_split (p := frOk x = true) (fun h11 => ?_) (fun h11 => ?_)
    rotate_left
    · refine v_call (cFr2 hb hf hz h11) rfl rfl rfl (.cons vw_f .nil) ?_
      refine v_move_t rfl ?_
      refine v_extract_c rfl rfl ?_
      refine v_extract_c rfl rfl ?_
      refine v_assign rfl ?_
      refine v_assign rfl ?_
      refine v_nil ?_
      refine q_n ?_
      refine w_seq ?_
      refine w_seq ?_
      refine w_reg rfl ?_
      refine v_move rfl ?_
      refine v_not true rfl rfl ?_
      refine v_nil ?_
      refine q_n ?_
      refine w_t rfl ?_
      refine w_seq ?_
      refine w_reg rfl ?_
      refine v_assign (c := .v _) rfl ?_
      refine v_nil ?_
      refine q_n ?_
      refine w_ret (q_r (q_r ?_))
      refine r_r rfl ?_
      rw [aTx_bad hok (by decide) (Bool.eq_false_iff.2 (by assumption))]
      exact tr_v
    refine v_call (cFr1 hb hf hz h11) rfl rfl rfl (.cons vw_f .nil) ?_
    refine v_move_t rfl ?_
    refine v_extract_c rfl rfl ?_
    refine v_extract_c rfl rfl ?_
    refine v_assign rfl ?_
    refine v_assign rfl ?_
    refine v_nil ?_
    refine q_n ?_
    refine w_seq ?_
    refine w_seq ?_
    refine w_reg rfl ?_
    refine v_move rfl ?_
    refine v_not false rfl rfl ?_
    refine v_nil ?_
    refine q_n ?_
    refine w_f rfl ?_
    refine w_skip ?_
    refine q_n ?_
    refine w_reg rfl ?_
    refine v_move rfl ?_
    refine v_move rfl ?_
    refine v_lit (flat st [_]) (H' := [_, _, _, _]) lay45 lay9 rfl rfl ⟨by decide, by decide⟩ rfl rfl ?_
    refine v_app_flat (H' := [_, _, _, _, _]) st_sc st_len lay45 lay9 rfl rfl (by first | rfl | (simp; done)) rfl rfl (by first | rfl | (simp; done)) rfl rfl (⟨Nat.le_of_ble_eq_true rfl, Nat.le_of_ble_eq_true rfl⟩) rfl rfl ?_
    refine v_assign rfl ?_
    refine v_nil ?_
    refine q_n ?_
    refine w_seq ?_
    refine w_reg rfl ?_
    refine v_move rfl ?_
    refine v_call (cJoin (aW 5 a b c x) [32] hj0 hj1 hj2) rfl rfl rfl (.cons (vw_mu2 st_sc st_len rfl (rfl)) (.cons vw_v .nil)) ?_
    refine v_assign rfl ?_
    refine v_nil ?_
    refine q_n ?_
    refine w_ret ?_
    refine r_r rfl ?_
    rw [aTx_ok hok (fun q => absurd (q.2.symm.trans (by assumption : frOk x = true)) (by decide))]
    exact tr_v

theorem cActT6 (a b c : Int) (x : Nat) (hb : x < 2 ^ 32) (hok : actOk 6 a b c (some x)) : PureC X 13 [.agg (act 6 a b c (some x))] (cS (aTx 6 a b c (some x))) := by
  refine PureC.of_body (drawD_ok X) (fun _ _ => Go.Proofs.Tryd.call13 _ _) Go.Proofs.Tryd.func13 rfl (n := 64) rfl ?_
  obtain ⟨-, ha, hbb, hcc, hf, hz0, -⟩ := id hok
  have hz : x ≠ 2147483648 := fun e => hz0 (by rw [e])
  have la := itoa_len (a := a) (by omega)
  have lb := itoa_len (a := b) (by omega)
  have lc := itoa_len (a := c) (by omega)
  have lf := frt_len hb hf hz
  have lw : (wordA[6]).length ≤ 5 := by decide
  refine w_seq ?_
  refine w_reg rfl ?_
  refine v_box (m := 0) (H' := [_]) lay36 rfl rfl rfl ?_
  refine v_assign (c := .v _) rfl ?_
  refine v_nil ?_
  refine q_n ?_
  refine w_seq ?_
  refine w_seq ?_
  refine w_reg rfl ?_
  refine v_callb (cActS _ _ _ _ _) rfl rfl (.cons (vw_pt rfl (.cons .v (.cons .v (.cons .v (.cons .v (.cons .f .nil)))))) .nil) (fun h1 => ?_) (fun h1 => ?_)
  rotate_left
  · exact absurd hok h1
  refine v_not false rfl rfl ?_
  refine v_nil ?_
  refine q_n ?_
  refine w_f rfl ?_
  refine w_skip ?_
  refine q_n ?_
  refine w_seq ?_
  refine w_reg rfl ?_
  refine v_call (cWdA) rfl rfl rfl .nil ?_
  refine v_move_t rfl ?_
  refine v_extract_c rfl rfl ?_
  refine v_extract_c rfl rfl ?_
  refine v_extract_c rfl rfl ?_
  refine v_assign rfl ?_
  refine v_assign rfl ?_
  refine v_assign rfl ?_
  refine v_nil ?_
  refine q_n ?_
  refine w_seq ?_
  refine w_draw [0, 0, 2, 7, 15, 31, 0, 64, 192, 511, 1023] [⟨0, 0, []⟩, ⟨1, 0, []⟩, ⟨2, 0, []⟩, ⟨3, 0, []⟩, ⟨4, 0, []⟩, ⟨5, 0, []⟩, ⟨6, 0, []⟩, ⟨7, 0, []⟩, ⟨8, 0, []⟩, ⟨9, 0, []⟩, ⟨10, 0, []⟩] rfl rfl ?_
  refine d_q rfl rfl rfl rfl rfl ?_
  refine v_move rfl ?_
  refine v_nil ?_
  refine d_q rfl rfl rfl rfl rfl ?_
  refine v_fa_pt (off' := 0) lay36 rfl rfl rfl ?_
  refine v_nil ?_
  refine d_q rfl rfl rfl rfl rfl ?_
  refine v_load_pt (.c _) lay2 rfl rfl rfl rfl ?_
  refine v_nil ?_
  refine d_q rfl rfl rfl rfl rfl ?_
  refine v_idx_e (k := 1) (6) st_len lay45 lay9 rfl rfl rfl (rfl) rfl (rfl) (by decide) ?_
  refine v_nil ?_
  refine d_q rfl rfl rfl rfl rfl ?_
  refine v_load_vw (.c (.v _)) lay9 rfl rfl rfl ?_
  refine v_nil ?_
  refine d_q rfl rfl rfl rfl rfl ?_
  refine v_sadd lay9 rfl rfl (by unfold maxLen; simp only [List.length_cons, List.length_nil]; omega) ?_
  refine v_nil ?_
  refine d_q rfl rfl rfl rfl rfl ?_
  refine v_fa_pt (off' := 1) lay36 rfl rfl rfl ?_
  refine v_nil ?_
  refine d_q rfl rfl rfl rfl rfl ?_
  refine v_load_pt (.c _) lay2 rfl rfl rfl rfl ?_
  refine v_nil ?_
  refine d_call (cDecI _ (by omega)) rfl rfl rfl rfl rfl (.cons vw_v .nil) ?_
  refine d_q rfl rfl rfl rfl rfl ?_
  refine v_sadd lay9 rfl rfl (by unfold maxLen; simp only [List.length_append, List.length_cons, List.length_nil]; omega) ?_
  refine v_nil ?_
  refine d_q rfl rfl rfl rfl rfl ?_
  refine v_assign rfl ?_
  refine v_nil ?_
  refine d_nil ?_
  refine q_n ?_
  refine w_seq ?_
  refine w_seq ?_
  refine w_reg rfl ?_
  refine v_move rfl ?_
  refine v_fa_pt (off' := 0) lay36 rfl rfl rfl ?_
  refine v_load_pt (.c _) lay2 rfl rfl rfl rfl ?_
  refine v_idx_e (k := 1) (6) int_len lay46 lay3 rfl rfl rfl (rfl) rfl (rfl) (by decide) ?_
  refine v_load_vw (.c (.v _)) lay3 rfl rfl rfl ?_
  refine v_gtr lay3 rfl rfl (fun h4 => ?_) (fun h4 => ?_)
  · exact absurd h4 (by decide)
  refine v_nil ?_
  refine q_n ?_
  refine w_f rfl ?_
  refine w_skip ?_
  refine q_n ?_
  refine w_seq ?_
  refine w_seq ?_
  refine w_reg rfl ?_
  refine v_move rfl ?_
  refine v_fa_pt (off' := 0) lay36 rfl rfl rfl ?_
  refine v_load_pt (.c _) lay2 rfl rfl rfl rfl ?_
  refine v_idx_e (k := 1) (6) int_len lay46 lay3 rfl rfl rfl (rfl) rfl (rfl) (by decide) ?_
  refine v_load_vw (.c (.v _)) lay3 rfl rfl rfl ?_
  refine v_gtr lay3 rfl rfl (fun h6 => ?_) (fun h6 => ?_)
  · exact absurd h6 (by decide)
  refine v_nil ?_
  refine q_n ?_
  refine w_f rfl ?_
  refine w_skip ?_
  refine q_n ?_
  refine w_seq ?_
  refine w_seq ?_
  refine w_reg rfl ?_
  refine v_move rfl ?_
  refine v_fa_pt (off' := 0) lay36 rfl rfl rfl ?_
  refine v_load_pt (.c _) lay2 rfl rfl rfl rfl ?_
  refine v_idx_e (k := 1) (6) bo_len lay58 lay4 rfl rfl rfl (rfl) rfl (rfl) (by decide) ?_
  refine v_load_vwb lay4 rfl rfl rfl (fun h8 => ?_) (fun h8 => ?_)
  · exact absurd h8 (by decide)
  refine v_nil ?_
  refine q_n ?_
  refine w_f rfl ?_
  refine w_skip ?_
  refine q_n ?_
  refine w_seq ?_
  refine w_reg rfl ?_
  refine v_move rfl ?_
  refine v_assign rfl ?_
  refine v_nil ?_
  refine q_n ?_
  refine w_ret ?_
  refine r_r rfl ?_
  rw [aTx_ok hok (fun q => absurd q.1 (by decide))]
  exact a_s (join_2 _ _ _).symm

theorem cActU6 (a b c : Int) (x : Nat) (hb : x < 2 ^ 32) (hok : actOk 6 a b c (some x)) : PureC X 15 [.agg (act 6 a b c (some x))] (cS (aTx 6 a b c (some x))) := by
  refine PureC.of_body (drawD_ok X) (fun _ _ => Go.Proofs.Tryd.call15 _ _) Go.Proofs.Tryd.func15 rfl (n := 57) rfl ?_
  obtain ⟨-, ha, hbb, hcc, hf, hz0, -⟩ := id hok
  have hz : x ≠ 2147483648 := fun e => hz0 (by rw [e])
  have la := itoa_len (a := a) (by omega)
  have lb := itoa_len (a := b) (by omega)
  have lc := itoa_len (a := c) (by omega)
  have lf := frt_len hb hf hz
  have lw : (wordA[6]).length ≤ 5 := by decide
  have hW : aW 6 a b c x = [wordA[6], itoa a] := rfl
  have hj0 : aW 6 a b c x ≠ [] := by rw [hW]; exact fun e => by cases e
  have hj1 : (aW 6 a b c x).length ≤ 1048576 := by rw [hW]; exact Nat.le_of_ble_eq_true rfl
  have hj2 : (Lib.join (aW 6 a b c x) [32]).length ≤ 1099511627776 := by
    rw [hW, join_2]
    simp only [List.length_append, List.length_cons, List.length_nil]
    omega
  have hs : Sg (some x) := ⟨fun b e => by
    obtain rfl := Option.some.inj e
    obtain ⟨s, m, e, hr⟩ := num_of_fin hf
    unfold isNaN
    rw [show FloatKind.f32.decode x = _ from hr]; rfl, fun b e => by
    obtain rfl := Option.some.inj e
    exact hb⟩
  refine w_seq ?_
  refine w_reg rfl ?_
  refine v_box (m := 0) (H' := [_]) lay36 rfl rfl rfl ?_
  refine v_assign (c := .v _) rfl ?_
  refine v_nil ?_
  refine q_n ?_
  refine w_seq ?_
  refine w_seq ?_
  refine w_reg rfl ?_
  refine v_load_pt (.agg [_, _, _, _, _]) lay36 rfl rfl rfl rfl ?_
  refine v_callb (cActI _ _ _ _ _ (by assumption)) rfl rfl (.cons (vw_agg (.cons vw_v (.cons vw_v (.cons vw_v (.cons vw_v (.cons vw_f .nil)))))) .nil) (fun h1 => ?_) (fun h1 => ?_)
  rotate_left
  · exact absurd hok h1
  refine v_not false rfl rfl ?_
  refine v_nil ?_
  refine q_n ?_
  refine w_f rfl ?_
  refine w_skip ?_
  refine q_n ?_
  refine w_seq ?_
  refine w_reg rfl ?_
  refine v_fa_pt (off' := 0) lay36 rfl rfl rfl ?_
  refine v_load_pt (.c _) lay2 rfl rfl rfl rfl ?_
  refine v_sub lay2 rfl rfl (i64r (by omega)) ?_
  refine v_idx_av (k := 3) lay65 lay64 rfl rfl rfl (by decide) (fun qZ hqZ eZ => ?_)
  obtain rfl : qZ = 5 := by omega
  refine v_load_av (q := 5) formL (.agg [.v _, .v _, .v _]) fenc_len lay64 rfl rfl rfl (by decide) rfl ?_
  refine v_alloc (m := 1) (H' := [_, ⟨[.v _, .v _, .v _], 64, true⟩]) lay64 rfl rfl ?_
  refine v_store (H' := [_, ⟨[_, _, _], 64, true⟩]) lay64 rfl rfl rfl rfl rfl rfl ?_
  refine v_nil ?_
  refine q_n ?_
  refine w_seq ?_
  refine w_reg rfl ?_
  refine v_fa_pt (off' := 0) lay64 rfl rfl rfl ?_
  refine v_load_pt (.c _) lay9 rfl rfl rfl rfl ?_
  refine v_lit (flat st [_]) (H' := [_, _, _]) lay45 lay9 rfl rfl ⟨by decide, by decide⟩ rfl rfl ?_
  refine v_assign rfl ?_
  refine v_nil ?_
  refine q_n ?_
  refine w_seq ?_
  refine w_seq ?_
  refine w_reg rfl ?_
  refine v_fa_pt (off' := 1) lay36 rfl rfl rfl ?_
  refine v_load_pt (.c _) lay2 rfl rfl rfl rfl ?_
  refine v_fa_pt (off' := 2) lay36 rfl rfl rfl ?_
  refine v_load_pt (.c _) lay2 rfl rfl rfl rfl ?_
  refine v_fa_pt (off' := 3) lay36 rfl rfl rfl ?_
  refine v_load_pt (.c _) lay2 rfl rfl rfl rfl ?_
  refine v_build_a [.v _, .v _, .v _] lay66 lay2 rfl ?_
  refine v_move (c := .v (.int .i64 0)) rfl ?_
  refine v_nil ?_
  refine q_n ?_
  refine w_block ?_
  refine w_loop (fun k sl H => ∃ i : Nat, k = 3 - i ∧ i ≤ 3 ∧ sl = sls [(1, .c (.pt 0 0)), (3, .c (.pt 1 0)), (4, .c (.mu 2 0 (wi 1 formL[5].1 a b c i).length 1)), (26, .agg [.v (.int .i64 a), .v (.int .i64 b), .v (.int .i64 c)]), (27, cI i)] ∧ H = [⟨act 6 a b c (some x), 36, true⟩, ⟨fenc formL[5], 64, true⟩, ⟨flat st (wi 1 formL[5].1 a b c i), 9, true⟩]) ?_ ?_
  · refine ⟨_, _, _, ?_, 0, rfl, by omega, rfl, rfl⟩
    exact turn [some 0, some 1, some 2] rfl rfl rfl ⟨⟨_, rfl, trc_act⟩, ⟨_, rfl, trc_form⟩, ⟨_, rfl, trc_flat st_sc rfl⟩, trivial⟩ ⟨tr_pt rfl, tr_pt rfl, tr_mun rfl rfl, tr_agg (.cons tr_v (.cons tr_v (.cons tr_v .nil))), tr_v, trivial⟩
  rintro k sl H ⟨i, rfl, hi, rfl, rfl⟩
  rcases (by omega : i = 0 ∨ i = 1 ∨ i = 2 ∨ i = 3) with rfl | rfl | rfl | rfl
  · skip
    refine w_seq ?_
    refine w_reg rfl ?_
    refine v_lss lay3 rfl rfl (fun h3 => ?_) (fun h3 => ?_)
    rotate_left
    · exact absurd (by decide) h3
    refine v_nil ?_
    refine q_n ?_
    refine w_seq ?_
    refine w_t rfl ?_
    refine w_skip ?_
    refine q_n ?_
    refine w_seq ?_
    refine w_block ?_
    refine w_seq ?_
    refine w_reg rfl ?_
    refine v_move rfl ?_
    refine v_index (.c _) lay66 lay2 rfl rfl ⟨by decide, by decide, Nat.le_of_ble_eq_true rfl⟩ rfl ?_
    refine v_assign rfl ?_
    refine v_assign rfl ?_
    refine v_nil ?_
    refine q_n ?_
    refine w_seq ?_
    refine w_reg rfl ?_
    refine v_move rfl ?_
    refine v_fa_pt (off' := 1) lay64 rfl rfl rfl ?_
    refine v_load_pt (.c _) lay3 rfl rfl rfl rfl ?_
    refine v_lss lay3 rfl rfl (fun h4 => ?_) (fun h4 => ?_)
    rotate_left
    · exact absurd (show (0 : Int) < 1 by decide) h4
    refine v_nil ?_
    refine q_n ?_
    refine w_t rfl ?_
    refine w_reg rfl ?_
    refine v_move rfl ?_
    refine v_move rfl ?_
    refine v_call (cDeci _ (by omega)) rfl rfl rfl (.cons vw_v .nil) ?_
    refine v_lit (flat st [_]) (H' := [_, _, _, _]) lay45 lay9 rfl rfl ⟨by decide, by decide⟩ rfl rfl ?_
    refine v_app_flat (H' := [_, _, _, _, _]) st_sc st_len lay45 lay9 rfl rfl (by first | rfl | (simp; done)) rfl rfl (by first | rfl | (simp; done)) rfl rfl (⟨Nat.le_of_ble_eq_true rfl, Nat.le_of_ble_eq_true rfl⟩) rfl rfl ?_
    refine v_assign rfl ?_
    refine v_nil ?_
    refine q_bn ?_
    refine q_n ?_
    refine w_reg rfl ?_
    refine v_add lay3 rfl rfl (i64r (by omega)) ?_
    refine v_move rfl ?_
    refine v_nil ?_
    refine q_n ?_
    refine ⟨_, _, _, ?_, ⟨1, rfl, by omega, rfl, rfl⟩, by omega⟩
    exact turn [some 0, some 1, some 4] rfl rfl rfl ⟨⟨_, rfl, trc_act⟩, ⟨_, rfl, trc_form⟩, ⟨_, rfl, trc_flat st_sc rfl⟩, trivial⟩ ⟨tr_pt rfl, tr_pt rfl, tr_mun rfl rfl, tr_agg (.cons tr_v (.cons tr_v (.cons tr_v .nil))), tr_v, trivial⟩
  · skip
    refine w_seq ?_
    refine w_reg rfl ?_
    refine v_lss lay3 rfl rfl (fun h5 => ?_) (fun h5 => ?_)
    rotate_left
    · exact absurd (by decide) h5
    refine v_nil ?_
    refine q_n ?_
    refine w_seq ?_
    refine w_t rfl ?_
    refine w_skip ?_
    refine q_n ?_
    refine w_seq ?_
    refine w_block ?_
    refine w_seq ?_
    refine w_reg rfl ?_
    refine v_move rfl ?_
    refine v_index (.c _) lay66 lay2 rfl rfl ⟨by decide, by decide, Nat.le_of_ble_eq_true rfl⟩ rfl ?_
    refine v_assign rfl ?_
    refine v_assign rfl ?_
    refine v_nil ?_
    refine q_n ?_
    refine w_seq ?_
    refine w_reg rfl ?_
    refine v_move rfl ?_
    refine v_fa_pt (off' := 1) lay64 rfl rfl rfl ?_
    refine v_load_pt (.c _) lay3 rfl rfl rfl rfl ?_
    refine v_lss lay3 rfl rfl (fun h6 => ?_) (fun h6 => ?_)
    · exact absurd h6 (show ¬ ((1 : Int) < 1) by decide)
    refine v_nil ?_
    refine q_n ?_
    refine w_f rfl ?_
    refine w_skip ?_
    refine q_bn ?_
    refine q_n ?_
    refine w_reg rfl ?_
    refine v_add lay3 rfl rfl (i64r (by omega)) ?_
    refine v_move rfl ?_
    refine v_nil ?_
    refine q_n ?_
    refine ⟨_, _, _, ?_, ⟨2, rfl, by omega, rfl, rfl⟩, by omega⟩
    exact turn [some 0, some 1, some 2] rfl rfl rfl ⟨⟨_, rfl, trc_act⟩, ⟨_, rfl, trc_form⟩, ⟨_, rfl, trc_flat st_sc rfl⟩, trivial⟩ ⟨tr_pt rfl, tr_pt rfl, tr_mun rfl rfl, tr_agg (.cons tr_v (.cons tr_v (.cons tr_v .nil))), tr_v, trivial⟩
  · skip
    refine w_seq ?_
    refine w_reg rfl ?_
    refine v_lss lay3 rfl rfl (fun h7 => ?_) (fun h7 => ?_)
    rotate_left
    · exact absurd (by decide) h7
    refine v_nil ?_
    refine q_n ?_
    refine w_seq ?_
    refine w_t rfl ?_
    refine w_skip ?_
    refine q_n ?_
    refine w_seq ?_
    refine w_block ?_
    refine w_seq ?_
    refine w_reg rfl ?_
    refine v_move rfl ?_
    refine v_index (.c _) lay66 lay2 rfl rfl ⟨by decide, by decide, Nat.le_of_ble_eq_true rfl⟩ rfl ?_
    refine v_assign rfl ?_
    refine v_assign rfl ?_
    refine v_nil ?_
    refine q_n ?_
    refine w_seq ?_
    refine w_reg rfl ?_
    refine v_move rfl ?_
    refine v_fa_pt (off' := 1) lay64 rfl rfl rfl ?_
    refine v_load_pt (.c _) lay3 rfl rfl rfl rfl ?_
    refine v_lss lay3 rfl rfl (fun h8 => ?_) (fun h8 => ?_)
    · exact absurd h8 (show ¬ ((2 : Int) < 1) by decide)
    refine v_nil ?_
    refine q_n ?_
    refine w_f rfl ?_
    refine w_skip ?_
    refine q_bn ?_
    refine q_n ?_
    refine w_reg rfl ?_
    refine v_add lay3 rfl rfl (i64r (by omega)) ?_
    refine v_move rfl ?_
    refine v_nil ?_
    refine q_n ?_
    refine ⟨_, _, _, ?_, ⟨3, rfl, by omega, rfl, rfl⟩, by omega⟩
    exact turn [some 0, some 1, some 2] rfl rfl rfl ⟨⟨_, rfl, trc_act⟩, ⟨_, rfl, trc_form⟩, ⟨_, rfl, trc_flat st_sc rfl⟩, trivial⟩ ⟨tr_pt rfl, tr_pt rfl, tr_mun rfl rfl, tr_agg (.cons tr_v (.cons tr_v (.cons tr_v .nil))), tr_v, trivial⟩
  · skip
    refine w_seq ?_
    refine w_reg rfl ?_
    refine v_lss lay3 rfl rfl (fun h9 => ?_) (fun h9 => ?_)
    · exact absurd h9 (by decide)
    refine v_nil ?_
    refine q_n ?_
    refine w_seq ?_
    refine w_f rfl ?_
    refine w_exit ?_
    refine q_e ?_
    refine q_e ?_
    refine q_hit ?_
    refine q_n ?_
    refine w_seq ?_
    refine w_seq ?_
    refine w_reg rfl ?_
    refine v_fa_pt (off' := 2) lay64 rfl rfl rfl ?_
    refine v_load_ptb lay4 rfl rfl rfl rfl (fun h10 => ?_) (fun h10 => ?_)
    · exact absurd (show false = true from h10) (by decide)
    refine v_nil ?_
    refine q_n ?_
    refine w_f rfl ?_
    refine w_skip ?_
    refine q_n ?_
    refine w_seq ?_
    refine w_reg rfl ?_
    refine v_move rfl ?_
    refine v_call (cJoin (aW 6 a b c x) [32] hj0 hj1 hj2) rfl rfl rfl (.cons (vw_mu2 st_sc st_len rfl (rfl)) (.cons vw_v .nil)) ?_
    refine v_assign rfl ?_
    refine v_nil ?_
    refine q_n ?_
    refine w_ret ?_
    refine r_r rfl ?_
    rw [aTx_ok hok (fun q => absurd q.1 (by decide))]
    exact tr_v

theorem cActTn (k a b c : Int) (x : Option Nat) (hno : ¬ actOk k a b c x) : PureC X 13 [.agg (act k a b c x)] (cS (aTx k a b c x)) := by
  refine PureC.of_body (drawD_ok X) (fun _ _ => Go.Proofs.Tryd.call13 _ _) Go.Proofs.Tryd.func13 rfl (n := 64) rfl ?_
  refine w_seq ?_
  refine w_reg rfl ?_
  refine v_box (m := 0) (H' := [_]) lay36 rfl rfl rfl ?_
  refine v_assign (c := .v _) rfl ?_
  refine v_nil ?_
  refine q_n ?_
  refine w_seq ?_
  refine w_seq ?_
  refine w_reg rfl ?_
  refine v_callb (cActS _ _ _ _ _) rfl rfl (.cons (vw_pt rfl (.cons .v (.cons .v (.cons .v (.cons .v (.cons .f .nil)))))) .nil) (fun h1 => ?_) (fun h1 => ?_)
  · exact absurd h1 hno
  refine v_not true rfl rfl ?_
  refine v_nil ?_
  refine q_n ?_
  refine w_t rfl ?_
  refine w_seq ?_
  refine w_reg rfl ?_
  refine v_assign (c := .v _) rfl ?_
  refine v_nil ?_
  refine q_n ?_
  refine w_ret (q_r ?_)
  refine r_r rfl ?_
  rw [aTx_no hno]
  exact tr_v

theorem cActUn (k a b c : Int) (x : Option Nat) (hx : Sg x) (hno : ¬ actOk k a b c x) : PureC X 15 [.agg (act k a b c x)] (cS (aTx k a b c x)) := by
  refine PureC.of_body (drawD_ok X) (fun _ _ => Go.Proofs.Tryd.call15 _ _) Go.Proofs.Tryd.func15 rfl (n := 57) rfl ?_
  refine w_seq ?_
  refine w_reg rfl ?_
  refine v_box (m := 0) (H' := [_]) lay36 rfl rfl rfl ?_
  refine v_assign (c := .v _) rfl ?_
  refine v_nil ?_
  refine q_n ?_
  refine w_seq ?_
  refine w_seq ?_
  refine w_reg rfl ?_
  refine v_load_pt (.agg [_, _, _, _, _]) lay36 rfl rfl rfl rfl ?_
  refine v_callb (cActI _ _ _ _ _ (by assumption)) rfl rfl (.cons (vw_agg (.cons vw_v (.cons vw_v (.cons vw_v (.cons vw_v (.cons vw_f .nil)))))) .nil) (fun h1 => ?_) (fun h1 => ?_)
  · exact absurd h1 hno
  refine v_not true rfl rfl ?_
  refine v_nil ?_
  refine q_n ?_
  refine w_t rfl ?_
  refine w_seq ?_
  refine w_reg rfl ?_
  refine v_assign (c := .v _) rfl ?_
  refine v_nil ?_
  refine q_n ?_
  refine w_ret (q_r ?_)
  refine r_r rfl ?_
  rw [aTx_no hno]
  exact tr_v

theorem cATS (k a b c : Int) (x : Option Nat) (hx : Sg x) : PureC X 13 [.agg (act k a b c x)] (cS (aTx k a b c x)) := by
  by_cases hok : actOk k a b c x
  · cases x with
    | none => exact absurd hok.2.2.2.2.1 (by decide)
    | some x =>
      have hb := hx.2 x rfl
      have hk := hok.1
      rcases (by omega : k = 1 ∨ k = 2 ∨ k = 3 ∨ k = 4 ∨ k = 5 ∨ k = 6) with rfl | rfl | rfl | rfl | rfl | rfl
      · exact cActT1 a b c x hb hok
      · exact cActT2 a b c x hb hok
      · exact cActT3 a b c x hb hok
      · exact cActT4 a b c x hb hok
      · exact cActT5 a b c x hb hok
      · exact cActT6 a b c x hb hok
  · exact cActTn k a b c x hok

theorem cATI (k a b c : Int) (x : Option Nat) (hx : Sg x) : PureC X 15 [.agg (act k a b c x)] (cS (aTx k a b c x)) := by
  by_cases hok : actOk k a b c x
  · cases x with
    | none => exact absurd hok.2.2.2.2.1 (by decide)
    | some x =>
      have hb := hx.2 x rfl
      have hk := hok.1
      rcases (by omega : k = 1 ∨ k = 2 ∨ k = 3 ∨ k = 4 ∨ k = 5 ∨ k = 6) with rfl | rfl | rfl | rfl | rfl | rfl
      · exact cActU1 a b c x hb hok
      · exact cActU2 a b c x hb hok
      · exact cActU3 a b c x hb hok
      · exact cActU4 a b c x hb hok
      · exact cActU5 a b c x hb hok
      · exact cActU6 a b c x hb hok
  · exact cActUn k a b c x hx hok

theorem cLaw5 (k a b c : Int) (x : Option Nat) (hx : Sg x) : PureC X 5 [.agg (act k a b c x)] (cB true) := by
  refine PureC.of_body (drawD_ok X) (fun _ _ => Go.Proofs.Tryd.call5 _ _) Go.Proofs.Tryd.func5 rfl (n := 14) rfl ?_
  refine w_seq ?_
  refine w_reg rfl ?_
  refine v_box (m := 0) (H' := [_]) lay34 rfl rfl rfl ?_
  refine v_assign (c := .v (.bool false)) rfl ?_
  refine v_nil ?_
  refine q_n ?_
  refine w_seq ?_
  refine w_reg rfl ?_
  refine v_load_pt (.agg [_, _, _, _, _]) lay34 rfl rfl rfl rfl ?_
  refine v_call (cToA _ _ _ _ _) rfl rfl rfl (.cons (vw_agg (.cons vw_v (.cons vw_v (.cons vw_v (.cons vw_v (.cons vw_f .nil)))))) .nil) ?_
  refine v_call (cATS _ _ _ _ _ (by assumption)) rfl rfl rfl (.cons (vw_agg (.cons vw_v (.cons vw_v (.cons vw_v (.cons vw_v (.cons vw_f .nil)))))) .nil) ?_
  refine v_assign rfl ?_
  refine v_nil ?_
  refine q_n ?_
  refine w_seq ?_
  refine w_reg rfl ?_
  refine v_load_pt (.agg [_, _, _, _, _]) lay34 rfl rfl rfl rfl ?_
  refine v_call (cToA _ _ _ _ _) rfl rfl rfl (.cons (vw_agg (.cons vw_v (.cons vw_v (.cons vw_v (.cons vw_v (.cons vw_f .nil)))))) .nil) ?_
  refine v_call (cATI _ _ _ _ _ (by assumption)) rfl rfl rfl (.cons (vw_agg (.cons vw_v (.cons vw_v (.cons vw_v (.cons vw_v (.cons vw_f .nil)))))) .nil) ?_
  refine v_assign rfl ?_
  refine v_nil ?_
  refine q_n ?_
  refine w_seq ?_
  refine w_seq ?_
  refine w_reg rfl ?_
  refine v_move rfl ?_
  refine v_move rfl ?_
  refine v_sneq lay9 rfl rfl (fun h1 => ?_) (fun h1 => ?_)
  · exact absurd rfl h1
  refine v_nil ?_
  refine q_n ?_
  refine w_f rfl ?_
  refine w_skip ?_
  refine q_n ?_
  refine w_seq ?_
  refine w_reg rfl ?_
  refine v_assign (c := .v (.bool true)) rfl ?_
  refine v_nil ?_
  refine q_n ?_
  refine w_ret ?_
  refine r_r rfl ?_
  exact tr_v
end Go.VL
