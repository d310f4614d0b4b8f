/- FnExactValidDeed returns true at every deed. No condition. -/
import Derived.Test.YtcmcfpglifoenaaB0
import Derived.WalkKit
import Derived.KernelRfl
import Derived.Below
import Derived.Handy

import Derived.Lib.SmallJoins
namespace Go.Proofs.Ytcmcfpglifoenaa
open Go.RowKit

theorem hid0 {p : Prop} (h : p) : Hid p := h
def inR (n lo hi : Int) : Bool := decide (lo ≤ n) && decide (n ≤ hi)
theorem l00In (n lo hi : Int) (w : World) :
    Calls Try.prog 64 #[.int .i64 n, .int .i64 lo, .int .i64 hi] w fun e w' => e = .returned (.bool (inR n lo hi)) ∧ w = w' := by
  unfold inR
  by_cases h : lo ≤ n
  · have h1 : decide (lo ≤ n) = true := by simpa using h
    go_enter Try.func64, Try.ntmps64
    go_wp2
    go_ret
    exact ⟨by first | rfl | (simp [h]; done) | simp_all, rfl⟩
  · have h1 : decide (lo ≤ n) = false := by simpa using h
    go_enter Try.func64, Try.ntmps64
    go_wp2
    go_ret
    exact ⟨by first | rfl | (simp [h]; done) | simp_all, rfl⟩

theorem inRange (n lo hi : Int) (w : World) :
    Calls Try.prog 52 #[.int .i64 n, .int .i64 lo, .int .i64 hi] w fun e w' => e = .returned (.bool (inR n lo hi)) ∧ w = w' := by
  unfold inR
  by_cases h : lo ≤ n
  · have h1 : decide (lo ≤ n) = true := by simpa using h
    go_enter Try.func52, Try.ntmps52
    go_wp2
    go_ret
    exact ⟨by first | rfl | (simp [h]; done) | simp_all, rfl⟩
  · have h1 : decide (lo ≤ n) = false := by simpa using h
    go_enter Try.func52, Try.ntmps52
    go_wp2
    go_ret
    exact ⟨by first | rfl | (simp [h]; done) | simp_all, rfl⟩

theorem l00In' (n lo hi : Int) (b : Bool) (h : inR n lo hi = b) (w : World) :
    Calls Try.prog 64 #[.int .i64 n, .int .i64 lo, .int .i64 hi] w fun e w' => e = .returned (.bool b) ∧ w = w' := by subst h; exact l00In n lo hi w
theorem inRange' (n lo hi : Int) (b : Bool) (h : inR n lo hi = b) (w : World) :
    Calls Try.prog 52 #[.int .i64 n, .int .i64 lo, .int .i64 hi] w fun e w' => e = .returned (.bool b) ∧ w = w' := by subst h; exact inRange n lo hi w

def vDeed (k a b : Int) : Bool := inR k 1 7 && inR a 0 999 && inR b 0 999 && (k == 1 || b == 0)

theorem some_of (a b c d : Bool) {e : Bool} (h : (a && b && c && d) = e) : Value.bool (a && b && c && d) = .bool e := by rw [h]

set_option maxHeartbeats 1000000 in
theorem l07Deed (k a b : Int) (w : World) :
    Calls Try.prog 51 #[.agg #[.int .i64 k, .int .i64 a, .int .i64 b]] w fun e w' => e = .returned (.bool (vDeed k a b)) ∧ Below w.heap.size w w' := by
  unfold vDeed
  cases h1 : inR k 1 7
  · have H1 := hid0 h1; clear h1
    go_enter Try.func51, Try.ntmps51
    go_wp2_with (go_at_call 64; (with_reducible refine (l00In' k 1 7 _ H1.out _).mono ?_); rintro e w' ⟨rfl, rfl⟩)
    go_ret
    exact ⟨by simp, (Below.refl _ _).alloc (Nat.le_refl _) _⟩
  · cases h2 : inR a 0 999
    · have H1 := hid0 h1; have H2 := hid0 h2; clear h1 h2
      go_enter Try.func51, Try.ntmps51
      go_wp2_with (first | (go_at_call 64; (with_reducible refine (l00In' k 1 7 _ H1.out _).mono ?_); rintro e w' ⟨rfl, rfl⟩) | (go_at_call 64; (with_reducible refine (l00In' a 0 999 _ H2.out _).mono ?_); rintro e w' ⟨rfl, rfl⟩))
      go_ret
      exact ⟨by simp, (Below.refl _ _).alloc (Nat.le_refl _) _⟩
    · cases h3 : inR b 0 999
      · have H1 := hid0 h1; have H2 := hid0 h2; have H3 := hid0 h3; clear h1 h2 h3
        go_enter Try.func51, Try.ntmps51
        go_wp2_with (first | (go_at_call 64; (with_reducible refine (l00In' k 1 7 _ H1.out _).mono ?_); rintro e w' ⟨rfl, rfl⟩) | (go_at_call 64; (with_reducible refine (l00In' a 0 999 _ H2.out _).mono ?_); rintro e w' ⟨rfl, rfl⟩) | (go_at_call 64; (with_reducible refine (l00In' b 0 999 _ H3.out _).mono ?_); rintro e w' ⟨rfl, rfl⟩))
        go_ret
        exact ⟨by simp, (Below.refl _ _).alloc (Nat.le_refl _) _⟩
      · cases h4 : k == 1
        all_goals
          have H1 := hid0 h1; have H2 := hid0 h2; have H3 := hid0 h3; clear h1 h2 h3
          go_enter Try.func51, Try.ntmps51
          go_wp2_with (first | (go_at_call 64; (with_reducible refine (l00In' k 1 7 _ H1.out _).mono ?_); rintro e w' ⟨rfl, rfl⟩) | (go_at_call 64; (with_reducible refine (l00In' a 0 999 _ H2.out _).mono ?_); rintro e w' ⟨rfl, rfl⟩) | (go_at_call 64; (with_reducible refine (l00In' b 0 999 _ H3.out _).mono ?_); rintro e w' ⟨rfl, rfl⟩))
          go_ret
          exact ⟨by simp, (Below.refl _ _).alloc (Nat.le_refl _) _⟩
set_option maxHeartbeats 1000000 in
theorem implDeed (k a b : Int) (w : World) :
    Calls Try.prog 14 #[.agg #[.int .i64 k, .int .i64 a, .int .i64 b]] w fun e w' => e = .returned (.bool (vDeed k a b)) ∧ Below w.heap.size w w' := by
  unfold vDeed
  cases h1 : inR k 1 7
  · have H1 := hid0 h1; clear h1
    go_enter Try.func14, Try.ntmps14
    go_wp2_with (go_at_call 52; (with_reducible refine (inRange' k 1 7 _ H1.out _).mono ?_); rintro e w' ⟨rfl, rfl⟩)
    go_ret
    exact ⟨by simp, (Below.refl _ _).alloc (Nat.le_refl _) _⟩
  · cases h2 : inR a 0 999
    · have H1 := hid0 h1; have H2 := hid0 h2; clear h1 h2
      go_enter Try.func14, Try.ntmps14
      go_wp2_with (first | (go_at_call 52; (with_reducible refine (inRange' k 1 7 _ H1.out _).mono ?_); rintro e w' ⟨rfl, rfl⟩) | (go_at_call 52; (with_reducible refine (inRange' a 0 999 _ H2.out _).mono ?_); rintro e w' ⟨rfl, rfl⟩))
      go_ret
      exact ⟨by simp, (Below.refl _ _).alloc (Nat.le_refl _) _⟩
    · cases h3 : inR b 0 999
      · have H1 := hid0 h1; have H2 := hid0 h2; have H3 := hid0 h3; clear h1 h2 h3
        go_enter Try.func14, Try.ntmps14
        go_wp2_with (first | (go_at_call 52; (with_reducible refine (inRange' k 1 7 _ H1.out _).mono ?_); rintro e w' ⟨rfl, rfl⟩) | (go_at_call 52; (with_reducible refine (inRange' a 0 999 _ H2.out _).mono ?_); rintro e w' ⟨rfl, rfl⟩) | (go_at_call 52; (with_reducible refine (inRange' b 0 999 _ H3.out _).mono ?_); rintro e w' ⟨rfl, rfl⟩))
        go_ret
        exact ⟨by simp, (Below.refl _ _).alloc (Nat.le_refl _) _⟩
      · cases h4 : k == 1
        all_goals
          have H1 := hid0 h1; have H2 := hid0 h2; have H3 := hid0 h3; clear h1 h2 h3
          go_enter Try.func14, Try.ntmps14
          go_wp2_with (first | (go_at_call 52; (with_reducible refine (inRange' k 1 7 _ H1.out _).mono ?_); rintro e w' ⟨rfl, rfl⟩) | (go_at_call 52; (with_reducible refine (inRange' a 0 999 _ H2.out _).mono ?_); rintro e w' ⟨rfl, rfl⟩) | (go_at_call 52; (with_reducible refine (inRange' b 0 999 _ H3.out _).mono ?_); rintro e w' ⟨rfl, rfl⟩))
          go_ret
          exact ⟨by simp, (Below.refl _ _).alloc (Nat.le_refl _) _⟩

theorem specValidDeed (k a b : Int) (w : World) :
    Calls Try.prog 12 #[.agg #[.int .i64 k, .int .i64 a, .int .i64 b]] w fun e w' => e = .returned (.bool (vDeed k a b)) ∧ Below w.heap.size w w' := by
  go_enter Try.func12, Try.ntmps12
  go_wp2_with (go_at_call 51; refine (l07Deed _ _ _ _).mono ?_; rintro e w1 ⟨rfl, hb1⟩)
  go_ret
  exact ⟨rfl, ((Below.refl _ _).alloc (Nat.le_refl _) _).trans (hb1.mono (by simp))⟩

theorem toDeed (k a b : Int) (w : World) :
    Calls Try.prog 13 #[.agg #[.int .i64 k, .int .i64 a, .int .i64 b]] w fun e w' => e = .returned (.agg #[.int .i64 k, .int .i64 a, .int .i64 b]) ∧ Below w.heap.size w w' := by
  go_enter Try.func13, Try.ntmps13
  go_wp2
  refine bodyPost_ret (v := .agg #[.int .i64 k, .int .i64 a, .int .i64 b]) (by simp [results, Try.results13, go_sem]) rfl ⟨rfl, ?_⟩
  repeat (first | exact Below.refl _ _ | refine Below.setCell ?_ (by simp; try omega) _ | refine Below.alloc ?_ (by simp; try omega) _)

set_option maxHeartbeats 1000000 in
theorem law (k a b : Int) (w : World) :
    Calls Try.prog 3 #[.agg #[.int .i64 k, .int .i64 a, .int .i64 b]] w fun e w' => e = .returned (.bool true) ∧ Below w.heap.size w w' := by
  obtain ⟨W, hW⟩ : ∃ W : World, W = w.alloc (.cells #[.int .i64 k, .int .i64 a, .int .i64 b] 23) := ⟨_, rfl⟩
  have hb0 : Below w.heap.size w W := by subst hW; exact (Below.refl _ _).alloc (Nat.le_refl _) _
  have hz : w.heap.size < W.heap.size := by subst hW; simp
  have c0 : W.cell? ⟨w.heap.size, 0, none⟩ = some (.int .i64 k) := by subst hW; simp
  have c1 : W.cell? ⟨w.heap.size, 1, none⟩ = some (.int .i64 a) := by subst hW; simp
  have c2 : W.cell? ⟨w.heap.size, 2, none⟩ = some (.int .i64 b) := by subst hW; simp
  go_enter Try.func3, Try.ntmps3
  go_wp2_with fail
  rw [← hW]
  clear hW
  refine (toDeed k a b W).mono ?_
  rintro e w1 ⟨rfl, hb1⟩
  go_wp2_with fail
  refine (specValidDeed k a b w1).mono ?_
  rintro e w2 ⟨rfl, hb2⟩
  have hb12 : Below W.heap.size W w2 := hb1.trans (hb2.mono hb1.size)
  have d0 := (hb12.cell (p := ⟨w.heap.size, 0, none⟩) hz).trans c0
  have d1 := (hb12.cell (p := ⟨w.heap.size, 1, none⟩) hz).trans c1
  have d2 := (hb12.cell (p := ⟨w.heap.size, 2, none⟩) hz).trans c2
  go_wp2_with fail
  refine (toDeed k a b w2).mono ?_
  rintro e w3 ⟨rfl, hb3⟩
  go_wp2_with fail
  refine (implDeed k a b w3).mono ?_
  rintro e w4 ⟨rfl, hb4⟩
  have hb14 : Below W.heap.size W w4 := hb12.trans ((hb3.mono hb12.size).trans (hb4.mono (Nat.le_trans hb12.size hb3.size)))
  go_wp2
  go_ret
  exact ⟨rfl, hb0.trans (hb14.mono (by omega))⟩

theorem own : ownKnob Try.prog.godebug = none := by kernel_rfl
theorem laidOut : laidOutB Try.prog = true := by kernel_rfl
theorem cells23 : Try.prog.cellsOf 23 = 3 := by kernel_rfl

open Go.ChangeShapes Go.WideShapes Go.ChangeAt Go.Joins in
set_option maxRecDepth 100000 in
theorem lifted (os : Os) (started : os.Started) (H : Type) (enc : TypeId × Value → H) :
    ReturnsInHanded {} Try.checked os 3 .any (Rows.fnExactValidDeedSpec.pre6 enc Try.prog Try.f3 Rows.fnExactValidDeedRow.domain false) (Rows.fnExactValidDeedSpec.post enc Try.prog Try.f3 false true false false) := by
  refine B0.lift (C := Try.checked) (tb := 4) own started (by kernel_rfl) Try.func3
    (ChangeSpec.witness6 (enc := enc) (C := Try.checked) false ⟨#[], #[.agg #[.int .i64 0, .int .i64 0, .int .i64 0]], []⟩ 8 (by kernel_rfl) (by kernel_rfl) (by kernel_rfl) (by kernel_rfl))
    laidOut (by kernel_rfl) rfl (by kernel_rfl) Try.underlying4 (fun ds hds => ?_) ?_
  · rw [show Try.f3.params = #[23] from Try.params3] at hds
    match ds, hds with
    | [d], _ => rfl
  · intro W base args ds p hval0 hA0
    have hval : ∀ (j : Nat) t v, Try.f3.params[j]? = some t → args[j]? = some v → Value.okWide Try.prog W .any base t v := hval0
    have hA : DataW.TrodAll enc Try.prog W 0 (fun _ => true) true Try.f3.params.toList args.toList ds p := hA0
    rw [Try.params3] at hA hval
    obtain ⟨v0, d0, rfl, rfl, h0⟩ := trodAll_one hA
    obtain ⟨x0, x1, x2, y0, y1, y2, m, rfl, rfl, rfl, hy0, hy1, hy2⟩ := open_agg3 Try.underlying23 (by kernel_rfl) cells23 (hval 0 23 v0 rfl rfl) h0
    obtain ⟨k, e0, _, _⟩ := DataW.trod_int Try.underlying2 hy0
    obtain ⟨a, e1, _, _⟩ := DataW.trod_int Try.underlying2 hy1
    obtain ⟨b, e2, _, _⟩ := DataW.trod_int Try.underlying2 hy2
    simp at e0 e1 e2
    subst e0 e1 e2
    exact law k a b W

theorem validDeed_holds : Rows.FnExactValidDeedSaid :=
  OpenClaim.holds_of_wide 3 Try.f3 rfl rfl rfl rfl rfl rfl rfl ⟨rfl, rfl, rfl, rfl, rfl⟩ rfl rfl rfl rfl rfl (by kernel_rfl) Try.func3 (by kernel_rfl)
    (of_decide_eq_true (by kernel_rfl)) (by unfold Func.isWrapper; rw [if_neg (of_decide_eq_false (by kernel_rfl))]; exact ⟨rfl, rfl⟩)
    (fun os started H enc _ => lifted os started H enc)
#print axioms validDeed_holds
end Go.Proofs.Ytcmcfpglifoenaa
