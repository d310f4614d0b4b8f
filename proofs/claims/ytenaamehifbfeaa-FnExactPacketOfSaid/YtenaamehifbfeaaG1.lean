/- slices.Grow of the nil slice of bytes: a new row, none of it in use. By the model's own run. -/
import Derived.Test.YtenaamehifbfeaaProg
import Derived.Test.YtenaamehifbfeaaC4
import Derived.Test.YtenaamehifbfeaaV30
import Derived.WalkKit
import Derived.KernelRfl
import Derived.Lib.Walk
import Derived.Lib.SliceRun
import Derived.Lib.AppendZerosOnto
namespace Go.Proofs.Ytenaamehifbfeaa
open Go.RowKit Go.Lib
set_option maxHeartbeats 4000000 in
set_option maxRecDepth 100000 in
theorem grow_run (n : Nat) (h0 : 0 < n) (hn : n ≤ 2 ^ 30) (i0 : TypeInfo) (z : Value) (hi0 : Try.prog.info? 5 = some i0) (hz0 : i0.zero = some z) (hs0 : i0.size = 1) (hb0 : i0.bytes = 1) (w : World) :
    Calls Try.prog 125 #[.slice none 0 0, .int .i64 n] w fun e w' => e = .returned (.slice (some ⟨w.heap.size, 0, none⟩) 0 (grownCap w n 0 5)) ∧
      w' = w.drew.alloc (.cells ((#[] : Array Value) ++ Builtin.zeroCells z.cells n ++ Builtin.zeroCells z.cells (grownCap w n 0 5 - n)) 5) := by
  have h1 : ¬ ((n : Int) < 0) := by omega
  have h2 : wrap64 ((0 : Int) - (0 : Int)) = 0 := by unfold wrap64; omega
  have h3 : wrap64 ((n : Int) - 0) = (n : Int) := by unfold wrap64; omega
  have h4 : (n : Int) > 0 := by omega
  have hold : (Builtin.firstCells i0.size 0 (.slice none 0 0)).run Try.prog w.drew = .ok #[] w.drew := run_firstCells_none w.drew i0.size 0 0 0
  have hrz : ∀ ty, (Builtin.append_ #[47, 3] ty #[.slice none 0 0, .int .i64 (n : Int)]).run Try.prog w =
      .ok (.slice (some ⟨w.heap.size, 0, none⟩) n (grownCap w n 0 5)) (w.drew.alloc (.cells ((#[] : Array Value) ++ Builtin.zeroCells z.cells n ++ Builtin.zeroCells z.cells (grownCap w n 0 5 - n)) 5)) := fun ty => by
    have h := Lib.run_append_grow_zeros w 47 3 ty 5 i0 z .i64 .i64 (by kernel_rfl) (by kernel_rfl) hi0 hz0 none 0 0 [] hold n h0 (by omega) (by omega) (by omega)
      (by rw [hb0]; omega) (growslice_fits (by omega) (by rw [hb0]; omega))
    simpa using h
  have hGn : n ≤ grownCap w n 0 5 := grownCap_ge w _ _ _
  obtain ⟨G, hG⟩ : ∃ G, G = grownCap w n 0 5 := ⟨_, rfl⟩
  rw [← hG] at hrz hGn ⊢
  have hG63 : G ≤ 9223372036854775807 := by
    have := grownCap_le_maxLen w n 0 5 (by unfold maxLen; omega)
    rw [← hG] at this
    unfold maxLen at this
    omega
  clear hold hG
  go_enter Try.func125, Try.ntmps125
  go_wp2_with (at_builtin; refine Lib.wpList_append_run _ rfl _ _ _ _ rfl _ _ rfl rfl _ _ (hrz _) ?_)
  all_goals (go_ret; exact ⟨rfl, rfl⟩)
end Go.Proofs.Ytenaamehifbfeaa
namespace Go.VL
open Go.RowKit
/-- slices.Grow of the nil slice of bytes: a live slice of none. -/
theorem c125 (n : Nat) (h0 : 0 < n) (hn : n ≤ 2 ^ 30) : LiveC X 125 [.c (.v (.slice none 0 0)), cI n] (.c (.mu 0 0 0 1)) [⟨[], 5, true⟩] := by
  intro m arr hS hr
  obtain ⟨-, hp, i, z, g1, g2, g3, g4, g5, g6⟩ := X.ok 5 _ lay5
  have harr : arr = #[.slice none 0 0, .int .i64 n] := by
    obtain ⟨u, a1, a2⟩ := hr.2 0 _ rfl
    obtain ⟨v, b1, b2⟩ := hr.2 1 _ rfl
    have e1 := a2.val
    have e2 := b2.val
    subst e1 e2
    refine Array.ext (by simpa using hr.1) fun j h1 h2 => ?_
    have hj : j < 2 := by simpa using h2
    rcases (by omega : j = 0 ∨ j = 1) with rfl | rfl
    · have := (Array.getElem?_eq_some_iff.1 a1).2
      simpa using this
    · have := (Array.getElem?_eq_some_iff.1 b1).2
      simpa using this
  subst harr
  refine .inr ⟨Go.Proofs.Try.call125 _ _, (Go.Proofs.Ytenaamehifbfeaa.grow_run n h0 hn i z g1 g4 g2 g3 m.w).mono fun e w' ⟨he, hw⟩ => ?_⟩
  subst he hw
  have hge := grownCap_ge m.w n 0 5
  have hcm := grownCap_le_maxLen m.w n 0 5 (by unfold maxLen; omega)
  have hsz : ((#[] : Array Value) ++ Builtin.zeroCells z.cells n ++ Builtin.zeroCells z.cells (grownCap m.w n 0 5 - n)).size = grownCap m.w n 0 5 := by
    have hz1 : z.cells.size = 1 := g6
    simp only [Array.size_append, size_zeroCells, hz1]
    simp
    omega
  obtain ⟨k1, k2⟩ := hS.new (w' := m.w.drew.alloc (.cells ((#[] : Array Value) ++ Builtin.zeroCells z.cells n ++ Builtin.zeroCells z.cells (grownCap m.w n 0 5 - n)) 5)) (t := 5) (cs := []) rfl rfl rfl rfl (Nat.zero_le _) (fun j c hj => by simp at hj)
  refine ⟨_, rfl, _, .c (.mu 0 0 0 1), [⟨[], 5, true⟩], rfl, ⟨rfl, rfl⟩, k1, k2, .c ?_⟩
  have hN : m.N = 0 := hS.N
  have := R.mu (m := { m with w := m.w.drew.alloc (.cells ((#[] : Array Value) ++ Builtin.zeroCells z.cells n ++ Builtin.zeroCells z.cells (grownCap m.w n 0 5 - n)) 5), N := m.N + 1, μ := μadd m.μ m.N ⟨m.w.heap.size, 0, ((#[] : Array Value) ++ Builtin.zeroCells z.cells n ++ Builtin.zeroCells z.cells (grownCap m.w n 0 5 - n)).size, false⟩ }) (id := m.N) (off := 0) (n := 0) (k := 1) (cap := grownCap m.w n 0 5) (Nat.lt_succ_self _) (by simp [μadd_new]) (Nat.zero_le _) (by simp only [μadd_new, hsz]; omega) hcm
  simp only [μadd_new] at this
  rw [hN] at this ⊢
  exact this
end Go.VL
#print axioms Go.VL.c125
