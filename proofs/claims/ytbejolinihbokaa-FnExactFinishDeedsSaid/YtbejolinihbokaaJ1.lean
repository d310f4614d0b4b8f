/- slices.Delete of one notice: by the model's own run, and on data. -/
import Derived.Test.YtbejolinihbokaaProg
import Derived.Test.YtbejolinihbokaaC2
import Derived.Shelf.RegionOpenPlain
import Derived.WalkKit
import Derived.KernelRfl
import Derived.Lib.Walk
import Derived.Lib.SliceRun
import Derived.Laws.Externs
namespace Go.VL
open Go.RowKit
set_option maxHeartbeats 4000000
set_option maxRecDepth 20000
theorem step_append_eq {P : Program} {ops : Array Oper} {o : Oper} {a : Act} {w : World} {K : Act → World → Prop} {Q : Exit → Act → World → Prop} {E : Prop}
    (hg : o.guard = none) (d x : Operand) (dT sT : TypeId) (hop : o.op = Op.call { callee := Callee.builtin Builtin.append, args := #[d, x], argTypes := #[dT, sT] })
    (v u : Value) (hd : a.eval d = v) (hx : a.eval x = u) {v' : Value} {w' : World} (hr : (Builtin.append_ #[dT, sT] o.type #[v, u]).run P w = .ok v' w') (hK : K (a.put o.dst v') w') :
    if Region.wanted o (yielded ops a.tmps) = true then Oper.wp P o a w K Q else E := by
  have hw : Region.wanted o (yielded ops a.tmps) = true := by simp [Region.wanted, hg]
  rw [if_pos hw]
  unfold Oper.wp
  simp [execOp, hop, resolve, invoke, builtin, hd, hx, hr, Result.andThen]
  exact hK
/-- An append of cells of one's own, where there is room. -/
theorem run_append_rows {P : Program} (w : World) (t ty e : TypeId) (i : TypeInfo) (k : Nat) (b o n0 cap : Nat) (a : Addr) (n sCap : Nat) (arr : Array Value) (tt : TypeId) (us : List Value) (ht : P.underlying t = some (.slice e)) (hi : P.info? e = some i) (hk : i.size = k) (hroom : n0 + n ≤ cap)
    (hl : us.length = n * k) (hrow : Row w b arr tt) (hfit : o + n0 * k + us.length ≤ arr.size) (hsrc : ∀ (j : Nat) (v : Value), us[j]? = some v → w.cell? (a.add j) = some v) (h1 : ∀ v ∈ us, v.oneCell' = true) :
    (Builtin.append_ #[t, t] ty #[.slice (some ⟨b, o, none⟩) n0 cap, .slice (some a) n sCap]).run P w = .ok (.slice (some ⟨b, o, none⟩) (n0 + n) cap) (w.setRow b (arr.toList.take (o + n0 * k) ++ us ++ arr.toList.drop (o + n0 * k + us.length)).toArray) := by
  have hst := run_storeCells_row P b (o + n0 * k) tt us 0 arr w hrow (by omega) h1
  simp only [Nat.add_zero] at hst
  have hfc := run_firstCells_some (P := P) w i.size n a n sCap us (by rw [hl, hk]) hsrc
  rw [hk] at hfc
  simp [Builtin.append_, run_underlying ht, sizeOf, typeInfo, hi, Builtin.lenOf, hroom, hfc, addr_add, hk, hst]
theorem run_clear_rows {P : Program} (w : World) (t e ty : TypeId) (i : TypeInfo) (z : Value) (b o n c : Nat) (arr : Array Value) (tt : TypeId) (ht : P.underlying t = some (.slice e)) (hi : P.info? e = some i) (hz : i.zero = some z) (hn : 0 < n) (hrow : Row w b arr tt) (hfit : o + n * z.cells.size ≤ arr.size)
    (h1 : ∀ v ∈ z.cells.toList, v.oneCell' = true) : ∃ A : Array Value, A.size = arr.size ∧ A.toList.take o = arr.toList.take o ∧ (Builtin.clear_ #[t] ty #[.slice (some ⟨b, o, none⟩) n c]).run P w = .ok (.tuple #[]) (w.setRow b A) := by
  have hzs := size_zeroCells z.cells n
  have hone : ∀ v ∈ (Builtin.zeroCells z.cells n).toList, v.oneCell' = true := fun v hv => by
    simp only [Builtin.zeroCells, Array.toList_map, List.mem_map] at hv
    obtain ⟨j, hj, rfl⟩ := hv
    have hj' : j < n * z.cells.size := by simpa using hj
    have hpos : 0 < z.cells.size := by
      rcases Nat.eq_zero_or_pos z.cells.size with h0 | h0
      · rw [h0] at hj'; omega
      · exact h0
    have hlt : j % z.cells.size < z.cells.size := Nat.mod_lt _ hpos
    have he : z.cells[j % z.cells.size]! = z.cells[j % z.cells.size] := by simp [hlt]
    rw [he]
    exact h1 _ (by simp)
  have hst := run_storeCells_row P b o tt (Builtin.zeroCells z.cells n).toList 0 arr w hrow (by simp [hzs]; omega) hone
  simp only [Nat.add_zero] at hst
  refine ⟨(arr.toList.take o ++ (Builtin.zeroCells z.cells n).toList ++ arr.toList.drop (o + (Builtin.zeroCells z.cells n).toList.length)).toArray, ?_, ?_, ?_⟩
  · simp [hzs]; omega
  · show ((arr.toList.take o ++ (Builtin.zeroCells z.cells n).toList) ++ _).take o = _
    rw [List.append_assoc, List.take_append_of_le_length (by simp; omega), List.take_take, Nat.min_self]
  · obtain ⟨m, rfl⟩ : ∃ m, n = m + 1 := ⟨n - 1, by omega⟩
    simp [Builtin.clear_, run_underlying ht, zeroValue, typeInfo, hi, hz, hst]
end Go.VL
namespace Go.Proofs.Ytbejolinihbokaa
open Go.RowKit Go.Lib Go.VL
set_option maxHeartbeats 4000000 in
set_option maxRecDepth 100000 in
theorem del_walk (w W1 W2 : World) (b off n c i : Nat) (hi : i < n) (hnc : n ≤ c) (hc63 : c ≤ 9223372036854775807) (hci : ¬ c = i + 1)
    (hap : ∀ ty, (Builtin.append_ #[62, 62] ty #[.slice (some ⟨b, off, none⟩) i c, .slice (some ⟨b, off + (i + 1) * 4, none⟩) (n - (i + 1)) (c - (i + 1))]).run Try.prog w.drew = .ok (.slice (some ⟨b, off, none⟩) (n - 1) c) W1)
    (hcl : ∀ ty, (Builtin.clear_ #[62] ty #[.slice (some ⟨b, off + (n - 1) * 4, none⟩) 1 (c - (n - 1))]).run Try.prog W1 = .ok (.tuple #[]) W2) :
    Calls Try.prog 101 #[.slice (some ⟨b, off, none⟩) n c, .int .i64 i, .int .i64 ((i : Int) + 1)] w fun e w' => e = .returned (.slice (some ⟨b, off, none⟩) (n - 1) c) ∧ w' = W2 := by
  have mixed : Try.prog.follows Departure.mixedOrders = true := by kernel_rfl
  have hz : ¬ ((i : Int) = (i : Int) + 1) := by omega
  have hb1 : (0 : Int) ≤ (i : Int) + 1 := by omega
  have hin : i ≤ n := by omega
  have hin2 : (i : Int) + 1 ≤ (n : Int) := by omega
  have hin3 : (i : Int) ≤ (n : Int) := by omega
  have hin4 : (i : Int) ≤ (i : Int) + 1 := by omega
  have hnc2 : (n : Int) ≤ (c : Int) := by omega
  have htn : ((i : Int) + 1).toNat = i + 1 := by omega
  have hic : i ≤ c := by omega
  have hic2 : i + 1 ≤ c := by omega
  have hn1c : n - 1 ≤ c := by omega
  have hn1n : n - 1 ≤ n := by omega
  have hci0 : ¬ c = i := by omega
  have hcn : ¬ c = n - 1 := by omega
  have hn1 : n - (n - 1) = 1 := by omega
  have hn2 : ((n - 1 : Nat) : Int) ≤ (n : Int) := by omega
  go_enter Try.func101, Try.ntmps101
  go_wp2
  go_region_law_o (refine step_append_eq rfl _ _ 62 62 rfl _ _ (by simp [Act.eval, Act.put]) (by simp [Act.eval, Act.put]) (hap _) ?_)
  go_wp2_with (simp only [hcl])
  go_ret
  exact ⟨rfl, rfl⟩
set_option maxHeartbeats 4000000 in
set_option maxRecDepth 100000 in
theorem del_walk_end (w W1 W2 : World) (b off i : Nat) (hc63 : i + 1 ≤ 9223372036854775807)
    (hap : ∀ ty, (Builtin.append_ #[62, 62] ty #[.slice (some ⟨b, off, none⟩) i (i + 1), .slice (some ⟨b, off, none⟩) 0 0]).run Try.prog w.drew = .ok (.slice (some ⟨b, off, none⟩) i (i + 1)) W1)
    (hcl : ∀ ty, (Builtin.clear_ #[62] ty #[.slice (some ⟨b, off + i * 4, none⟩) 1 1]).run Try.prog W1 = .ok (.tuple #[]) W2) :
    Calls Try.prog 101 #[.slice (some ⟨b, off, none⟩) (i + 1) (i + 1), .int .i64 i, .int .i64 ((i : Int) + 1)] w fun e w' => e = .returned (.slice (some ⟨b, off, none⟩) i (i + 1)) ∧ w' = W2 := by
  have mixed : Try.prog.follows Departure.mixedOrders = true := by kernel_rfl
  have hz : ¬ ((i : Int) = (i : Int) + 1) := by omega
  have hb1 : (0 : Int) ≤ (i : Int) + 1 := by omega
  have htn : ((i : Int) + 1).toNat = i + 1 := by omega
  have hni : ¬ (i + 1 = i) := by omega
  have hle : i ≤ i + 1 := by omega
  have hle2 : (i : Int) ≤ (i : Int) + 1 := by omega
  have hsb : i + 1 - i = 1 := by omega
  go_enter Try.func101, Try.ntmps101
  go_wp2
  go_region_law_o (refine step_append_eq rfl _ _ 62 62 rfl _ _ (by simp [Act.eval, Act.put]) (by simp [Act.eval, Act.put]) (hap _) ?_)
  go_wp2_with (simp only [hcl])
  go_ret
  exact ⟨rfl, rfl⟩
end Go.Proofs.Ytbejolinihbokaa
