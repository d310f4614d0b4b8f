/- slices.Insert of one tally: by the model's own run. -/
import Derived.Test.YtenaamehifbfeaaProg
import Derived.Test.YtenaamehifbfeaaV7
import Derived.Shelf.RegionOpenPlain
import Derived.WalkKit
import Derived.KernelRfl
import Derived.Lib.Walk
import Derived.Lib.SliceRun
import Derived.Lib.AppendZerosOnto
import Derived.Lib.Overlaps
import Derived.Laws.Externs
namespace Go.VL
open Go.RowKit
/-- A copy between rows of more cells. -/
theorem run_copy_rows {P : Program} (w : World) (dT sT ty elem : TypeId) (k b o dLen dCap : Nat) (a : Addr) (sLen sCap : Nat) (arr : Array Value) (t : TypeId) (cs : List Value) (hu : P.underlying dT = some (.slice elem)) (hs : (P.info? elem).map (·.size) = some k)
    (hn : cs.length = Nat.min sLen dLen * k) (hrow : Row w b arr t) (hfit : o + cs.length ≤ arr.size) (hsrc : ∀ (j : Nat) (v : Value), cs[j]? = some v → w.cell? (a.add j) = some v) (h1 : ∀ v ∈ cs, v.oneCell' = true) :
    (Builtin.copy_ #[dT, sT] ty #[.slice (some ⟨b, o, none⟩) dLen dCap, .slice (some a) sLen sCap]).run P w = .ok (goInt (Nat.min sLen dLen)) (w.setRow b (arr.toList.take o ++ cs ++ arr.toList.drop (o + cs.length)).toArray) := by
  have hl := run_loadCells_list (P := P) w a cs hsrc
  have hst := run_storeCells_row P b o t cs 0 arr w hrow (by simpa using hfit) h1
  simp only [Nat.add_zero] at hst
  cases hq : P.info? elem with
  | none => simp [hq] at hs
  | some i =>
    have hi : i.size = k := by simpa [hq] using hs
    simp [Builtin.copy_, run_underlying hu, Builtin.lenOf, Builtin.firstCells, sizeOf, typeInfo, hq, hi, ← hn, hl, hst]
theorem wp_copy_run {P : Program} (w : World) {o : Oper} {a : Act} {K : Act → World → Prop} {Q : Exit → Act → World → Prop} (d s : Operand) (t t' : TypeId)
    (ho : o.op = .call { callee := .builtin .copy, args := #[d, s], argTypes := #[t, t'] }) (v u : Value) (hd : a.eval d = v) (hs : a.eval s = u) {v' : Value} {w' : World}
    (hr : (Builtin.copy_ #[t, t'] o.type #[v, u]).run P w = .ok v' w') (h : K (a.put o.dst v') w') : o.wp P a w K Q := by
  unfold Oper.wp execOp
  simp only [ho, resolve, invoke, builtin, Sem.run_bind, Sem.run_pure, Result.andThen_ok, List.map_toArray, List.map_cons, List.map_nil, hd, hs, hr]
  exact h
theorem wpList_copy_run {P : Program} (w : World) {ops : Array Oper} {rest : List Oper} {o : Oper} {a : Act} {Q : Exit → Act → World → Prop} (hgd : o.guard = none) (d s : Operand) (t t' : TypeId)
    (ho : o.op = .call { callee := .builtin .copy, args := #[d, s], argTypes := #[t, t'] }) (v u : Value) (hd : a.eval d = v) (hs : a.eval s = u) {v' : Value} {w' : World}
    (hr : (Builtin.copy_ #[t, t'] o.type #[v, u]).run P w = .ok v' w') (h : wpList P ops Q rest (a.put o.dst v') w') : wpList P ops Q (o :: rest) a w :=
  wpList_plain hgd fun _ hK => wp_copy_run w d s t t' ho v u hd hs hr (hK _ _ h)
theorem step_copy_run {P : Program} {ops : Array Oper} {o : Oper} {a : Act} {w : World} {K : Act → World → Prop} {Q : Exit → Act → World → Prop} {E : Prop}
    (hg : o.guard = none) (d x : Operand) (dT sT : TypeId) (hop : o.op = Op.call { callee := Callee.builtin Builtin.copy, args := #[d, x], argTypes := #[dT, sT] })
    (v u : Value) (hd : a.eval d = v) (hx : a.eval x = u) {v' : Value} {w' : World} (hr : (Builtin.copy_ #[dT, sT] o.type #[v, u]).run P w = .ok v' w') (hK : K (a.put o.dst v') w') :
    if Region.wanted o (yielded ops a.tmps) = true then Oper.wp P o a w K Q else E := by
  have hw : Region.wanted o (yielded ops a.tmps) = true := by simp [Region.wanted, hg]
  rw [if_pos hw]
  unfold Oper.wp
  simp [execOp, hop, resolve, invoke, builtin, hd, hx, hr, Result.andThen]
  exact hK
end Go.VL
namespace Go.Proofs.Ytenaamehifbfeaa
open Go.RowKit Go.Lib Go.VL
def insA (arr : Array Value) (off i n : Nat) : Array Value := (arr.toList.take (off + (i + 1) * 3) ++ (arr.toList.drop (off + i * 3)).take ((n - i) * 3) ++ arr.toList.drop (off + (i + 1) * 3 + (n - i) * 3)).toArray
def insB (arr : Array Value) (off i : Nat) (vs : List Value) : Array Value := (arr.toList.take (off + i * 3) ++ vs ++ arr.toList.drop (off + i * 3 + 3)).toArray
set_option maxHeartbeats 4000000 in
set_option maxRecDepth 100000 in
theorem ins_shift_walk (w : World) (b off n c i vb voff vc : Nat) (A1 A2 : Array Value) (hi : i < n) (hroom : n + 1 ≤ c) (hc63 : c ≤ 9223372036854775807)
    (hov : ∀ lb cb, (callFunc 117 #[.slice (some ⟨vb, voff, none⟩) 1 vc, .slice (some ⟨b, off + (i + 1) * 3, none⟩) lb cb]).run Try.prog w = .ok (.value (.bool false)) w)
    (hcp1 : ∀ ty dc sc, (Builtin.copy_ #[40, 40] ty #[.slice (some ⟨b, off + (i + 1) * 3, none⟩) (n - i) dc, .slice (some ⟨b, off + i * 3, none⟩) (n + 1 - i) sc]).run Try.prog w.drew = .ok (goInt (Nat.min (n + 1 - i) (n - i))) (w.drew.setRow b A1))
    (hcp2 : ∀ ty dc, (Builtin.copy_ #[40, 40] ty #[.slice (some ⟨b, off + i * 3, none⟩) (n + 1 - i) dc, .slice (some ⟨vb, voff, none⟩) 1 vc]).run Try.prog (w.drew.setRow b A1) = .ok (goInt (Nat.min 1 (n + 1 - i))) ((w.drew.setRow b A1).setRow b A2)) :
    Calls Try.prog 92 #[.slice (some ⟨b, off, none⟩) n c, .int .i64 i, .slice (some ⟨vb, voff, none⟩) 1 vc] w fun e w' => e = .returned (.slice (some ⟨b, off, none⟩) (n + 1) c) ∧ w' = (w.drew.setRow b A1).setRow b A2 := by
  have hz2 : ¬ ((i : Int) = (n : Int)) := by omega
  have mixed : Try.prog.follows Departure.mixedOrders = true := by kernel_rfl
  have hw1 : IntKind.i64.wrap ((i : Int) + 1) = (i : Int) + 1 := by rw [IntKind.wrap_i64]; omega
  have hb1 : (0 : Int) ≤ (i : Int) + 1 := by omega
  have hin : i ≤ n := by omega
  have hin2 : (i : Int) ≤ (n : Int) := by omega
  have hin3 : (i : Int) + 1 ≤ (n : Int) + 1 := by omega
  have htn : ((i : Int) + 1).toNat = i + 1 := by omega
  have hb2 : ¬ (c = i + 1) := by omega
  have hb3 : (i : Int) ≤ (n : Int) + 1 := by omega
  have hb4 : ¬ (c = i) := by omega
  have hsub : n + 1 - (i + 1) = n - i := by omega
  go_enter Try.func92, Try.ntmps92
  go_wp2_with (simp only [hov])
  go_region_law_o (refine step_copy_run rfl _ _ 40 40 rfl _ _ (by simp [Act.eval, Act.put]) (by simp [Act.eval, Act.put]) (hcp1 _ _ _) ?_)
  go_wp2_with (simp only [hcp2])
  go_ret
  exact ⟨rfl, rfl⟩
set_option maxHeartbeats 4000000 in
set_option maxRecDepth 100000 in
theorem ins_shift (w : World) (b off n c i vb voff vc : Nat) (arr brr : Array Value) (vs : List Value) (hi : i < n) (hroom : n + 1 ≤ c) (hc63 : c ≤ 9223372036854775807) (hvb : vb ≠ b)
    (hrow : w.heap[b]? = some (.cells arr 27 (0, 0))) (hvrow : w.heap[vb]? = some (.cells brr 27 (0, 0))) (hfit : off + c * 3 ≤ arr.size) (hvl : vs.length = 3) (hvs : ∀ (j : Nat) (v : Value), vs[j]? = some v → brr[voff + j]? = some v)
    (h1c : ∀ (j : Nat) (v : Value), j < n * 3 → arr[off + j]? = some v → v.oneCell' = true) (h1v : ∀ v ∈ vs, v.oneCell' = true) :
    Calls Try.prog 92 #[.slice (some ⟨b, off, none⟩) n c, .int .i64 i, .slice (some ⟨vb, voff, none⟩) 1 vc] w fun e w' => e = .returned (.slice (some ⟨b, off, none⟩) (n + 1) c) ∧ w' = (w.drew.setRow b (insA arr off i n)).setRow b (insB (insA arr off i n) off i vs) := by
  have hsz : (Try.prog.info? 27).map (·.size) = some 3 := by kernel_rfl
  have hov : ∀ lb cb, (callFunc 117 #[.slice (some ⟨vb, voff, none⟩) 1 vc, .slice (some ⟨b, off + (i + 1) * 3, none⟩) lb cb]).run Try.prog w = .ok (.value (.bool false)) w := fun lb cb => by
    rw [run_callFunc_extern Try.func117 (by kernel_rfl) (by kernel_rfl) (by kernel_rfl) (e := Extern.SlicesOverlaps.overlaps #[40, 40] #[4]) (by kernel_rfl),
      Lib.run_overlaps_apart w 40 4 27 Try.underlying40 3 (fun w => by kernel_rfl) ⟨vb, voff, none⟩ ⟨b, off + (i + 1) * 3, none⟩ 1 vc lb cb hvb 27 27 brr.size arr.size (by simp [World.shape?, hvrow]) (by simp [World.shape?, hrow]) (by omega)
        (by simp [World.frozen?, hvrow]) (by simp [World.frozen?, hvrow])]
    rfl
  have hal : arr.toList.length = arr.size := by simp
  obtain ⟨A1, hA1⟩ : ∃ A1, A1 = insA arr off i n := ⟨_, rfl⟩
  have hA1s : A1.size = arr.size := by rw [hA1]; unfold insA; simp; omega
  have hcl : ((arr.toList.drop (off + i * 3)).take ((n - i) * 3)).length = (n - i) * 3 := by simp; omega
  have hcp1 : ∀ ty dc sc, (Builtin.copy_ #[40, 40] ty #[.slice (some ⟨b, off + (i + 1) * 3, none⟩) (n - i) dc, .slice (some ⟨b, off + i * 3, none⟩) (n + 1 - i) sc]).run Try.prog w.drew = .ok (goInt (Nat.min (n + 1 - i) (n - i))) (w.drew.setRow b A1) := fun ty dc sc => by
    have h := run_copy_rows (P := Try.prog) w.drew 40 40 ty 27 3 b (off + (i + 1) * 3) (n - i) dc ⟨b, off + i * 3, none⟩ (n + 1 - i) sc arr 27 ((arr.toList.drop (off + i * 3)).take ((n - i) * 3)) Try.underlying40 hsz
      (by rw [hcl]; congr 1; simp only [Nat.min_def]; split <;> omega) (Row.of hrow) (by rw [hcl]; omega) (fun j v hj => ?_) (fun v hv => ?_)
    · rw [h, hcl, hA1]; rfl
    · have hlt := (List.getElem?_eq_some_iff.1 hj).1
      rw [hcl] at hlt
      rw [List.getElem?_take_of_lt hlt, List.getElem?_drop] at hj
      rw [addr_add]
      refine Row.cell (Row.of (w := w.drew) (t := 27) hrow) ?_
      simpa using hj
    · obtain ⟨j, hj⟩ := List.getElem?_of_mem hv
      have hlt := (List.getElem?_eq_some_iff.1 hj).1
      rw [hcl] at hlt
      rw [List.getElem?_take_of_lt hlt, List.getElem?_drop] at hj
      refine h1c (i * 3 + j) v (by omega) ?_
      rw [← Nat.add_assoc]
      simpa using hj
  have hrow1 : (w.drew.setRow b A1).heap[b]? = some (.cells A1 27 (0, 0)) := setRow_heap w.drew b arr A1 27 (0, 0) hrow
  have hvrow1 : (w.drew.setRow b A1).heap[vb]? = some (.cells brr 27 (0, 0)) := (setRow_other w.drew b vb A1 hvb).trans hvrow
  have hcp2 : ∀ ty dc, (Builtin.copy_ #[40, 40] ty #[.slice (some ⟨b, off + i * 3, none⟩) (n + 1 - i) dc, .slice (some ⟨vb, voff, none⟩) 1 vc]).run Try.prog (w.drew.setRow b A1) = .ok (goInt (Nat.min 1 (n + 1 - i))) ((w.drew.setRow b A1).setRow b (insB A1 off i vs)) := fun ty dc => by
    have h := run_copy_rows (P := Try.prog) (w.drew.setRow b A1) 40 40 ty 27 3 b (off + i * 3) (n + 1 - i) dc ⟨vb, voff, none⟩ 1 vc A1 27 vs Try.underlying40 hsz
      (by rw [hvl]; simp only [Nat.min_def]; split <;> omega) (Row.of hrow1) (by rw [hvl, hA1s]; omega) (fun j v hj => ?_) h1v
    · rw [h, hvl]; rfl
    · rw [addr_add]
      exact Row.cell (Row.of hvrow1) (hvs j v hj)
  rw [← hA1]
  exact ins_shift_walk w b off n c i vb voff vc A1 _ hi hroom hc63 hov hcp1 hcp2

set_option maxHeartbeats 4000000 in
set_option maxRecDepth 100000 in
theorem ins_end_walk (w : World) (b off n c vb voff vc : Nat) (r : Value) (w1 : World) (hap : (Builtin.append_ #[40, 40] 40 #[.slice (some ⟨b, off, none⟩) n c, .slice (some ⟨vb, voff, none⟩) 1 vc]).run Try.prog w = .ok r w1) :
    Calls Try.prog 92 #[.slice (some ⟨b, off, none⟩) n c, .int .i64 n, .slice (some ⟨vb, voff, none⟩) 1 vc] w fun e w' => e = .returned r ∧ w' = w1 := by
  go_enter Try.func92, Try.ntmps92
  go_wp2_with (at_builtin; refine Lib.wpList_append_run _ rfl _ _ _ _ rfl _ _ rfl rfl _ _ hap ?_)
  all_goals (go_ret; exact ⟨rfl, rfl⟩)
set_option maxHeartbeats 4000000 in
set_option maxRecDepth 100000 in
theorem ins_end_nil (w : World) (vb voff vc : Nat) (r : Value) (w1 : World) (hap : (Builtin.append_ #[40, 40] 40 #[.slice none 0 0, .slice (some ⟨vb, voff, none⟩) 1 vc]).run Try.prog w = .ok r w1) :
    Calls Try.prog 92 #[.slice none 0 0, .int .i64 0, .slice (some ⟨vb, voff, none⟩) 1 vc] w fun e w' => e = .returned r ∧ w' = w1 := by
  go_enter Try.func92, Try.ntmps92
  go_wp2_with (at_builtin; refine Lib.wpList_append_run _ rfl _ _ _ _ rfl _ _ rfl rfl _ _ hap ?_)
  all_goals (go_ret; exact ⟨rfl, rfl⟩)
set_option maxHeartbeats 4000000 in
set_option maxRecDepth 100000 in
theorem ins_grow_walk (w W1 W2 W3 : World) (b off n c i vb voff vc N G : Nat) (hi : i < n) (hnc : n ≤ c) (hroom : ¬ n + 1 ≤ c) (hG : n + 1 ≤ G) (hG63 : G ≤ 9223372036854775807) (hc63 : c ≤ 9223372036854775807) (hn63 : n + 1 ≤ 9223372036854775807)
    (hrz : ∀ ty, (Builtin.append_ #[40, 3] ty #[.slice (some ⟨b, off, none⟩) i c, .int .i64 ((n : Int) + 1 - (i : Int))]).run Try.prog w = .ok (.slice (some ⟨N, 0, none⟩) (n + 1) G) W1)
    (hcpA : ∀ ty dc, (Builtin.copy_ #[40, 40] ty #[.slice (some ⟨N, i * 3, none⟩) (n + 1 - i) dc, .slice (some ⟨vb, voff, none⟩) 1 vc]).run Try.prog W1 = .ok (goInt (Nat.min 1 (n + 1 - i))) W2)
    (hcpB : ∀ ty dc sc, (Builtin.copy_ #[40, 40] ty #[.slice (some ⟨N, (i + 1) * 3, none⟩) (n - i) dc, .slice (some ⟨b, off + i * 3, none⟩) (n - i) sc]).run Try.prog W2.drew = .ok (goInt (Nat.min (n - i) (n - i))) W3) :
    Calls Try.prog 92 #[.slice (some ⟨b, off, none⟩) n c, .int .i64 i, .slice (some ⟨vb, voff, none⟩) 1 vc] w fun e w' => e = .returned (.slice (some ⟨N, 0, none⟩) (n + 1) G) ∧ w' = W3 := by
  have hz2 : ¬ ((i : Int) = (n : Int)) := by omega
  have hz3 : (c : Int) < (n : Int) + 1 := by omega
  have mixed : Try.prog.follows Departure.mixedOrders = true := by kernel_rfl
  have hw1 : IntKind.i64.wrap ((i : Int) + 1) = (i : Int) + 1 := by rw [IntKind.wrap_i64]; omega
  have hb1 : (0 : Int) ≤ (i : Int) + 1 := by omega
  have hin : i ≤ n := by omega
  have hin2 : (i : Int) ≤ (n : Int) := by omega
  have hin3 : (i : Int) + 1 ≤ (n : Int) + 1 := by omega
  have htn : ((i : Int) + 1).toNat = i + 1 := by omega
  have hGi : ¬ (G = i) := by omega
  have hGi1 : ¬ (G = i + 1) := by omega
  have hci : ¬ (c = i) := by omega
  have hb3 : (i : Int) ≤ (n : Int) + 1 := by omega
  have hsub : n + 1 - (i + 1) = n - i := by omega
  go_enter Try.func92, Try.ntmps92
  go_wp2_with (first
    | (at_builtin; refine Lib.wpList_append_run _ rfl _ _ _ _ rfl _ _ rfl rfl _ _ (hrz _) ?_)
    | (simp only [hcpA]))
  go_region_law_o (refine step_copy_run rfl _ _ 40 40 rfl _ _ (by simp [Act.eval, Act.put]) (by simp [Act.eval, Act.put]) (hcpB _ _ _) ?_)
  go_wp2
  go_ret
  exact ⟨rfl, rfl⟩
end Go.Proofs.Ytenaamehifbfeaa
