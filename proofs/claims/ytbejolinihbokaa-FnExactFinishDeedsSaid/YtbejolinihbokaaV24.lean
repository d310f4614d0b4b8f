/- Functions without a body: by their contracts on data. Over any program. -/
import Derived.Test.YtbejolinihbokaaV23
import Derived.Laws.Externs
namespace Go.VL
open Go.RowKit

section
variable {X : Cx} {g : FuncId} {fn : Func} {e : Array Value → Sem Value}

/-- A function without a body that answers, and turns at most the count of draws. -/
theorem PureC.extern (hf : X.P.funcs[g]? = some fn) (hname : (fn.name == "runtime.NumGoroutine") = false) (hb : fn.body.isNone = true) (hn : Extern.findNext fn = none) (he : Extern.find fn = some e) {args : List V} {r : V}
    (h : ∀ (m : Mem) (arr : Array Value), RVs m args arr → ∃ u w', (e arr).run X.P m.w = .ok u w' ∧ w'.heap = m.w.heap ∧ w'.os = m.w.os ∧ w'.tape = m.w.tape ∧ w'.output = m.w.output ∧ ∀ m' : Mem, RV m' r u) : PureC X g args r := by
  intro w F μ arr hS hr
  obtain ⟨u, w', h1, h2, h3, h4, h5, h6⟩ := h _ arr hr
  refine .inl ⟨u, w', ?_, ⟨h3, h4, h5, by rw [h2]; exact Nat.le_refl _, fun k _ => by rw [h2]⟩, h6 _⟩
  rw [run_callFunc_extern hf hname hb hn he, h1]
  rfl

/-- A float, rounded to a whole one, ties to even. -/
def rte (x : Option Nat) : Option Nat := x.map fun b => FloatKind.f64.encode ((FloatKind.f64.decode b).integral .even)

theorem one_arg {m : Mem} {v : V} {arr : Array Value} (h : RVs m [v] arr) : ∃ u, arr = #[u] ∧ RV m v u := by
  obtain ⟨h1, h2⟩ := h
  obtain ⟨u, h3, h4⟩ := h2 0 v rfl
  refine ⟨u, ?_, h4⟩
  refine Array.ext (by simpa using h1) fun i hi hi' => ?_
  have : i = 0 := by simp at hi'; omega
  subst this
  have := (Array.getElem?_eq_some_iff.1 h3).2
  simpa using this

theorem pure_f32bits (hf : X.P.funcs[g]? = some fn) (hname : (fn.name == "runtime.NumGoroutine") = false) (hb : fn.body.isNone = true) (hn : Extern.findNext fn = none) (he : Extern.find fn = some Extern.MathFloatBits.float32bits) (b : Nat) :
    PureC X g [.c (.f .f32 (some b))] (.c (.v (.int .u32 b))) := by
  refine PureC.extern hf hname hb hn he fun m arr hr => ?_
  obtain ⟨u, rfl, hu⟩ := one_arg hr
  obtain ⟨b', rfl, hb'⟩ := hu.cell.floatI
  unfold fOf at hb'
  split at hb'
  · cases hb'
  · simp only [Option.some.injEq] at hb'
    subst hb'
    exact ⟨.int .u32 b, m.w, rfl, rfl, rfl, rfl, rfl, fun m' => .c (.v rfl)⟩
theorem pure_f64bits (hf : X.P.funcs[g]? = some fn) (hname : (fn.name == "runtime.NumGoroutine") = false) (hb : fn.body.isNone = true) (hn : Extern.findNext fn = none) (he : Extern.find fn = some Extern.MathFloatBits.float64bits) (b : Nat) :
    PureC X g [.c (.f .f64 (some b))] (.c (.v (.int .u64 b))) := by
  refine PureC.extern hf hname hb hn he fun m arr hr => ?_
  obtain ⟨u, rfl, hu⟩ := one_arg hr
  obtain ⟨b', rfl, hb'⟩ := hu.cell.floatI
  unfold fOf at hb'
  split at hb'
  · cases hb'
  · simp only [Option.some.injEq] at hb'
    subst hb'
    exact ⟨.int .u64 b, m.w, rfl, rfl, rfl, rfl, rfl, fun m' => .c (.v rfl)⟩
theorem pure_rte (hf : X.P.funcs[g]? = some fn) (hname : (fn.name == "runtime.NumGoroutine") = false) (hb : fn.body.isNone = true) (hn : Extern.findNext fn = none) (he : Extern.find fn = some (Extern.MathFloor.toIntegral "math.RoundToEven" .even)) (b : Nat) (hnum : ((FloatKind.f64.decode b).integral .even).isNaN = false) :
    PureC X g [.c (.f .f64 (some b))] (.c (.f .f64 (rte (some b)))) := by
  refine PureC.extern hf hname hb hn he fun m arr hr => ?_
  obtain ⟨u, rfl, hu⟩ := one_arg hr
  obtain ⟨b', rfl, hb'⟩ := hu.cell.floatI
  unfold fOf at hb'
  split at hb'
  · cases hb'
  · rename_i hnan
    simp only [Option.some.injEq] at hb'
    subst hb'
    refine ⟨.float .f64 (FloatKind.f64.encode ((FloatKind.f64.decode b).integral .even)), m.w, ?_, rfl, rfl, rfl, rfl, fun m' => .c (.fs (write_num .f64 _ hnum))⟩
    have hnn : (FloatKind.f64.decode b).isNaN = false := by simpa [isNaN] using hnan
    have hdef : ∀ d : Ieee.Datum, FloatKind.f64.decode b = d → d.isNaN = false → Extern.MathFloor.toIntegral "math.RoundToEven" .even #[.float .f64 b] = pure (.float .f64 (FloatKind.f64.encode (d.integral .even))) := fun d hd hn => by
      change (match FloatKind.f64.decode b with
        | .nan s t => (if FloatKind.f64.format.quiet t = t then pure (.float .f64 b) else do
          let kept ← choose (.extern "math.Floor,Ceil,Trunc,RoundToEven.signallingNaN kept" 2)
          pure (.float .f64 (if kept == 1 then b else FloatKind.f64.encode (.nan s (FloatKind.f64.format.quiet t)))))
        | d => pure (.float .f64 (FloatKind.f64.encode (d.integral .even))) : Sem Value) = _
      rw [hd]
      cases d with
      | nan s t => simp [Ieee.Datum.isNaN] at hn
      | _ => rfl
    rw [hdef _ rfl hnn]
    rfl
/-- A NaN, rounded, is a NaN. -/
theorem pure_rte_nan (hf : X.P.funcs[g]? = some fn) (hname : (fn.name == "runtime.NumGoroutine") = false) (hb : fn.body.isNone = true) (hn : Extern.findNext fn = none) (he : Extern.find fn = some (Extern.MathFloor.toIntegral "math.RoundToEven" .even)) (hq : ∀ b, isNaN .f64 b = true → ∀ s t, FloatKind.f64.decode b = .nan s t → isNaN .f64 (FloatKind.f64.encode (.nan s (FloatKind.f64.format.quiet t))) = true) :
    PureC X g [.c (.f .f64 none)] (.c (.f .f64 none)) := by
  refine PureC.extern hf hname hb hn he fun m arr hr => ?_
  obtain ⟨u, rfl, hu⟩ := one_arg hr
  obtain ⟨b, rfl, hb'⟩ := hu.cell.floatI
  have hnan : isNaN .f64 b = true := by
    unfold fOf at hb'
    split at hb'
    · rename_i h; exact h
    · cases hb'
  obtain ⟨s, t, hd⟩ := read_nan hnan
  have hd' : FloatKind.f64.decode b = .nan s t := hd
  have hdef : Extern.MathFloor.toIntegral "math.RoundToEven" .even #[.float .f64 b] = (if FloatKind.f64.format.quiet t = t then pure (.float .f64 b) else do
          let kept ← choose (.extern "math.Floor,Ceil,Trunc,RoundToEven.signallingNaN kept" 2)
          pure (.float .f64 (if kept == 1 then b else FloatKind.f64.encode (.nan s (FloatKind.f64.format.quiet t))))) := by
    change (match FloatKind.f64.decode b with
        | .nan s t => (if FloatKind.f64.format.quiet t = t then pure (.float .f64 b) else do
          let kept ← choose (.extern "math.Floor,Ceil,Trunc,RoundToEven.signallingNaN kept" 2)
          pure (.float .f64 (if kept == 1 then b else FloatKind.f64.encode (.nan s (FloatKind.f64.format.quiet t)))))
        | d => pure (.float .f64 (FloatKind.f64.encode (d.integral .even))) : Sem Value) = _
    rw [hd']
  rw [hdef]
  split
  · exact ⟨.float .f64 b, m.w, rfl, rfl, rfl, rfl, rfl, fun m' => .c (.fn hnan)⟩
  · refine ⟨_, _, rfl, rfl, rfl, rfl, rfl, fun m' => .c ?_⟩
    split
    · exact .fn hnan
    · exact .fn (hq b hnan s t hd')
end
end Go.VL
