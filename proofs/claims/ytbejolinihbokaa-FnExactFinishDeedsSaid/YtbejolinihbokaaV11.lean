/- A function on data alone, by its body. Over any program. -/
import Derived.Test.YtbejolinihbokaaV10
namespace Go.VL
open Go.RowKit

/-- Frozen data, where more is frozen. -/
theorem RV.mono1 {m m' : Mem} (hw : m'.w = m.w) (hN : m.N = 0) (hB : m.B = m'.B) (hF : ∀ b, m.F b → m'.F b) (_hμ : ∀ i, i < m.N → m'.μ i = m.μ i) {v : V} {u : Value} (h : RV m v u) : RV m' v u := by
  have hR : ∀ {c : C} {u : Value}, R m c u → R m' c u := fun {c u} h => by
    induction h with
    | fz h => exact .fz (h.go (fun b _ j => by rw [hw]) (fun b hb _ => hF b hb) (fun _ => by rw [hB]; exact Nat.le_refl _))
    | pt h => omega
    | mu h => omega
    | mn h => omega
    | func us hl hw hr ih => exact .func us hl hw ih
  induction h with
  | c h => exact .c (hR h)
  | agg hl hr => exact .agg hl fun j c hj => let ⟨u, h1, h2⟩ := hr j c hj; ⟨u, h1, hR h2⟩
  | tup us hl hw _ ih => exact .tup us hl hw ih
  | any => exact .any

theorem PureC.of_call {X : Cx} {g : FuncId} {args : List V} {r : V} (h : CallC X g args [] (fun r0 H => TrV H [] r0 r)) : PureC X g args r := by
  intro w F μ arr hS hr
  refine (h _ arr hS hr).mono fun u w' ⟨m', r0, H', hmw, hfz, hS', hE, hrv⟩ => ?_
  subst hmw
  refine ⟨⟨hE.os, hE.tape, hE.output, hE.size, fun k hk => hE.keep k (.inr hk)⟩, ?_⟩
  have h1 := hrv.turn hS' hfz
  have hB : m'.B = w.heap.size := hE.B
  refine RV.mono1 (m := turned m' H' []) (m' := ⟨m'.w, fun b => F b ∨ (w.heap.size ≤ b ∧ b < m'.w.heap.size), w.heap.size, 0, μ⟩) rfl rfl hB (fun b hb => ?_) (fun i hi => absurd hi (Nat.not_lt_zero _)) h1
  rcases hb with hb | ⟨id, o, ho, hl, hg, -, rfl⟩
  · rcases hE.Fn b hb with h2 | h2
    · exact .inl h2
    · exact .inr ⟨h2, hS'.lo b hb⟩
  · obtain ⟨-, -, -, -, -, -, hBb⟩ := hS'.ob id o ho hl hg
    exact .inr ⟨by rw [← hB]; exact hBb, hS'.blk id (Mem.N_lt hS' ho) hg⟩

theorem PureC.of_body {X : Cx} {D : DR} (hD : DrawOk X D) {g : FuncId} {fn : Func} {c : Code} (hen : Enters X g) (hf : X.P.funcs[g]? = some fn) (hb : fn.body = some c) {args : List V} {r : V} {n : Nat} (hn : args.length + (fn.ntmps - args.length) = n)
    (h : vwp X n 0 D c (retQ X fn.results.toList (fun r0 H => TrV H [] r0 r)) (slots args) []) : PureC X g args r :=
  .of_call (.of_body hD hen hf hb hn h)
end Go.VL
