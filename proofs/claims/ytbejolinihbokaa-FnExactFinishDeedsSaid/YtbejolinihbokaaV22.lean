/- From a law's contract on data to its row's frame. Over any program. -/
import Derived.Test.YtbejolinihbokaaV21
import Derived.ProofKit
namespace Go.VL
open Go.RowKit Go.WideShapes Go.ChangeShapes Go.ChangeAt

/-- A slot that holds a value of a type. -/
def VTy (lay : TypeId → Option Lay) (t : TypeId) (v : V) : Prop := match lay t with
  | some L => if L.kind.agg then ∃ cs, v = .agg (reowns false cs) ∧ Cty lay t cs else ∃ c, v = .c (reown false c) ∧ Cty lay t [c]
  | none => False

section
variable {T : Type} {enc : TypeId × Value → T} {X : Cx}

theorem not_agg {w : World} {base : Nat} {t : TypeId} {v : Value} {k : LK} (hk : k.ok X.P t) (ha : k.agg = false) (ho : k ≠ .other) (h : Value.okWide X.P w .any base t v) : v.cells = #[v] := by
  unfold Value.okWide at h
  cases k <;> simp only [LK.agg] at ha <;> try (cases ha; done)
  case other => exact absurd rfl ho
  all_goals
    have hu : X.P.underlying t = some _ := hk
    rw [hu] at h
    simp only [Cell.okWide, hu, Cell.ok] at h
    cases v <;> first
      | rfl
      | (exact absurd h (by simp))

theorem open_arg {m : Mem} (hF : ∀ b, b < m.w.heap.size → m.F b) {base f : Nat} {t : TypeId} {v : Value} {d : DataW T} {ps : List MemPlace} (hok : okT X.lay f t = true) (hv : Value.okWide X.P m.w .any base t v) (h : DataW.Trod enc X.P m.w 0 (fun _ => true) true t v d ps) :
    ∃ x, VTy X.lay t x ∧ RV m x v := by
  obtain ⟨g, hg⟩ := h
  obtain ⟨cs, h1, h2, h3, h4⟩ := open_trod hF f g t _ _ hok hg
  have hok0 := hok
  cases f with
  | zero => cases hok
  | succ f =>
  unfold okT at hok
  cases hL : X.lay t with
  | none => rw [hL] at hok; cases hok
  | some L =>
    have hk := (X.ok t L hL).kind
    have hRV : ∀ (j : Nat) (c : C), cs[j]? = some c → ∃ u, v.cells[j]? = some u ∧ R m (reown false c) u := fun j c hj => by
      obtain ⟨u, k1, k2⟩ := h4 j c hj
      exact ⟨u, by simpa using k1, k2.r⟩
    cases hagg : L.kind.agg with
    | true =>
      refine ⟨.agg (reowns false cs), by unfold VTy; rw [hL]; simp only [hagg, if_true]; exact ⟨cs, rfl, h1⟩, ?_⟩
      have hva : ∃ arr, v = .agg arr := by
        unfold Value.okWide at hv
        cases hkk : L.kind <;> rw [hkk] at hagg hk <;> simp only [LK.agg] at hagg <;> try (cases hagg; done)
        · have hu : X.P.underlying t = some (.array _ _) := hk
          rw [hu] at hv
          obtain ⟨arr, rfl, -⟩ := hv
          exact ⟨arr, rfl⟩
        · obtain ⟨fields, hu, -⟩ := hk
          rw [hu] at hv
          obtain ⟨arr, rfl, -⟩ := hv
          exact ⟨arr, rfl⟩
      obtain ⟨arr, rfl⟩ := hva
      refine .agg (by rw [reowns_length]; simpa [Value.cells] using h3) fun j c hj => ?_
      obtain ⟨c', k1, rfl⟩ := reowns_get hj
      exact hRV j c' k1
    | false =>
      have hno : L.kind ≠ .other := by
        intro h
        obtain ⟨kd, a, b, z⟩ := L
        simp only at h
        subst h
        rw [hL] at hok
        cases hok
      have hc := not_agg hk hagg hno hv
      rw [hc] at h3 hRV
      have hl1 : cs.length = 1 := by simpa using h3.symm
      match cs, hl1, h1, hRV with
      | [c], _, h1, hRV =>
        refine ⟨.c (reown false c), by unfold VTy; rw [hL]; simp only [hagg, Bool.false_eq_true, if_false]; exact ⟨c, rfl, h1⟩, .c ?_⟩
        obtain ⟨u, k1, k2⟩ := hRV 0 c rfl
        simp at k1
        rw [k1]
        exact k2

theorem open_args {m : Mem} (hF : ∀ b, b < m.w.heap.size → m.F b) {base f : Nat} : ∀ {ts : List TypeId} {vs : List Value} {ds : List (DataW T)} {ps : List MemPlace}, (∀ t ∈ ts, okT X.lay f t = true) →
    (∀ (j : Nat) (t : TypeId) (v : Value), ts[j]? = some t → vs[j]? = some v → Value.okWide X.P m.w .any base t v) → DataW.TrodAll enc X.P m.w 0 (fun _ => true) true ts vs ds ps →
    ∃ xs : List V, xs.length = ts.length ∧ vs.length = ts.length ∧ (∀ (j : Nat) (t : TypeId) (x : V), ts[j]? = some t → xs[j]? = some x → VTy X.lay t x) ∧ ∀ (j : Nat) (x : V), xs[j]? = some x → ∃ u, vs[j]? = some u ∧ RV m x u
  | [], vs, ds, ps, _, _, h => by
    obtain ⟨rfl, rfl, rfl⟩ := trodAll_nil h
    exact ⟨[], rfl, rfl, fun j t x h => by simp at h, fun j x h => by simp at h⟩
  | t :: ts, vs, ds, ps, hok, hv, h => by
    obtain ⟨v, vs', d, ds', p, q, rfl, rfl, rfl, h0, h1⟩ := trodAll_cons h
    obtain ⟨x, k1, k2⟩ := open_arg hF (hok t (by simp)) (hv 0 t v rfl rfl) h0
    obtain ⟨xs, l1, l0, l2, l3⟩ := open_args hF (base := base) (fun u hu => hok u (by simp [hu])) (fun j u w h1 h2 => hv (j + 1) u w (by simpa using h1) (by simpa using h2)) h1
    refine ⟨x :: xs, by simp [l1], by simp [l0], fun j u y hj hy => ?_, fun j y hy => ?_⟩
    · cases j with
      | zero => simp at hj hy; subst hj hy; exact k1
      | succ j => exact l2 j u y (by simpa using hj) (by simpa using hy)
    · cases j with
      | zero => simp at hy; subst hy; exact ⟨v, rfl, k2⟩
      | succ j => simpa using l3 j y (by simpa using hy)

/-! What cells of a type are -/
theorem cty_int {lay : TypeId → Option Lay} {t : TypeId} {k : IntKind} {a b : Nat} {z : List Value} (hL : lay t = some ⟨.int k, a, b, z⟩) {cs : List C} (h : Cty lay t cs) : ∃ n, cs = [.v (.int k n)] ∧ k.min ≤ n ∧ n ≤ k.max := by
  cases h with
  | int h hn => rw [hL] at h; simp only [Option.some.injEq, Lay.mk.injEq, LK.int.injEq] at h; obtain ⟨rfl, -⟩ := h; exact ⟨_, rfl, hn⟩
  | _ => first
    | (rename_i h; rw [hL] at h; simp at h; done)
    | (rename_i h _; rw [hL] at h; simp at h; done)
    | (rename_i h _ _; rw [hL] at h; simp at h; done)
    | (rename_i h _ _ _; rw [hL] at h; simp at h; done)
    | (rename_i h _ _ _ _; rw [hL] at h; simp at h; done)
theorem cty_bool {lay : TypeId → Option Lay} {t : TypeId} {a b : Nat} {z : List Value} (hL : lay t = some ⟨.bool, a, b, z⟩) {cs : List C} (h : Cty lay t cs) : ∃ x, cs = [.v (.bool x)] := by
  cases h with
  | bool h => exact ⟨_, rfl⟩
  | _ => first
    | (rename_i h; rw [hL] at h; simp at h; done)
    | (rename_i h _; rw [hL] at h; simp at h; done)
    | (rename_i h _ _; rw [hL] at h; simp at h; done)
    | (rename_i h _ _ _; rw [hL] at h; simp at h; done)
    | (rename_i h _ _ _ _; rw [hL] at h; simp at h; done)
theorem cty_float {lay : TypeId → Option Lay} {t : TypeId} {k : FloatKind} {a b : Nat} {z : List Value} (hL : lay t = some ⟨.float k, a, b, z⟩) {cs : List C} (h : Cty lay t cs) : ∃ x, cs = [.f k (fOf k x)] ∧ (Lit.float k x).wf = true := by
  cases h with
  | float h hw => rw [hL] at h; simp only [Option.some.injEq, Lay.mk.injEq, LK.float.injEq] at h; obtain ⟨rfl, -⟩ := h; exact ⟨_, rfl, hw⟩
  | _ => first
    | (rename_i h; rw [hL] at h; simp at h; done)
    | (rename_i h _; rw [hL] at h; simp at h; done)
    | (rename_i h _ _; rw [hL] at h; simp at h; done)
    | (rename_i h _ _ _; rw [hL] at h; simp at h; done)
    | (rename_i h _ _ _ _; rw [hL] at h; simp at h; done)
theorem cty_string {lay : TypeId → Option Lay} {t : TypeId} {a b : Nat} {z : List Value} (hL : lay t = some ⟨.string, a, b, z⟩) {cs : List C} (h : Cty lay t cs) : ∃ s : ByteArray, cs = [.v (.string s)] ∧ s.size ≤ maxLen := by
  cases h with
  | string h hs => exact ⟨_, rfl, hs⟩
  | _ => first
    | (rename_i h; rw [hL] at h; simp at h; done)
    | (rename_i h _; rw [hL] at h; simp at h; done)
    | (rename_i h _ _; rw [hL] at h; simp at h; done)
    | (rename_i h _ _ _; rw [hL] at h; simp at h; done)
    | (rename_i h _ _ _ _; rw [hL] at h; simp at h; done)
theorem cty_slice {lay : TypeId → Option Lay} {t e : TypeId} {a b : Nat} {z : List Value} (hL : lay t = some ⟨.slice e, a, b, z⟩) {cs : List C} (h : Cty lay t cs) : ∃ xs : List (List C), cs = [.sl true xs.length (szOf lay e) xs.flatten] ∧ (∀ x ∈ xs, Cty lay e x) ∧ xs.length ≤ maxLen := by
  cases h with
  | slice h xs hx hl hn => rw [hL] at h; simp only [Option.some.injEq, Lay.mk.injEq, LK.slice.injEq] at h; obtain ⟨rfl, -⟩ := h; exact ⟨xs, rfl, hx, hn⟩
  | _ => first
    | (rename_i h; rw [hL] at h; simp at h; done)
    | (rename_i h _; rw [hL] at h; simp at h; done)
    | (rename_i h _ _; rw [hL] at h; simp at h; done)
    | (rename_i h _ _ _; rw [hL] at h; simp at h; done)
    | (rename_i h _ _ _ _; rw [hL] at h; simp at h; done)
theorem cty_struct {lay : TypeId → Option Lay} {t : TypeId} {fs : List (TypeId × Nat)} {a b : Nat} {z : List Value} (hL : lay t = some ⟨.struct fs, a, b, z⟩) {cs : List C} (h : Cty lay t cs) : cs.length = a ∧ ∀ p ∈ fs, Cty lay p.1 (sub cs p.2 (szOf lay p.1)) := by
  cases h with
  | struct h cs hl hf => rw [hL] at h; simp only [Option.some.injEq, Lay.mk.injEq, LK.struct.injEq] at h; obtain ⟨rfl, rfl, -⟩ := h; exact ⟨hl, hf⟩
  | _ => first
    | (rename_i h; rw [hL] at h; simp at h; done)
    | (rename_i h _; rw [hL] at h; simp at h; done)
    | (rename_i h _ _; rw [hL] at h; simp at h; done)
    | (rename_i h _ _ _; rw [hL] at h; simp at h; done)
    | (rename_i h _ _ _ _; rw [hL] at h; simp at h; done)
/-- Rows that are each written so are a list written so. -/
theorem flat_of {α : Type} {enc : α → List C} : ∀ {xs : List (List C)}, (∀ x ∈ xs, ∃ a, x = enc a) → ∃ as : List α, as.length = xs.length ∧ xs.flatten = flat enc as ∧ ∀ a ∈ as, enc a ∈ xs
  | [], _ => ⟨[], rfl, rfl, fun a h => by cases h⟩
  | x :: xs, h => by
    obtain ⟨a, rfl⟩ := h x (by simp)
    obtain ⟨as, h1, h2, h3⟩ := flat_of (xs := xs) (fun y hy => h y (by simp [hy]))
    exact ⟨a :: as, by simp [h1], by rw [List.flatten_cons, h2, flat_cons], fun b hb => by
      rcases List.mem_cons.1 hb with rfl | hb
      · simp
      · simp [h3 b hb]⟩

/-- A law that answers 'true' for all data of its types answers 'true', and turns nothing that was there. -/
theorem law_calls {g : FuncId} {ts : List TypeId} (hen : Enters X g) (hG : X.G = []) {f : Nat} (hok : (ts.all fun t => okT X.lay f t) = true) (law : ∀ xs : List V, xs.length = ts.length → (∀ (j : Nat) (t : TypeId) (x : V), ts[j]? = some t → xs[j]? = some x → VTy X.lay t x) → PureC X g xs (.c (.v (.bool true))))
    {W : World} {base : Nat} {args : Array Value} {ds : List (DataW T)} {p : List MemPlace} (hval : ∀ (j : Nat) t v, ts[j]? = some t → args[j]? = some v → Value.okWide X.P W .any base t v) (hA : DataW.TrodAll enc X.P W 0 (fun _ => true) true ts args.toList ds p) :
    Calls X.P g args W fun e W' => e = .returned (.bool true) ∧ Below W.heap.size W W' := by
  obtain ⟨xs, l1, l0, l2, l3⟩ := open_args (X := X) (m := ⟨W, fun b => b < W.heap.size, W.heap.size, 0, fun _ => ⟨0, 0, 0, true⟩⟩) (fun b hb => hb) (base := base) (f := f) (fun t ht => List.all_eq_true.1 hok t ht) (fun j t v h1 h2 => hval j t v h1 (by simpa using h2)) hA
  have hp := law xs l1 l2
  have hq := hp W (fun b => b < W.heap.size) (fun _ => ⟨0, 0, 0, true⟩) args ⟨rfl, fun b hb => hb, Nat.le_refl _, fun id hid => absurd hid (Nat.not_lt_zero _), fun id o ho => by simp at ho, fun id o ho => by simp at ho, fun i j oi oj hi => by simp at hi, fun x hx => by rw [hG] at hx; cases hx⟩
    ⟨by rw [l1, ← l0]; simp, fun j x hj => let ⟨u, k1, k2⟩ := l3 j x hj; ⟨u, by simpa using k1, k2⟩⟩
  rcases hq with ⟨u, w', h1, -⟩ | ⟨-, h2⟩
  · rw [hen] at h1; cases h1
  · exact h2.mono fun e W' ⟨u, he, hb, hr⟩ => ⟨by rw [he, hr.val], hb⟩
end
end Go.VL
