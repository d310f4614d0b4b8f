/- Variables of the program that read as known data, at a law's row. Over any program. -/
import Derived.Test.YtbejolinihbokaaV34
import Derived.LaidMore
import Derived.MakeChecks
namespace Go.VL
open Go.RowKit Go.WideShapes Go.ChangeShapes Go.ChangeAt

/-- Types whose values are plain cells. -/
def okLit (lay : TypeId → Option Lay) : Nat → TypeId → Bool
  | 0, _ => false
  | f + 1, t => match lay t with
    | some ⟨.bool, a, _, _⟩ => Nat.beq a 1
    | some ⟨.int _, a, _, _⟩ => Nat.beq a 1
    | some ⟨.string, a, _, _⟩ => Nat.beq a 1
    | some ⟨.struct fs, a, _, _⟩ => (fs.all fun p => okLit lay f p.1) && tile lay 0 fs a
    | some ⟨.array n e, a, _, _⟩ => okLit lay f e && Nat.beq (n * szOf lay e) a
    | _ => false

/-- The cells that a datum is. -/
def litV {T : Type} : Nat → DataW T → List Value
  | 0, _ => []
  | _ + 1, .lit (.bool b) => [.bool b]
  | _ + 1, .lit (.int k n) => [.int k n]
  | _ + 1, .lit (.string s) => [.string ⟨s.toArray⟩]
  | f + 1, .agg ds => ds.flatMap (litV f)
  | _ + 1, _ => []

theorem litV_plain {T : Type} : ∀ (f : Nat) (d : DataW T), ∀ v ∈ litV f d, plain v = true
  | 0, d, v, h => by simp [litV] at h
  | f + 1, d, v, h => by
    unfold litV at h
    split at h
    · simp at h
    · simp at h; subst h; rfl
    · simp at h; subst h; rfl
    · simp at h; subst h; rfl
    · rename_i hf
      simp only [List.mem_flatMap] at h
      obtain ⟨e, -, he⟩ := h
      exact litV_plain _ e v (by cases hf; exact he)
    · simp at h

section
variable {T : Type} {enc : TypeId × Value → T} {X : Cx} {w : World}

theorem tile_flat {L : DataW T → List Value} {vs : List Value} {a : Nat} (hv : vs.length = a) : ∀ {fs : List (TypeId × Nat)} {xs : List (DataW T)} {off : Nat}, tile X.lay off fs a = true → xs.length = fs.length →
    (∀ (i : Nat) (p : TypeId × Nat) (x : DataW T), fs[i]? = some p → xs[i]? = some x → (vs.drop p.2).take (szOf X.lay p.1) = L x) → vs.drop off = xs.flatMap L
  | [], [], off, h, _, _ => by
    have := Nat.eq_of_beq_eq_true (show Nat.beq off a = true from h)
    subst this
    rw [List.drop_of_length_le (by omega)]; rfl
  | [], x :: xs, off, _, hl, _ => by simp at hl
  | q :: r, [], off, _, hl, _ => by simp at hl
  | q :: r, x :: xs, off, h, hl, hx => by
    simp only [tile, Bool.and_eq_true] at h
    have h0 := Nat.eq_of_beq_eq_true h.1
    have ih := tile_flat (L := L) hv h.2 (by simpa using hl) (fun i p y h1 h2 => hx (i + 1) p y (by simpa using h1) (by simpa using h2))
    have h1 := hx 0 q x rfl rfl
    rw [h0] at h1
    rw [List.flatMap_cons, ← h1, ← ih, ← List.drop_drop, List.take_append_drop]

theorem lit_trod : ∀ (f g : Nat) (t : TypeId) (vs : List Value) (x : DataW T × List MemPlace) {b : Nat} {sp : Nat → Bool} {hd : Bool}, okLit X.lay f t = true → DataW.trod enc X.P w b sp hd g t vs = some x → vs = litV f x.1 ∧ vs.length = szOf X.lay t := by
  intro f
  induction f with
  | zero => intro g t vs x b sp hd hok h; cases hok
  | succ f ih =>
    intro g t vs x b sp hd hok h
    have cellsOf : ∀ {t : TypeId} {L : Lay}, X.lay t = some L → X.P.cellsOf t = szOf X.lay t := fun {t L} h => by
      obtain ⟨-, -, i, z, h1, h2, -⟩ := X.ok t L h
      simp [Program.cellsOf, h1, h2, szOf, h]
    have some_lay : ∀ {e : TypeId}, okLit X.lay f e = true → ∃ Le, X.lay e = some Le := fun {e} h => by
      cases f with
      | zero => cases h
      | succ f =>
        unfold okLit at h
        cases he : X.lay e with
        | none => rw [he] at h; cases h
        | some Le => exact ⟨Le, rfl⟩
    unfold okLit at hok
    cases hL : X.lay t with
    | none => rw [hL] at hok; cases hok
    | some L =>
      rw [hL] at hok
      have hk := (X.ok t L hL).kind
      have hsz : szOf X.lay t = L.size := by unfold szOf; rw [hL]
      obtain ⟨kind, a, bb, z⟩ := L
      have hco := cellsOf hL
      simp only at hsz
      cases kind with
      | bool =>
        obtain ⟨b', rfl, rfl⟩ := DataW.trod_bool (show X.P.underlying t = some .bool from hk) h
        exact ⟨rfl, by rw [hsz, Nat.eq_of_beq_eq_true hok]; rfl⟩
      | string =>
        obtain ⟨s, rfl, rfl, -⟩ := DataW.trod_string (show X.P.underlying t = some .string from hk) h
        exact ⟨rfl, by rw [hsz, Nat.eq_of_beq_eq_true hok]; rfl⟩
      | int k =>
        obtain ⟨n, rfl, rfl, -⟩ := DataW.trod_int (show X.P.underlying t = some (.int k) from hk) h
        exact ⟨rfl, by rw [hsz, Nat.eq_of_beq_eq_true hok]; rfl⟩
      | array n e =>
        simp only [Bool.and_eq_true] at hok
        obtain ⟨hok, hb⟩ := hok
        have hb' := Nat.eq_of_beq_eq_true hb
        obtain ⟨xs, g', -, rfl, hvl, hxl, hget⟩ := DataW.trod_array (show X.P.underlying t = some (.array n e) from hk) h
        obtain ⟨Le, hLe⟩ := some_lay hok
        have hc := cellsOf hLe
        have ht := tile_range (lay := X.lay) (e := e) n 0
        rw [Nat.zero_mul, Nat.zero_add, hb'] at ht
        rw [hco, hsz] at hvl
        have := tile_flat (X := X) (L := litV f) (xs := xs.map (·.1)) hvl ht (by simp [hxl]) (fun i p y h1 h2 => by
          rw [List.getElem?_map, Option.map_eq_some_iff] at h1 h2
          obtain ⟨j, h1, rfl⟩ := h1
          obtain ⟨y', h2, rfl⟩ := h2
          have hi : i < n := by have := (List.getElem?_eq_some_iff.1 h2).1; omega
          rw [List.getElem?_range' hi] at h1
          have := Option.some.inj h1
          subst this
          have h3 := hget i hi
          rw [h2, hc] at h3
          simpa using (ih _ _ _ _ hok h3).1)
        exact ⟨by simpa [litV] using this, by rw [hvl, hsz]⟩
      | struct fs =>
        obtain ⟨fields, hu, hfs, -⟩ := hk
        obtain ⟨xs, g', -, rfl, hvl, hxl, hget⟩ := DataW.trod_struct hu h
        rw [hco, hsz] at hvl
        simp only [Bool.and_eq_true] at hok
        obtain ⟨hok, htile⟩ := hok
        have := tile_flat (X := X) (L := litV f) (xs := xs.map (·.1)) hvl htile (by simp [hxl, ← hfs]) (fun i p y h1 h2 => by
          have hmem := List.all_eq_true.1 hok p (List.mem_of_getElem? h1)
          rw [← hfs, List.getElem?_map, Option.map_eq_some_iff] at h1
          obtain ⟨fd, h1, h4⟩ := h1
          rw [List.getElem?_map, Option.map_eq_some_iff] at h2
          obtain ⟨y', h2, rfl⟩ := h2
          have h3 := hget i fd (by simpa using h1)
          obtain ⟨Le, hLe⟩ := some_lay hmem
          have e1 : fd.type = p.1 := by rw [← h4]
          have e2 : fd.offset = p.2 := by rw [← h4]
          rw [h2, e1, e2, cellsOf hLe] at h3
          exact (ih _ _ _ _ hmem h3).1)
        exact ⟨by simpa [litV] using this, by rw [hvl, hsz]⟩
      | _ => first
        | (simp at hok; done)
        | (cases hok; done)

/-- What a listed variable holds. -/
theorem laid_cells {n : String} {d : DataW Unit} : ∀ {l : List (String × DataW Unit)} {ps : List MemPlace}, DataW.LaidVars X.P w l ps → (n, d) ∈ l → ∀ {g : Nat} {t : TypeId} {f : Nat}, X.P.globalNamed n = some g → (X.P.globals[g]?).map (·.type) = some t → okLit X.lay f t = true →
    ∀ (j : Nat) (x : Value), (litV f d)[j]? = some x → w.cell? ⟨g, j, none⟩ = some x ∧ plain x = true
  | [], ps, _, hm, g, t, f, _, _, _ => by cases hm
  | (n', d') :: r, ps, h, hm, g, t, f, hg, ht, hok => by
    obtain ⟨g0, t0, cs, fuel, p, q, h1, h2, h3, h4, h5, -⟩ := h
    rcases List.mem_cons.1 hm with he | hm
    · cases he
      obtain rfl := Option.some.inj (hg.symm.trans h1)
      obtain rfl := Option.some.inj (ht.symm.trans h2)
      obtain ⟨k1, -⟩ := lit_trod f _ _ _ _ hok h4
      intro j x hj
      refine ⟨?_, litV_plain f d x (List.mem_of_getElem? hj)⟩
      rw [World.var?_cell hg h3 j]
      simp only at k1
      rw [← k1] at hj
      simpa using hj
    · exact laid_cells h5 hm hg ht hok

/-- A law that answers 'true' for all data of its types, where some variables hold what the program has laid, answers 'true', and turns nothing that was there. -/
theorem law_calls_g {g : FuncId} {ts : List TypeId} (hen : Enters X g) {f : Nat} (hok : (ts.all fun t => okT X.lay f t) = true) (law : ∀ xs : List V, xs.length = ts.length → (∀ (j : Nat) (t : TypeId) (x : V), ts[j]? = some t → xs[j]? = some x → VTy X.lay t x) → PureC X g xs (.c (.v (.bool true))))
    {W : World} (hG : ∀ q ∈ X.G, q.2 ≠ [] ∧ (∀ (j : Nat) (x : Value), q.2[j]? = some x → W.cell? ⟨q.1, j, none⟩ = some x ∧ plain x = true) ∧ GlAt W q)
    {base : Nat} {args : Array Value} {ds : List (DataW T)} {p : List MemPlace} (hval : ∀ (j : Nat) t v, ts[j]? = some t → args[j]? = some v → Value.okWide X.P W .any base t v) (hA : DataW.TrodAll enc X.P W 0 (fun _ => true) true ts args.toList ds p) :
    Calls X.P g args W fun e W' => e = .returned (.bool true) ∧ Below W.heap.size W W' := by
  obtain ⟨xs, l1, l0, l2, l3⟩ := open_args (X := X) (m := ⟨W, fun b => b < W.heap.size, W.heap.size, 0, fun _ => ⟨0, 0, 0, true⟩⟩) (fun b hb => hb) (base := base) (f := f) (fun t ht => List.all_eq_true.1 hok t ht) (fun j t v h1 h2 => hval j t v h1 (by simpa using h2)) hA
  have hp := law xs l1 l2
  have hq := hp W (fun b => b < W.heap.size) (fun _ => ⟨0, 0, 0, true⟩) args ⟨rfl, fun b hb => hb, Nat.le_refl _, fun id hid => absurd hid (Nat.not_lt_zero _), fun id o ho => by simp at ho, fun id o ho => by simp at ho, fun i j oi oj hi => by simp at hi, fun x hx => by
      obtain ⟨k1, k2⟩ := hG x hx
      refine ⟨?_, k2⟩
      obtain ⟨y, hy⟩ := List.exists_mem_of_ne_nil _ k1
      obtain ⟨i, hi⟩ := List.getElem?_of_mem hy
      exact (cell?_spot (k2.1 i y hi).1).2⟩
    ⟨by rw [l1, ← l0]; simp, fun j x hj => let ⟨u, k1, k2⟩ := l3 j x hj; ⟨u, by simpa using k1, k2⟩⟩
  rcases hq with ⟨u, w', h1, -⟩ | ⟨-, h2⟩
  · rw [hen] at h1; cases h1
  · exact h2.mono fun e W' ⟨u, he, hb, hr⟩ => ⟨by rw [he, hr.val], hb⟩
end
end Go.VL
namespace Go.VL
open Go.RowKit
section
variable {X : Cx} {all r : List Oper} {K : Sl → List Ob → Prop} {sl : Sl} {H : List Ob} {d : Tmp} {ty : TypeId} {ps : String} {af : Array Edge}
/-- An element of a frozen array. -/
theorem v_idx_av {t e : TypeId} {x i : Operand} {a b : Nat} {z : List Value} {o : Bool} {cs : List C} {m k : Nat} {kk : IntKind} {j : Int} {L : Lay} (hL : X.lay t = some ⟨.array m e, a, b, z⟩) (hLe : X.lay e = some L) (hk : L.size = k)
    (hx : rho X.G sl x = .c (.vw o cs 0)) (hi : rho X.G sl i = .c (.v (.int kk j))) (hj : 0 ≤ j ∧ j < m) (h : ∀ (q : Nat), q < m → j = (q : Int) → vops X all r K (upd sl d (.c (.vw o cs (q * k)))) H) :
    vops X all (⟨some d, .indexAddr t x i, ty, ps, af, none⟩ :: r) K sl H := by
  obtain ⟨q, rfl⟩ := Int.eq_ofNat_of_zero_le hj.1
  refine v_q _ rfl ?_ (h q (by omega) rfl)
  simp only [evq, hL, hx, hi, hLe]
  rw [if_pos ⟨hj.1, hj.2⟩, Int.toNat_natCast, hk, Nat.zero_add]
/-- .. loaded. -/
theorem v_load_av {α : Type} {enc : α → List C} {t : TypeId} {x : Operand} {L : Lay} {o : Bool} {cs : List C} {q k : Nat} (ys : List α) (v : V) (he : ∀ a, (enc a).length = k) (hL : X.lay t = some L) (hk : L.size = k) (hx : rho X.G sl x = .c (.vw o cs (q * k))) (hc : cs = flat enc ys) (hq : q < ys.length)
    (hv : mkV L.kind.agg (reowns o (enc ys[q])) = some v) (h : vops X all r K (upd sl d v) H) : vops X all (⟨some d, .load t x, ty, ps, af, none⟩ :: r) K sl H := by
  subst hc hk
  have hb : q * L.size + L.size ≤ (flat enc ys).length := by
    rw [flat_length he]
    have : (q + 1) * L.size ≤ ys.length * L.size := Nat.mul_le_mul_right _ hq
    rw [Nat.add_mul] at this
    omega
  refine v_q v rfl ?_ h
  simp only [evq, hL, hx]
  rw [if_pos hb, sub_flat he hq]
  exact hv
end
end Go.VL
