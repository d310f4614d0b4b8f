/- A law's arguments, as data. Over any program. -/
import Derived.Test.YtbejolinihbokaaV20
import Derived.ChangeShapes
import Derived.OpenShut
namespace Go.VL
open Go.RowKit

def szOf (lay : TypeId → Option Lay) (t : TypeId) : Nat := match lay t with
  | some L => L.size
  | none => 0

/-- Cells that hold a value of a type. -/
inductive Cty (lay : TypeId → Option Lay) : TypeId → List C → Prop
  | bool {t : TypeId} {a b : Nat} {z : List Value} {x : Bool} (h : lay t = some ⟨.bool, a, b, z⟩) : Cty lay t [.v (.bool x)]
  | int {t : TypeId} {a b : Nat} {z : List Value} {k : IntKind} {n : Int} (h : lay t = some ⟨.int k, a, b, z⟩) (hn : k.min ≤ n ∧ n ≤ k.max) : Cty lay t [.v (.int k n)]
  | float {t : TypeId} {a b : Nat} {z : List Value} {k : FloatKind} {x : Nat} (h : lay t = some ⟨.float k, a, b, z⟩) (hw : (Lit.float k x).wf = true) : Cty lay t [.f k (fOf k x)]
  | string {t : TypeId} {a b : Nat} {z : List Value} {s : ByteArray} (h : lay t = some ⟨.string, a, b, z⟩) (hs : s.size ≤ maxLen) : Cty lay t [.v (.string s)]
  | slice {t e : TypeId} {a b : Nat} {z : List Value} (h : lay t = some ⟨.slice e, a, b, z⟩) (xs : List (List C)) (hx : ∀ cs ∈ xs, Cty lay e cs) (hl : ∀ cs ∈ xs, cs.length = szOf lay e) (hn : xs.length ≤ maxLen) : Cty lay t [.sl true xs.length (szOf lay e) xs.flatten]
  | struct {t : TypeId} {fs : List (TypeId × Nat)} {a b : Nat} {z : List Value} (h : lay t = some ⟨.struct fs, a, b, z⟩) (cs : List C) (hl : cs.length = a) (hf : ∀ p ∈ fs, Cty lay p.1 (sub cs p.2 (szOf lay p.1))) : Cty lay t cs
  | array {t e : TypeId} {n a b : Nat} {z : List Value} (h : lay t = some ⟨.array n e, a, b, z⟩) (cs : List C) (hl : cs.length = a) (hf : ∀ i, i < n → Cty lay e (sub cs (i * szOf lay e) (szOf lay e))) : Cty lay t cs

/-- The fields lie one behind the other. -/
def tile (lay : TypeId → Option Lay) : Nat → List (TypeId × Nat) → Nat → Bool
  | off, [], a => Nat.beq off a
  | off, p :: r, a => Nat.beq p.2 off && tile lay (off + szOf lay p.1) r a

/-- Types whose values are such data. -/
def okT (lay : TypeId → Option Lay) : Nat → TypeId → Bool
  | 0, _ => false
  | f + 1, t => match lay t with
    | some ⟨.bool, a, _, _⟩ => Nat.beq a 1
    | some ⟨.int _, a, _, _⟩ => Nat.beq a 1
    | some ⟨.float _, a, _, _⟩ => Nat.beq a 1
    | some ⟨.string, a, _, _⟩ => Nat.beq a 1
    | some ⟨.slice e, a, _, _⟩ => okT lay f e && Nat.beq a 1
    | some ⟨.struct fs, a, _, _⟩ => (fs.all fun p => okT lay f p.1) && tile lay 0 fs a
    | some ⟨.array n e, a, _, _⟩ => okT lay f e && Nat.beq (n * szOf lay e) a
    | _ => false

theorem tile_le {lay : TypeId → Option Lay} : ∀ {fs : List (TypeId × Nat)} {off a : Nat}, tile lay off fs a = true → off ≤ a ∧ ∀ p ∈ fs, p.2 + szOf lay p.1 ≤ a
  | [], off, a, h => ⟨Nat.le_of_eq (Nat.eq_of_beq_eq_true h), fun p hp => by cases hp⟩
  | q :: r, off, a, h => by
    simp only [tile, Bool.and_eq_true] at h
    have h0 := Nat.eq_of_beq_eq_true h.1
    obtain ⟨h1, h2⟩ := tile_le h.2
    refine ⟨by omega, fun p hp => ?_⟩
    rcases List.mem_cons.1 hp with rfl | hp
    · omega
    · exact h2 p hp
theorem tile_range {lay : TypeId → Option Lay} {e : TypeId} : ∀ (n i : Nat), tile lay (i * szOf lay e) ((List.range' i n).map fun j => (e, j * szOf lay e)) ((i + n) * szOf lay e) = true
  | 0, i => by simp [tile]
  | n + 1, i => by
    rw [List.range'_succ, List.map_cons]
    simp only [tile, Bool.and_eq_true]
    refine ⟨by simp, ?_⟩
    have := tile_range (lay := lay) (e := e) n (i + 1)
    rw [show i * szOf lay e + szOf lay e = (i + 1) * szOf lay e by rw [Nat.add_mul]; omega, show i + (n + 1) = i + 1 + n by omega]
    exact this

theorem mapM_get {α β : Type} {f : α → Option β} : ∀ {l : List α} {r : List β}, l.mapM f = some r → r.length = l.length ∧ ∀ (j : Nat) (x : α), l[j]? = some x → ∃ y, r[j]? = some y ∧ f x = some y
  | [], r, h => by simp at h; subst h; exact ⟨rfl, fun j x h => by simp at h⟩
  | a :: l, r, h => by
    rw [List.mapM_cons] at h
    obtain ⟨b, hb, h⟩ := Option.bind_eq_some_iff.1 h
    obtain ⟨bs, hbs, h⟩ := Option.bind_eq_some_iff.1 h
    simp at h
    subst h
    obtain ⟨h1, h2⟩ := mapM_get hbs
    refine ⟨by simp [h1], fun j x hj => ?_⟩
    cases j with
    | zero => simp at hj; subst hj; exact ⟨b, rfl, hb⟩
    | succ j => simpa using h2 j x (by simpa using hj)

theorem flatten_get {k : Nat} : ∀ {xs : List (List C)} (_hl : ∀ x ∈ xs, x.length = k) {j : Nat} {c : C}, xs.flatten[j]? = some c → ∃ (i r : Nat) (x : List C), xs[i]? = some x ∧ x[r]? = some c ∧ j = i * k + r ∧ r < k
  | [], _, j, c, h => by simp at h
  | x :: xs, hl, j, c, h => by
    rw [List.flatten_cons] at h
    have hx := hl x (by simp)
    by_cases hj : j < x.length
    · rw [List.getElem?_append_left hj] at h
      exact ⟨0, j, x, rfl, h, by omega, by omega⟩
    · rw [List.getElem?_append_right (by omega)] at h
      obtain ⟨i, r, y, h1, h2, h3, h4⟩ := flatten_get (fun y hy => hl y (by simp [hy])) h
      refine ⟨i + 1, r, y, by simpa using h1, h2, ?_, h4⟩
      rw [Nat.add_mul]; omega
theorem flatten_len {k : Nat} : ∀ {xs : List (List C)} (_hl : ∀ x ∈ xs, x.length = k), xs.flatten.length = xs.length * k
  | [], _ => by simp
  | x :: xs, hl => by
    rw [List.flatten_cons, List.length_append, flatten_len (fun y hy => hl y (by simp [hy])), hl x (by simp), List.length_cons, Nat.add_mul]; omega

theorem cells?_get {w : World} {a : Addr} {n : Nat} {cs : List Value} (h : w.cells? 0 a n = some cs) : cs.length = n ∧ ∀ (j : Nat) (u : Value), cs[j]? = some u → w.cell? (a.add j) = some u := by
  unfold World.cells? at h
  rw [if_pos (Nat.zero_le _)] at h
  obtain ⟨h1, h2⟩ := mapM_get h
  refine ⟨by simpa using h1, fun j u hj => ?_⟩
  have hlt : j < n := by
    have := (List.getElem?_eq_some_iff.1 hj).1
    rw [h1] at this
    simpa using this
  obtain ⟨y, h3, h4⟩ := h2 j j (by simp [hlt])
  rw [hj] at h3
  have := Option.some.inj h3
  subst this
  exact h4

theorem cell?_spot {w : World} {a : Addr} {u : Value} (h : w.cell? a = some u) : a.spot = none ∧ a.block < w.heap.size := by
  unfold World.cell? at h
  split at h
  · rename_i c t r hb
    refine ⟨?_, ?_⟩
    · cases hs : a.spot with
      | none => rfl
      | some x => rw [hs] at h; simp at h
    · exact (Array.getElem?_eq_some_iff.1 hb).1
  · cases h

section
variable {T : Type} {enc : TypeId × Value → T} {X : Cx} {m : Mem}

theorem tile_cells {vs : List Value} {a : Nat} : ∀ {fs : List (TypeId × Nat)} {off : Nat}, tile X.lay off fs a = true → (∀ p ∈ fs, ∃ cs, Cty X.lay p.1 cs ∧ cs.length = szOf X.lay p.1 ∧ ∀ (j : Nat) (c : C), cs[j]? = some c → ∃ u, vs[p.2 + j]? = some u ∧ RF m false c u) →
    ∃ cs, off + cs.length = a ∧ (∀ p ∈ fs, off ≤ p.2 ∧ Cty X.lay p.1 (sub cs (p.2 - off) (szOf X.lay p.1))) ∧ ∀ (j : Nat) (c : C), cs[j]? = some c → ∃ u, vs[off + j]? = some u ∧ RF m false c u
  | [], off, h, _ => ⟨[], by simpa using Nat.eq_of_beq_eq_true h, fun p hp => (by cases hp), fun j c h => by simp at h⟩
  | q :: r, off, h, hp => by
    simp only [tile, Bool.and_eq_true] at h
    have h0 := Nat.eq_of_beq_eq_true h.1
    obtain ⟨c1, k1, k2, k3⟩ := hp q (by simp)
    obtain ⟨c2, l1, l2, l3⟩ := tile_cells (vs := vs) h.2 (fun p hpp => hp p (by simp [hpp]))
    refine ⟨c1 ++ c2, by simp; omega, fun p hpp => ?_, fun j c hj => ?_⟩
    · rcases List.mem_cons.1 hpp with rfl | hpp
      · refine ⟨by omega, ?_⟩
        have : sub (c1 ++ c2) (p.2 - off) (szOf X.lay p.1) = c1 := by
          unfold sub
          rw [show p.2 - off = 0 by omega, List.drop_zero, ← k2, List.take_left]
        rw [this]; exact k1
      · obtain ⟨g1, g2⟩ := l2 p hpp
        refine ⟨by omega, ?_⟩
        have : sub (c1 ++ c2) (p.2 - off) (szOf X.lay p.1) = sub c2 (p.2 - (off + szOf X.lay q.1)) (szOf X.lay p.1) := by
          unfold sub
          rw [show p.2 - off = c1.length + (p.2 - (off + szOf X.lay q.1)) by omega, ← List.drop_drop, List.drop_left]
        rw [this]; exact g2
    · by_cases hlt : j < c1.length
      · rw [List.getElem?_append_left hlt] at hj
        rw [← h0]
        exact k3 j c hj
      · rw [List.getElem?_append_right (by omega)] at hj
        obtain ⟨u, g1, g2⟩ := l3 _ c hj
        refine ⟨u, ?_, g2⟩
        rw [show off + j = off + szOf X.lay q.1 + (j - c1.length) by omega]
        exact g1

theorem open_trod (hF : ∀ b, b < m.w.heap.size → m.F b) : ∀ (f g : Nat) (t : TypeId) (vs : List Value) (x : DataW T × List MemPlace), okT X.lay f t = true → DataW.trod enc X.P m.w 0 (fun _ => true) true g t vs = some x →
    ∃ cs, Cty X.lay t cs ∧ cs.length = szOf X.lay t ∧ vs.length = cs.length ∧ ∀ (j : Nat) (c : C), cs[j]? = some c → ∃ u, vs[j]? = some u ∧ RF m false c u := by
  intro f
  induction f with
  | zero => intro g t vs x hok h; cases hok
  | succ f ih =>
    intro g t vs x hok h
    have one : ∀ {c : C} {u : Value}, RF m false c u → ∀ (j : Nat) (c' : C), [c][j]? = some c' → ∃ u', [u][j]? = some u' ∧ RF m false c' u' := fun {c u} hr j c' hj => by
      cases j with
      | zero => simp at hj; subst hj; exact ⟨u, rfl, hr⟩
      | succ j => simp at hj
    have cellsOf : ∀ {t : TypeId} {L : Lay}, X.lay t = some L → X.P.cellsOf t = szOf X.lay t := fun {t L} h => by
      obtain ⟨-, -, i, z, h1, h2, -⟩ := X.ok t L h
      simp [Program.cellsOf, h1, h2, szOf, h]
    unfold okT at hok
    cases hL : X.lay t with
    | none => rw [hL] at hok; cases hok
    | some L =>
      rw [hL] at hok
      have hk := (X.ok t L hL).kind
      have hsz : szOf X.lay t = L.size := by unfold szOf; rw [hL]
      obtain ⟨kind, a, b, z⟩ := L
      have hco := cellsOf hL
      simp only at hsz
      have arr : ∀ {off n e g' : Nat} {vs : List Value} {y : DataW T × List MemPlace}, okT X.lay f e = true → off + szOf X.lay e ≤ n → vs.length = n → DataW.trod enc X.P m.w 0 (fun _ => true) true g' e ((vs.drop off).take (szOf X.lay e)) = some y →
          ∃ cs, Cty X.lay e cs ∧ cs.length = szOf X.lay e ∧ ∀ (j : Nat) (c : C), cs[j]? = some c → ∃ u, vs[off + j]? = some u ∧ RF m false c u := fun {off n e g' vs y} ho hb hv hy => by
        obtain ⟨cs, h1, h2, h3, h4⟩ := ih _ _ _ _ ho hy
        refine ⟨cs, h1, h2, fun j c hj => ?_⟩
        obtain ⟨u, h5, h6⟩ := h4 j c hj
        have hlt := (List.getElem?_eq_some_iff.1 hj).1
        rw [List.getElem?_take_of_lt (by omega), List.getElem?_drop] at h5
        exact ⟨u, h5, h6⟩
      cases kind with
      | other => simp at hok
      | bool =>
        have hok' : a = 1 := Nat.eq_of_beq_eq_true hok
        obtain ⟨bb, rfl, -⟩ := DataW.trod_bool (show X.P.underlying t = some .bool from hk) h
        exact ⟨_, .bool hL, by rw [hsz, hok']; rfl, rfl, one (.v rfl)⟩
      | string =>
        have hok' : a = 1 := Nat.eq_of_beq_eq_true hok
        obtain ⟨s, rfl, -, hs⟩ := DataW.trod_string (show X.P.underlying t = some .string from hk) h
        exact ⟨_, .string hL hs, by rw [hsz, hok']; rfl, rfl, one (.v rfl)⟩
      | int k =>
        have hok' : a = 1 := Nat.eq_of_beq_eq_true hok
        obtain ⟨n, rfl, -, hw⟩ := DataW.trod_int (show X.P.underlying t = some (.int k) from hk) h
        simp only [Lit.wf, Bool.and_eq_true, decide_eq_true_eq] at hw
        exact ⟨_, .int hL hw, by rw [hsz, hok']; rfl, rfl, one (.v rfl)⟩
      | float k =>
        have hok' : a = 1 := Nat.eq_of_beq_eq_true hok
        have hu : X.P.underlying t = some (.float k) := hk
        have : ∃ bb, vs = [.float k bb] ∧ (Lit.float k bb).wf = true := by
          cases g with
          | zero => simp [DataW.trod] at h
          | succ g =>
            unfold DataW.trod at h
            rw [hu] at h
            simp only at h
            split at h
            all_goals first
              | (rename_i heq; cases heq; done)
              | (rename_i heq _; cases heq; done)
              | (rename_i k1 k2 bb heq1; split at h
                 · rename_i hc; cases heq1; exact ⟨bb, by rw [hc.1], hc.2⟩
                 · cases h)
              | (cases h; done)
        obtain ⟨bb, rfl, hwf⟩ := this
        refine ⟨[.f k (fOf k bb)], .float hL hwf, by rw [hsz, hok']; rfl, rfl, one ?_⟩
        unfold fOf
        by_cases hn : isNaN k bb = true
        · rw [if_pos hn]; exact .fn hn
        · rw [if_neg hn]; exact .fs (by simpa using hn)
      | slice e =>
        simp only [Bool.and_eq_true] at hok
        obtain ⟨hok, hok1⟩ := hok
        have hok' : a = 1 := Nat.eq_of_beq_eq_true hok1
        have heL : ∃ Le, X.lay e = some Le := by
          cases f with
          | zero => cases hok
          | succ f =>
            unfold okT at hok
            cases he : X.lay e with
            | none => rw [he] at hok; cases hok
            | some Le => exact ⟨Le, rfl⟩
        obtain ⟨Le, hLe⟩ := heL
        have hce := cellsOf hLe
        rcases DataW.trod_slice (show X.P.underlying t = some (.slice e) from hk) h with ⟨rfl, -⟩ | ⟨ad, len, cap, elems, rest, g', -, rfl, -, -, hlc, hcm, hel, hget, -⟩
        · have := Cty.slice hL [] (by simp) (by simp) (Nat.zero_le _)
          exact ⟨_, this, by rw [hsz, hok']; rfl, rfl, one .nil⟩
        · have each : ∀ i, i < len → ∃ cs, Cty X.lay e cs ∧ cs.length = szOf X.lay e ∧ ∀ (j : Nat) (c : C), cs[j]? = some c → ∃ u, m.w.cell? ((ad.add (i * szOf X.lay e)).add j) = some u ∧ RF m false c u := fun i hi => by
            have h1 := hget i hi
            rw [List.getElem?_eq_getElem (by omega), hce] at h1
            obtain ⟨vs, h2, h3⟩ := Option.bind_eq_some_iff.1 h1
            obtain ⟨h4, h5⟩ := cells?_get h2
            obtain ⟨cs, k1, k2, k3, k4⟩ := ih _ _ _ _ hok h3
            refine ⟨cs, k1, k2, fun j c hj => ?_⟩
            obtain ⟨u, k5, k6⟩ := k4 j c hj
            exact ⟨u, h5 j u k5, k6⟩
          obtain ⟨xs, hxl, hxs⟩ := choose_list (cs := List.range len) (p := fun i _ (cs : List C) => Cty X.lay e cs ∧ cs.length = szOf X.lay e ∧ ∀ (j : Nat) (c : C), cs[j]? = some c → ∃ u, m.w.cell? ((ad.add (i * szOf X.lay e)).add j) = some u ∧ RF m false c u) (fun i q hi => by
            have := (List.getElem?_eq_some_iff.1 hi).1
            exact each i (by simpa using this))
          have hxl' : xs.length = len := by simpa using hxl
          have hxi : ∀ (i : Nat) (cs : List C), xs[i]? = some cs → Cty X.lay e cs ∧ cs.length = szOf X.lay e ∧ ∀ (j : Nat) (c : C), cs[j]? = some c → ∃ u, m.w.cell? ((ad.add (i * szOf X.lay e)).add j) = some u ∧ RF m false c u := fun i cs hi => by
            have hlt := (List.getElem?_eq_some_iff.1 hi).1
            obtain ⟨cs', h1, h2⟩ := hxs i i (by rw [List.getElem?_range (by omega)])
            rw [hi] at h1
            have := Option.some.inj h1
            subst this
            exact h2
          have hmem : ∀ cs ∈ xs, Cty X.lay e cs ∧ cs.length = szOf X.lay e := fun cs hc => by
            obtain ⟨i, hi⟩ := List.getElem?_of_mem hc
            exact ⟨(hxi i cs hi).1, (hxi i cs hi).2.1⟩
          have hsp : xs.flatten ≠ [] → ad.spot = none ∧ ad.block < m.w.heap.size := fun hne => by
            have h0 : 0 < xs.flatten.length := List.length_pos_iff.2 hne
            obtain ⟨i, r, cs, h1, h2, h3, h4⟩ := flatten_get (fun x hx => (hmem x hx).2) (List.getElem?_eq_getElem h0)
            have hi0 : i * szOf X.lay e = 0 := by omega
            have hr0 : r = 0 := by omega
            obtain ⟨u, h5, h6⟩ := (hxi i cs h1).2.2 r _ h2
            rw [hi0, hr0] at h5
            simp only [Addr.add, if_true] at h5
            exact cell?_spot h5
          have hall : ∀ (j : Nat) (c : C), xs.flatten[j]? = some c → ∃ u, m.w.cell? ⟨ad.block, ad.off + j, none⟩ = some u ∧ RF m false c u := fun j c hj => by
            have hs := (hsp (by intro h; rw [h] at hj; simp at hj)).1
            obtain ⟨i, r, cs, h1, h2, h3, h4⟩ := flatten_get (fun x hx => (hmem x hx).2) hj
            obtain ⟨u, h5, h6⟩ := (hxi i cs h1).2.2 r c h2
            obtain ⟨ab, ao, as⟩ := ad
            simp only at hs
            subst hs
            rw [addr_add, addr_add, Nat.add_assoc, ← h3] at h5
            exact ⟨u, h5, h6⟩
          obtain ⟨us, hul, hus⟩ := choose_list hall
          refine ⟨_, .slice hL xs (fun cs hc => (hmem cs hc).1) (fun cs hc => (hmem cs hc).2) (by omega), by rw [hsz, hok']; rfl, rfl, one ?_⟩
          rw [hxl']
          refine .sl (fun j => us.getD j default) hlc hcm (by rw [flatten_len (fun x hx => (hmem x hx).2), hxl']) (fun hne => ?_) (fun j c hj => ?_) (fun j c hj => ?_)
          · exact ⟨(hsp hne).1, hF _ (hsp hne).2, fun h => by cases h⟩
          · obtain ⟨u, h1, h2, h3⟩ := hus j c hj
            simpa [List.getD, h1] using h2
          · obtain ⟨u, h1, h2, h3⟩ := hus j c hj
            simpa [List.getD, h1] using h3
      | array n e =>
        simp only [Bool.and_eq_true] at hok
        obtain ⟨hok, hb⟩ := hok
        have hb' := Nat.eq_of_beq_eq_true hb
        obtain ⟨xs, g', -, -, hvl, hxl, hget⟩ := DataW.trod_array (show X.P.underlying t = some (.array n e) from hk) h
        rw [hco, hsz] at hvl
        have hLe : ∃ Le, X.lay e = some Le := by
          cases f with
          | zero => cases hok
          | succ f =>
            unfold okT at hok
            cases he : X.lay e with
            | none => rw [he] at hok; cases hok
            | some Le => exact ⟨Le, rfl⟩
        obtain ⟨Le, hLe⟩ := hLe
        have hc := cellsOf hLe
        have ht := tile_range (lay := X.lay) (e := e) n 0
        rw [Nat.zero_mul, Nat.zero_add, hb'] at ht
        obtain ⟨cs, h1, h2, h3⟩ := tile_cells (vs := vs) (m := m) ht (fun p hp => by
          obtain ⟨i, hi, rfl⟩ := List.mem_map.1 hp
          have hin : i < n := by simpa using List.mem_range'_1.1 hi
          have h3 := hget i hin
          rw [List.getElem?_eq_getElem (by omega), hc] at h3
          have : (i + 1) * szOf X.lay e ≤ n * szOf X.lay e := Nat.mul_le_mul_right _ hin
          rw [Nat.add_mul] at this
          exact arr hok (by simp only; omega) hvl h3)
        refine ⟨cs, .array hL cs (by omega) (fun i hi => ?_), by rw [hsz]; omega, by omega, fun j c hj => by simpa using h3 j c hj⟩
        have := (h2 (e, i * szOf X.lay e) (List.mem_map.2 ⟨i, by simp [List.mem_range'_1]; exact hi, rfl⟩)).2
        simpa using this
      | struct fs =>
        obtain ⟨fields, hu, hfs, -⟩ := hk
        obtain ⟨xs, g', -, -, hvl, hxl, hget⟩ := DataW.trod_struct hu h
        rw [hco, hsz] at hvl
        simp only [Bool.and_eq_true] at hok
        obtain ⟨hok, htile⟩ := hok
        have hfield : ∀ (i : Nat) (p : TypeId × Nat), fs[i]? = some p → ∃ cs, Cty X.lay p.1 cs ∧ cs.length = szOf X.lay p.1 ∧ ∀ (j : Nat) (c : C), cs[j]? = some c → ∃ u, vs[p.2 + j]? = some u ∧ RF m false c u := fun i p hp => by
          have hmem := List.all_eq_true.1 hok p (List.mem_of_getElem? hp)
          have hb := (tile_le htile).2 p (List.mem_of_getElem? hp)
          have hp' := hp
          rw [← hfs, List.getElem?_map, Option.map_eq_some_iff] at hp'
          obtain ⟨fd, h1, h2⟩ := hp'
          have h3 := hget i fd (by simpa using h1)
          have hilt : i < xs.length := by rw [hxl]; have := (List.getElem?_eq_some_iff.1 h1).1; simpa using this
          have hLp : ∃ Lp, X.lay p.1 = some Lp := by
            have := hmem
            cases f with
            | zero => cases this
            | succ f =>
              unfold okT at this
              cases he : X.lay p.1 with
              | none => rw [he] at this; cases this
              | some Le => exact ⟨Le, rfl⟩
          obtain ⟨Lp, hLp⟩ := hLp
          have hc := cellsOf hLp
          rw [List.getElem?_eq_getElem hilt] at h3
          have e1 : fd.type = p.1 := by rw [← h2]
          have e2 : fd.offset = p.2 := by rw [← h2]
          rw [e1, e2, hc] at h3
          exact arr hmem hb hvl h3
        obtain ⟨cs, h1, h2, h3⟩ := tile_cells (vs := vs) (m := m) htile (fun p hp => by
          obtain ⟨i, hi⟩ := List.getElem?_of_mem hp
          exact hfield i p hi)
        exact ⟨cs, .struct hL cs (by omega) (fun p hp => by simpa using (h2 p hp).2), by rw [hsz]; omega, by omega, fun j c hj => by simpa using h3 j c hj⟩
end
end Go.VL
