/- Loops: the slots that are kept, the objects that are kept. Over any program. -/
import Derived.Test.YtbejolinihbokaaV17
namespace Go.VL
open Go.RowKit

/-- The slots that count. -/
def sls : List (Nat × V) → Sl
  | [] => fun _ => .any
  | (t, v) :: r => upd (sls r) t v

def TrL (H : List Ob) (g : List (Option Nat)) (sl : Sl) : List (Nat × V) → Prop
  | [] => True
  | (t, v) :: r => TrV H g (sl t) v ∧ TrL H g sl r

theorem TrL.spec {H : List Ob} {g : List (Option Nat)} {sl : Sl} : ∀ {l : List (Nat × V)}, TrL H g sl l → ∀ t, TrV H g (sl t) (sls l t)
  | [], _, t => .any
  | (d, v) :: r, h, t => by
    have h2 := h.2.spec t
    simp only [sls, upd]
    cases hb : Nat.beq t d with
    | true =>
      have : t = d := Nat.eq_of_beq_eq_true hb
      subst this
      exact h.1
    | false => exact h2

section
variable {H : List Ob} {g : List (Option Nat)}
theorem tr_v {x : Value} : TrV H g (.c (.v x)) (.c (.v x)) := .c (.dn .v)
theorem tr_f {k : FloatKind} {x : Option Nat} : TrV H g (.c (.f k x)) (.c (.f k x)) := .c (.dn .f)
theorem tr_sl {b : Bool} {n k : Nat} {cs : List C} : TrV H g (.c (.sl b n k cs)) (.c (.sl b n k cs)) := .c (.sl (fun h => h))
theorem tr_vw {b : Bool} {off : Nat} {cs : List C} : TrV H g (.c (.vw b cs off)) (.c (.vw b cs off)) := .c (.vw (fun h => h))
theorem tr_pt {i id off : Nat} (h : g[i]? = some (some id)) : TrV H g (.c (.pt id off)) (.c (.pt i off)) := .c (.pt h)
theorem tr_mu {i id off n k : Nat} (h : g[i]? = some (some id)) : TrV H g (.c (.mu id off n k)) (.c (.mu i off n k)) := .c (.mu h)
theorem tr_nil {i k : Nat} (h : g[i]? = some none) : TrV H g (.c (.v (.slice none 0 0))) (.c (.mu i 0 0 k)) := .c (.nil h)
end

/-- A cell that is no live object, and looks the same wherever one looks from. -/
def stays : C → Bool
  | .v _ => true
  | .f _ _ => true
  | .sl _ _ _ _ => true
  | .vw _ _ _ => true
  | .any => true
  | _ => false
theorem Tr.stay {H : List Ob} {g : List (Option Nat)} {c : C} (h : stays c = true) : Tr H g c c := by
  cases c with
  | v x => exact .dn .v
  | f k x => exact .dn .f
  | sl b n k cs => exact .sl (fun h => h)
  | vw b cs off => exact .vw (fun h => h)
  | any => exact .dn .any
  | _ => cases h

/-- Cells, one by one. -/
inductive TrC (H : List Ob) (g : List (Option Nat)) : List C → List C → Prop
  | nil : TrC H g [] []
  | cons {c c' : C} {cs cs' : List C} (h : TrV H g (.c c) (.c c')) (hs : TrC H g cs cs') : TrC H g (c :: cs) (c' :: cs')
  | stay {cs : List C} (h : ∀ c ∈ cs, stays c = true) : TrC H g cs cs
theorem TrC.spec {H : List Ob} {g : List (Option Nat)} {cs cs' : List C} (h : TrC H g cs cs') : cs'.length = cs.length ∧ ∀ (j : Nat) (c c' : C), cs[j]? = some c → cs'[j]? = some c' → Tr H g c c' := by
  induction h with
  | nil => exact ⟨rfl, fun j c c' h => by simp at h⟩
  | cons h hs ih =>
    refine ⟨by simp [ih.1], fun j x x' hj hj' => ?_⟩
    cases j with
    | zero => simp at hj hj'; subst hj hj'; cases h with | c h => exact h
    | succ j => exact ih.2 j x x' (by simpa using hj) (by simpa using hj')
  | stay h =>
    refine ⟨rfl, fun j c c' hj hj' => ?_⟩
    rw [hj] at hj'
    have := Option.some.inj hj'
    subst this
    exact .stay (h c (List.mem_of_getElem? hj))
theorem tr_agg {H : List Ob} {g : List (Option Nat)} {cs cs' : List C} (h : TrC H g cs cs') : TrV H g (.agg cs) (.agg cs') := .agg h.spec.1 h.spec.2

/-- The objects, one by one: 'i': how many stand before. -/
def TurnO (H : List Ob) (g : List (Option Nat)) : List (Option Nat) → List Ob → Prop
  | [], [] => True
  | none :: gs, o :: os => o.cs = [] ∧ TurnO H g gs os
  | some id :: gs, o' :: os => (∃ cs, H[id]? = some ⟨cs, o'.t, true⟩ ∧ TrC H g cs o'.cs) ∧ TurnO H g gs os
  | _, _ => False
def nodupO : List (Option Nat) → Bool
  | [] => true
  | none :: r => nodupO r
  | some i :: r => !r.contains (some i) && nodupO r
def fixO (g : List (Option Nat)) : Nat → Bool
  | 0 => true
  | n + 1 => g[n]? == some (some n) && fixO g n

theorem TurnO.spec {H : List Ob} {g : List (Option Nat)} : ∀ {gs : List (Option Nat)} {os : List Ob}, TurnO H g gs os → gs.length = os.length ∧
    (∀ (i id : Nat) (o' : Ob), os[i]? = some o' → gs[i]? = some (some id) → ∃ cs, H[id]? = some ⟨cs, o'.t, true⟩ ∧ TrC H g cs o'.cs) ∧ (∀ (i : Nat) (o' : Ob), os[i]? = some o' → gs[i]? = some none → o'.cs = [])
  | [], [], _ => ⟨rfl, fun i id o h => by simp at h, fun i o h => by simp at h⟩
  | none :: gs, o :: os, h => by
    obtain ⟨h1, h2, h3⟩ := h.2.spec
    refine ⟨by simp [h1], fun i id o' ho hg => ?_, fun i o' ho hg => ?_⟩
    · cases i with
      | zero => simp at hg
      | succ i => exact h2 i id o' (by simpa using ho) (by simpa using hg)
    · cases i with
      | zero => simp at ho; subst ho; exact h.1
      | succ i => exact h3 i o' (by simpa using ho) (by simpa using hg)
  | some id0 :: gs, o :: os, h => by
    obtain ⟨h1, h2, h3⟩ := h.2.spec
    refine ⟨by simp [h1], fun i id o' ho hg => ?_, fun i o' ho hg => ?_⟩
    · cases i with
      | zero => simp at ho hg; subst ho hg; exact h.1
      | succ i => exact h2 i id o' (by simpa using ho) (by simpa using hg)
    · cases i with
      | zero => simp at hg
      | succ i => exact h3 i o' (by simpa using ho) (by simpa using hg)

theorem nodupO_spec : ∀ {g : List (Option Nat)}, nodupO g = true → ∀ (i j id : Nat), g[i]? = some (some id) → g[j]? = some (some id) → i = j
  | [], _, i, j, id, h, _ => by simp at h
  | none :: r, h, i, j, id, hi, hj => by
    cases i with
    | zero => simp at hi
    | succ i => cases j with
      | zero => simp at hj
      | succ j => rw [nodupO_spec (g := r) h i j id (by simpa using hi) (by simpa using hj)]
  | some a :: r, h, i, j, id, hi, hj => by
    simp only [nodupO, Bool.and_eq_true, Bool.not_eq_true'] at h
    have hno : ∀ k : Nat, r[k]? ≠ some (some a) := fun k hk => by
      have : (some a) ∈ r := List.mem_of_getElem? hk
      have h1 := h.1
      simp [this] at h1
    cases i with
    | zero => cases j with
      | zero => rfl
      | succ j => simp at hi hj; subst hi; exact absurd hj (hno j)
    | succ i => cases j with
      | zero => simp at hi hj; subst hj; exact absurd hi (hno i)
      | succ j => rw [nodupO_spec (g := r) h.2 i j id (by simpa using hi) (by simpa using hj)]

theorem fixO_spec {g : List (Option Nat)} : ∀ {n : Nat}, fixO g n = true → ∀ i, i < n → g[i]? = some (some i)
  | n + 1, h, i, hi => by
    simp only [fixO, Bool.and_eq_true, beq_iff_eq] at h
    by_cases he : i = n
    · subst he; exact h.1
    · exact fixO_spec h.2 i (by omega)

/-- Looking anew: the slots that are kept, the objects that are kept. -/
theorem turn {N0 : Nat} {sl : Sl} {H H' : List Ob} (g : List (Option Nat)) {l : List (Nat × V)} (hn : nodupO g = true) (hf : fixO g N0 = true) (hlt : (g.all fun x => match x with | some i => Nat.blt i H.length | none => true) = true) (ho : TurnO H g g H') (hs : TrL H g sl l) : Turn N0 sl H (sls l) H' := by
  obtain ⟨h1, h2, h3⟩ := ho.spec
  refine ⟨g, ⟨h1, fixO_spec hf, fun i id o' hi hl hg => ?_, fun i o' hi hl hg => h3 i o' hi hg, nodupO_spec hn, fun i id hi => ?_⟩, hs.spec⟩
  · obtain ⟨cs, k1, k2⟩ := h2 i id o' hi hg
    obtain ⟨k3, k4⟩ := k2.spec
    exact ⟨_, k1, rfl, rfl, Nat.le_of_eq k3, k4⟩
  · have := List.all_eq_true.1 hlt _ (List.mem_of_getElem? hi)
    exact Nat.le_of_ble_eq_true this

/-- No objects. -/
theorem turn0 {sl : Sl} {H : List Ob} {l : List (Nat × V)} (hs : TrL H [] sl l) : Turn 0 sl H (sls l) [] :=
  turn [] rfl rfl rfl trivial hs

/-! What a function answers -/
theorem a_c {H : List Ob} {x y : C} (h : Tr H [] x y) : TrV H [] (.c x) (.c y) := .c h
theorem a_b {H : List Ob} {b : Bool} {p : Prop} [Decidable p] (h : b = true ↔ p) : TrV H [] (.c (.v (.bool b))) (.c (.v (.bool (decide p)))) := by
  have : b = decide p := by
    cases b with
    | true => simp [h.1 rfl]
    | false =>
      have : ¬ p := fun hp => by have := h.2 hp; cases this
      simp [this]
  rw [this]
  exact tr_v
end Go.VL
