/- Slices of things that are written as so many cells: read, written, made, handed on. Over any program. -/
import Derived.Test.YtbejolinihbokaaV19
namespace Go.VL
open Go.RowKit

theorem flat_cons {α : Type} (enc : α → List C) (x : α) (xs : List α) : flat enc (x :: xs) = enc x ++ flat enc xs := by simp [flat]
theorem zeros_flat {α : Type} {enc : α → List C} {L : Lay} {a : α} (h : enc a = L.zero.map cOf) : ∀ n, zeros L n = flat enc (List.replicate n a)
  | 0 => rfl
  | n + 1 => by rw [List.replicate_succ, flat_cons, zeros, zeros_flat h n, h]
theorem sub_flat2 {α : Type} {enc : α → List C} {k : Nat} (he : ∀ a, (enc a).length = k) {xs : List α} {i f n : Nat} (hi : i < xs.length) (hf : f + n ≤ k) : sub (flat enc xs) (i * k + f) n = sub (enc xs[i]) f n := by
  rw [← sub_flat he hi]
  unfold sub
  rw [List.drop_take, List.take_take, List.drop_drop]
  congr 1
  omega
theorem setCells_flat {α : Type} {enc : α → List C} {k : Nat} (he : ∀ a, (enc a).length = k) {cs : List C} : ∀ {xs : List α} {i f : Nat} (hi : i < xs.length) (_hf : f + cs.length ≤ k) {y : α}, enc y = setCells (enc xs[i]) f cs → setCells (flat enc xs) (i * k + f) cs = flat enc (xs.set i y)
  | x :: xs, 0, f, _, hf, y, hy => by
    simp only [List.set_cons_zero, flat_cons, Nat.zero_mul, Nat.zero_add]
    simp only [List.getElem_cons_zero] at hy
    rw [hy]
    unfold setCells
    rw [List.take_append_of_le_length (by rw [he]; omega), List.drop_append_of_le_length (by rw [he]; omega)]
    simp only [List.append_assoc]
  | x :: xs, i + 1, f, hi, hf, y, hy => by
    have ih := setCells_flat he (xs := xs) (i := i) (f := f) (by simpa using hi) hf (y := y) (by simpa using hy)
    simp only [List.set_cons_succ, flat_cons]
    rw [← ih]
    unfold setCells
    have h1 : (i + 1) * k + f = (enc x).length + (i * k + f) := by rw [he, Nat.add_mul]; omega
    rw [h1, List.take_append, List.take_of_length_le (by omega), Nat.add_sub_cancel_left, Nat.add_assoc, ← List.drop_drop, List.drop_left]
    simp only [List.append_assoc]

/-- A cell that is a number, a word, a float. -/
def sc : C → Bool
  | .v _ => true
  | .f _ _ => true
  | _ => false
theorem sc_flat {α : Type} {enc : α → List C} (h : ∀ a, (enc a).all sc = true) (xs : List α) : ∀ c ∈ flat enc xs, sc c = true := fun c hc => by
  obtain ⟨a, -, ha⟩ := List.mem_flatMap.1 hc
  exact List.all_eq_true.1 (h a) c ha
theorem reown_sc {o : Bool} {c : C} (h : sc c = true) : reown o c = c := by
  cases o with
  | true => rfl
  | false => cases c <;> first | rfl | cases h
theorem reowns_flat {α : Type} {enc : α → List C} (h : ∀ a, (enc a).all sc = true) (o : Bool) (xs : List α) : reowns o (flat enc xs) = flat enc xs := by
  cases o with
  | true => rfl
  | false =>
    simp only [reowns]
    rw [List.map_congr_left fun c hc => reown_sc (o := false) (sc_flat h xs c hc), List.map_id']
theorem Dn.sc {o : Bool} {H : List Ob} {gone : Nat → Prop} {c : C} (h : sc c = true) : Dn o H gone c c := by
  cases c with
  | v x => exact .v
  | f k x => exact .f
  | _ => cases h
theorem stays_flat {α : Type} {enc : α → List C} (h : ∀ a, (enc a).all sc = true) (xs : List α) : ∀ c ∈ flat enc xs, stays c = true := fun c hc => by
  have := sc_flat h xs c hc
  cases c <;> first | rfl | cases this
theorem same_of {cs : List C} {p : C → C → Prop} (h : ∀ c ∈ cs, p c c) : ∀ (j : Nat) (c c' : C), cs[j]? = some c → cs[j]? = some c' → p c c' := fun j c c' h1 h2 => by
  rw [h1] at h2
  have := Option.some.inj h2
  subst this
  exact h c (List.mem_of_getElem? h1)

/-- Cells as frozen data. -/
inductive DnL (o : Bool) (H : List Ob) (gone : Nat → Prop) : List C → List C → Prop
  | nil : DnL o H gone [] []
  | cons {c c' : C} {cs cs' : List C} (h : Dn o H gone c c') (hs : DnL o H gone cs cs') : DnL o H gone (c :: cs) (c' :: cs')
  | sc {cs : List C} (h : ∀ c ∈ cs, sc c = true) : DnL o H gone cs cs
theorem DnL.spec {o : Bool} {H : List Ob} {gone : Nat → Prop} {cs cs' : List C} (h : DnL o H gone cs cs') : cs'.length = cs.length ∧ ∀ (j : Nat) (c c' : C), cs[j]? = some c → cs'[j]? = some c' → Dn o H gone c c' := by
  induction h with
  | nil => exact ⟨rfl, fun j c c' h => by simp at h⟩
  | cons h hs ih =>
    refine ⟨by simp [ih.1], fun j x x' hj hj' => ?_⟩
    cases j with
    | zero => simp at hj hj'; subst hj hj'; exact h
    | succ j => exact ih.2 j x x' (by simpa using hj) (by simpa using hj')
  | sc h => exact ⟨rfl, same_of fun c hc => .sc (h c hc)⟩

theorem dn_sl {o b b' : Bool} {H : List Ob} {gone : Nat → Prop} {n k : Nat} {cs : List C} (h : o = true → b = true) : Dn o H gone (.sl b n k cs) (.sl b' n k cs) := .sl h
/-- A live slice, all of it, as frozen data. -/
theorem dn_mu {o b' : Bool} {H : List Ob} {gone : Nat → Prop} {id n k : Nat} {cs cs' : List C} {t : TypeId} (ho : H[id]? = some ⟨cs, t, true⟩) (hg : gone id) (hn : cs.length = n * k) (h : DnL o H gone cs cs') : Dn o H gone (.mu id 0 n k) (.sl b' n k cs') := by
  obtain ⟨h1, h2⟩ := h.spec
  have hs : sub cs 0 (n * k) = cs := by unfold sub; rw [← hn]; simp
  exact .mu ho rfl hg (by simp only [Nat.zero_add]; exact Nat.le_of_eq hn.symm) (by rw [h1, hn]) (by simp only [hs]; exact h2)
theorem dn_pt {o b' : Bool} {H : List Ob} {gone : Nat → Prop} {id off : Nat} {cs cs' : List C} {t : TypeId} (ho : H[id]? = some ⟨cs, t, true⟩) (hg : gone id) (h : DnL o H gone cs cs') : Dn o H gone (.pt id off) (.vw b' cs' off) :=
  .pt ho rfl hg h.spec.1 h.spec.2
theorem dn_flat {α : Type} {enc : α → List C} {o b' : Bool} {H : List Ob} {gone : Nat → Prop} {id n k : Nat} {xs : List α} {t : TypeId} (hsc : ∀ a, (enc a).all sc = true) (he : ∀ a, (enc a).length = k) (ho : H[id]? = some ⟨flat enc xs, t, true⟩) (hg : gone id) (hn : n = xs.length) :
    Dn o H gone (.mu id 0 n k) (.sl b' n k (flat enc xs)) := dn_mu ho hg (by rw [flat_length he, hn]) (.sc (sc_flat hsc xs))

section
variable {H : List Ob}
theorem vw_dn {c c' : C} (h : Dn false H (fun _ => True) c c') (ho : c'.own = false) : VwV H (.c c) (.c c') := .c (.dn h ho)
theorem vw_mu {α : Type} {enc : α → List C} {id n k : Nat} {xs : List α} {t : TypeId} (hsc : ∀ a, (enc a).all sc = true) (he : ∀ a, (enc a).length = k) (ho : H[id]? = some ⟨flat enc xs, t, true⟩) (hn : n = xs.length) : VwV H (.c (.mu id 0 n k)) (.c (.sl false n k (flat enc xs))) :=
  vw_dn (dn_flat hsc he ho trivial hn) rfl
theorem vw_pt {id off : Nat} {cs cs' : List C} {t : TypeId} (ho : H[id]? = some ⟨cs, t, true⟩) (h : DnL false H (fun _ => True) cs cs') : VwV H (.c (.pt id off)) (.c (.vw false cs' off)) := vw_dn (dn_pt ho trivial h) rfl
theorem a_dn {c c' : C} (h : Dn true H (fun id => ∀ i : Nat, ([] : List (Option Nat))[i]? ≠ some (some id)) c c') : TrV H [] (.c c) (.c c') := .c (.dn h)
theorem gone_nil {id : Nat} : ∀ i : Nat, ([] : List (Option Nat))[i]? ≠ some (some id) := fun i => by simp
theorem a_flat {α : Type} {enc : α → List C} {id n k : Nat} {xs : List α} {t : TypeId} (hsc : ∀ a, (enc a).all sc = true) (he : ∀ a, (enc a).length = k) (ho : H[id]? = some ⟨flat enc xs, t, true⟩) (hn : n = xs.length) : TrV H [] (.c (.mu id 0 n k)) (.c (.sl true n k (flat enc xs))) :=
  a_dn (dn_flat hsc he ho gone_nil hn)
/-- What a function answers, cell by cell. -/
theorem a_agg {cs cs' : List C} (h : TrC H [] cs cs') : TrV H [] (.agg cs) (.agg cs') := tr_agg h
end

section
variable {X : Cx} {all r : List Oper} {K : Sl → List Ob → Prop} {sl : Sl} {H : List Ob} {d : Tmp} {ty : TypeId} {ps : String} {af : Array Edge}

theorem v_make {α : Type} {enc : α → List C} {a0 : α} {t e : TypeId} {l c : Operand} {a b : Nat} {z : List Value} {L : Lay} {kl kc : IntKind} {n : Int} {k m : Nat} {H' : List Ob} (hz : enc a0 = L.zero.map cOf) (hL : X.lay t = some ⟨.slice e, a, b, z⟩) (hLe : X.lay e = some L) (hk : L.size = k) (hk0 : Nat.blt 0 k = true)
    (hl : rho X.G sl l = .c (.v (.int kl n))) (hc : rho X.G sl c = .c (.v (.int kc n))) (q : Nat) (hq : n = (q : Int)) (hn : (q : Int) ≤ maxLen ∧ (L.bytes : Int) * q ≤ 140737488355328) (hm : H.length = m) (hH : H ++ [⟨flat enc (List.replicate q a0), e, true⟩] = H') (h : vops X all r K (upd sl d (.c (.mu m 0 q k))) H') :
    vops X all (⟨some d, .makeSlice t l c, ty, ps, af, none⟩ :: r) K sl H := by
  subst hq
  refine v_e (f := ⟨.c (.mu m 0 q k), H', 0 < L.size ∧ (0 : Int) ≤ q ∧ (q : Int) ≤ maxLen ∧ (L.bytes : Int) * q ≤ 140737488355328⟩) rfl rfl ?_ ⟨by rw [hk]; exact Nat.le_of_ble_eq_true hk0, by omega, hn⟩ rfl rfl h
  simp only [eve, hL, hLe, hl, hc, if_true, Int.toNat_natCast, hk, hm]
  rw [zeros_flat hz, hH]

theorem v_idx_mu {t e : TypeId} {x i : Operand} {a b : Nat} {z : List Value} {id off m k : Nat} {kk : IntKind} {j : Int} {L : Lay} (hL : X.lay t = some ⟨.slice e, a, b, z⟩) (hLe : X.lay e = some L) (hk : L.size = k)
    (hx : rho X.G sl x = .c (.mu id off m k)) (hi : rho X.G sl i = .c (.v (.int kk j))) (hj : 0 ≤ j ∧ j < m) (h : ∀ (q : Nat), q < m → j = (q : Int) → vops X all r K (upd sl d (.c (.pt id (off + q * k)))) H) :
    vops X all (⟨some d, .indexAddr t x i, ty, ps, af, none⟩ :: r) K sl H := by
  obtain ⟨q, rfl⟩ := Int.eq_ofNat_of_zero_le hj.1
  refine v_q _ rfl ?_ (h q (by omega) rfl)
  simp only [evq, hL, hx, hi, hLe]
  rw [if_pos ⟨hk, hj.1, hj.2⟩, Int.toNat_natCast]
theorem v_store_flat {α : Type} {enc : α → List C} {t : TypeId} {a x : Operand} {L : Lay} {id off k : Nat} {cs : List C} {ys : List α} {tt : TypeId} {H' : List Ob} (q f : Nat) (y : α) (he : ∀ a, (enc a).length = k) (hL : X.lay t = some L) (ha : rho X.G sl a = .c (.pt id off)) (hx : (rho X.G sl x).cells = some cs) (ho : H[id]? = some ⟨flat enc ys, tt, true⟩)
    (hoff : off = q * k + f) (hq : q < ys.length) (hl : Nat.beq cs.length L.size = true) (hf : Nat.ble (f + L.size) k = true) (hy : enc y = setCells (enc ys[q]) f cs) (hH : H.set id ⟨flat enc (ys.set q y), tt, true⟩ = H') (h : vops X all r K sl H') :
    vops X all (⟨none, .store t a x, ty, ps, af, none⟩ :: r) K sl H := by
  subst hoff
  have hf' := Nat.le_of_ble_eq_true hf
  have hl' := Nat.eq_of_beq_eq_true hl
  refine v_e (f := ⟨.any, H', True⟩) rfl rfl ?_ trivial rfl rfl h
  simp only [eve, hL, ha, hx, ho]
  have hb : q * k + f + L.size ≤ (flat enc ys).length := by
    rw [flat_length he]
    have : (q + 1) * k ≤ ys.length * k := Nat.mul_le_mul_right k hq
    rw [Nat.add_mul] at this
    omega
  rw [if_pos ⟨trivial, hl', hb⟩, setCells_flat he hq (by omega) hy, hH]
theorem v_load_flat {α : Type} {enc : α → List C} {t : TypeId} {x : Operand} {L : Lay} {id off k : Nat} {ys : List α} {tt : TypeId} (q f : Nat) (v : V) (he : ∀ a, (enc a).length = k) (hL : X.lay t = some L) (hx : rho X.G sl x = .c (.pt id off)) (ho : H[id]? = some ⟨flat enc ys, tt, true⟩)
    (hoff : off = q * k + f) (hq : q < ys.length) (hf : Nat.ble (f + L.size) k = true) (hv : mkV L.kind.agg (sub (enc ys[q]) f L.size) = some v) (h : vops X all r K (upd sl d v) H) : vops X all (⟨some d, .load t x, ty, ps, af, none⟩ :: r) K sl H := by
  subst hoff
  have hf' := Nat.le_of_ble_eq_true hf
  refine v_q v rfl ?_ h
  simp only [evq, hL, hx, ho]
  have hb : q * k + f + L.size ≤ (flat enc ys).length := by
    rw [flat_length he]
    have : (q + 1) * k ≤ ys.length * k := Nat.mul_le_mul_right k hq
    rw [Nat.add_mul] at this
    omega
  rw [if_pos ⟨trivial, hb⟩, sub_flat2 he hq hf', hv]
end
end Go.VL
