/- Steps: elements by a number that is told, parts of live slices, and appends of them. Over any program. -/
import Derived.Test.YtbejolinihbokaaV37
namespace Go.VL
open Go.RowKit
section
variable {X : Cx} {all r : List Oper} {K : Sl → List Ob → Prop} {sl : Sl} {H : List Ob} {d : Tmp} {ty : TypeId} {ps : String} {af : Array Edge}
/-- An element of a live slice, by a number that is told. -/
theorem v_idx_mu_e {t e : TypeId} {x i : Operand} {a b : Nat} {z : List Value} {id off m k : Nat} {kk : IntKind} (j : Nat) {y : Int} {L : Lay} (hL : X.lay t = some ⟨.slice e, a, b, z⟩) (hLe : X.lay e = some L) (hk : L.size = k)
    (hx : rho X.G sl x = .c (.mu id off m k)) (hi : rho X.G sl i = .c (.v (.int kk y))) (ey : y = (j : Int)) (hj : j < m) (h : vops X all r K (upd sl d (.c (.pt id (off + j * k)))) H) :
    vops X all (⟨some d, .indexAddr t x i, ty, ps, af, none⟩ :: r) K sl H := v_idx_mu_n j hL hLe hk hx (by rw [hi, ey]) hj h
/-- .. of a frozen one. -/
theorem v_idx_e {α : Type} {enc : α → List C} {t e : TypeId} {x i : Operand} {a b : Nat} {z : List Value} {o : Bool} {m k : Nat} {xs : List α} {kk : IntKind} (j : Nat) {y : Int} {L : Lay} (he : ∀ a, (enc a).length = k) (hL : X.lay t = some ⟨.slice e, a, b, z⟩) (hLe : X.lay e = some L) (hk : L.size = k) (hk0 : Nat.blt 0 k = true)
    (hx : rho X.G sl x = .c (.sl o m k (flat enc xs))) (hm : m = xs.length) (hi : rho X.G sl i = .c (.v (.int kk y))) (ey : y = (j : Int)) (hj : j < xs.length) (h : vops X all r K (upd sl d (.c (.vw o (enc xs[j]) 0))) H) :
    vops X all (⟨some d, .indexAddr t x i, ty, ps, af, none⟩ :: r) K sl H := v_idx_n j he hL hLe hk hk0 hx hm (by rw [hi, ey]) hj h
/-- A part of a live slice. -/
theorem v_slice_mu {t e : TypeId} {x : Operand} {lo hi : Option Operand} {a b : Nat} {z : List Value} {id m k : Nat} {jl jh : Int} {L : Lay} (l h : Nat) (hL : X.lay t = some ⟨.slice e, a, b, z⟩) (hLe : X.lay e = some L) (hk : L.size = k)
    (hx : rho X.G sl x = .c (.mu id 0 m k)) (hlo : bnd (rho X.G sl) lo 0 = some jl) (hhi : bnd (rho X.G sl) hi (m : Int) = some jh) (el : jl = (l : Int)) (eh : jh = (h : Int)) (hb : l ≤ h ∧ h ≤ m) (h0 : l = 0 ∨ l < m) (hn : vops X all r K (upd sl d (.c (.mu id (l * k) (h - l) k))) H) :
    vops X all (⟨some d, .slice t x lo hi none, ty, ps, af, none⟩ :: r) K sl H := by
  subst el eh
  refine v_q _ rfl ?_ hn
  simp only [evq, hL, hx, hLe, hlo, hhi]
  rw [if_pos ⟨hk, by omega, by omega, by omega, by omega⟩]
  simp only [Int.toNat_natCast, Nat.zero_add]
/-- .. none of it, at its end. -/
theorem v_slice_mu_end {t e : TypeId} {x : Operand} {lo hi : Option Operand} {a b : Nat} {z : List Value} {id m k : Nat} {jl jh : Int} {L : Lay} (hL : X.lay t = some ⟨.slice e, a, b, z⟩) (hLe : X.lay e = some L) (_hk : L.size = k)
    (hx : rho X.G sl x = .c (.mu id 0 m k)) (hlo : bnd (rho X.G sl) lo 0 = some jl) (hhi : bnd (rho X.G sl) hi (m : Int) = some jh) (el : jl = (m : Int)) (eh : jh = (m : Int)) (h0 : 0 < m) (hn : vops X all r K (upd sl d (.c (.sl false 0 k []))) H) :
    vops X all (⟨some d, .slice t x lo hi none, ty, ps, af, none⟩ :: r) K sl H := by
  subst el eh
  refine v_q _ rfl ?_ hn
  simp only [evq, hL, hx, hLe, hlo, hhi]
  rw [if_neg (by omega), if_pos ⟨by omega, trivial, trivial⟩]
/-- append of a part of a live slice onto another. -/
theorem v_app_flat_off {α : Type} {enc : α → List C} {ys zs : List α} {s x : Operand} {t e e' : TypeId} {a b : Nat} {z : List Value} {L : Lay} {id idx m n k q : Nat} {H' : List Ob} (l : Nat) (_hsc : ∀ a, (enc a).all sc = true) (he : ∀ a, (enc a).length = k) (hL : X.lay t = some ⟨.slice e, a, b, z⟩) (hLe : X.lay e = some L) (hs : rho X.G sl s = .c (.mu id 0 m k)) (ho : H[id]? = some ⟨flat enc ys, e, true⟩) (hm : m = ys.length)
    (hx : rho X.G sl x = .c (.mu idx (l * k) n k)) (hox : H[idx]? = some ⟨flat enc zs, e', true⟩) (hz : l + n ≤ zs.length) (hk : L.size = k) (hk0 : Nat.blt 0 k = true) (hn : m + n ≤ maxLen ∧ (m + n) * L.bytes ≤ 140737488355328) (hq : H.length = q) (hH : H.set id ⟨flat enc ys, e, false⟩ ++ [⟨flat enc (ys ++ (zs.drop l).take n), e, true⟩] = H') (h : vops X all r K (upd sl d (.c (.mu q 0 (m + n) k))) H') :
    vops X all (⟨some d, .call ⟨.builtin .append, #[s, x], #[t, t]⟩, ty, ps, af, none⟩ :: r) K sl H := by
  have hx' : srcOf H (rho X.G sl x) = some (n, k, flat enc ((zs.drop l).take n)) := by
    have hl : l * k + n * k ≤ (flat enc zs).length := by
      rw [flat_length he, ← Nat.add_mul]
      exact Nat.mul_le_mul_right _ hz
    simp only [srcOf, hx, hox]
    rw [if_pos ⟨trivial, hl⟩, sub_flat_n he]
  exact v_app_mu hL hLe hs ho hx' hk (Nat.le_of_ble_eq_true hk0) (by rw [flat_length he, hm]) hn hq (by rw [← flat_append]; exact hH) h
end
end Go.VL
