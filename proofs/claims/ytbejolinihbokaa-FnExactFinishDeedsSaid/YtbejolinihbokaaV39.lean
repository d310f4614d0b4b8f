/- Loads asked again behind a writing operation, in regions whose order is drawn. Over any program. -/
import Derived.Test.YtbejolinihbokaaV38
namespace Go.VL
open Go.RowKit
section
variable {X : Cx} {sl : Sl} {H : List Ob}
theorem ag_load_vw {t : TypeId} {x : Operand} {L : Lay} {o : Bool} {cs : List C} {off : Nat} (v : V) (hL : X.lay t = some L) (hx : rho X.G sl x = .c (.vw o cs off)) (hl : Nat.ble (off + L.size) cs.length = true) (hv : mkV L.kind.agg (reowns o (sub cs off L.size)) = some v) : evq X.lay H (rho X.G sl) (.load t x) = some v := by
  simp only [evq, hL, hx]; rw [if_pos (Nat.le_of_ble_eq_true hl)]; exact hv
theorem ag_load_pt {t : TypeId} {x : Operand} {L : Lay} {id off : Nat} {cs : List C} {tt : TypeId} (v : V) (hL : X.lay t = some L) (hx : rho X.G sl x = .c (.pt id off)) (ho : H[id]? = some ⟨cs, tt, true⟩) (hl : Nat.ble (off + L.size) cs.length = true) (hv : mkV L.kind.agg (sub cs off L.size) = some v) : evq X.lay H (rho X.G sl) (.load t x) = some v := by
  simp only [evq, hL, hx, ho]; rw [if_pos ⟨trivial, Nat.le_of_ble_eq_true hl⟩]; exact hv
theorem ag_load_vwb {t : TypeId} {x : Operand} {L : Lay} {o : Bool} {cs : List C} {off : Nat} {q w : Bool} (hL : X.lay t = some L) (hx : rho X.G sl x = .c (.vw o cs off)) (hl : Nat.ble (off + L.size) cs.length = true) (hv : mkV L.kind.agg (reowns o (sub cs off L.size)) = some (.c (.v (.bool q)))) (hq : q = w) : evq X.lay H (rho X.G sl) (.load t x) = some (.c (.v (.bool w))) := by
  subst hq; exact ag_load_vw _ hL hx hl hv
theorem ag_load_ptb {t : TypeId} {x : Operand} {L : Lay} {id off : Nat} {cs : List C} {tt : TypeId} {q w : Bool} (hL : X.lay t = some L) (hx : rho X.G sl x = .c (.pt id off)) (ho : H[id]? = some ⟨cs, tt, true⟩) (hl : Nat.ble (off + L.size) cs.length = true) (hv : mkV L.kind.agg (sub cs off L.size) = some (.c (.v (.bool q)))) (hq : q = w) : evq X.lay H (rho X.G sl) (.load t x) = some (.c (.v (.bool w))) := by
  subst hq; exact ag_load_pt _ hL hx ho hl hv
theorem ag_load_flat {α : Type} {enc : α → List C} {t : TypeId} {x : Operand} {L : Lay} {id off k : Nat} {ys : List α} {tt : TypeId} (q f : Nat) (v : V) (he : ∀ a, (enc a).length = k) (hL : X.lay t = some L) (hx : rho X.G sl x = .c (.pt id off)) (ho : H[id]? = some ⟨flat enc ys, tt, true⟩)
    (hoff : off = q * k + f) (hq : q < ys.length) (hf : Nat.ble (f + L.size) k = true) (hv : mkV L.kind.agg (sub (enc ys[q]) f L.size) = some v) : evq X.lay H (rho X.G sl) (.load t x) = some v := by
  have h : vops X [] [⟨some 0, .load t x, 0, "", #[], none⟩] (fun sl' _ => sl' 0 = v) sl H :=
    v_load_flat q f v he hL hx ho hoff hq hf hv (v_nil (upd_same ..))
  have e : callOf (.load t x) = none := rfl
  have e2 : eve X.lay H (rho X.G sl) (.load t x) = none := rfl
  simp only [vops, vguard, vop, e, e2] at h
  split at h
  · rename_i w hw
    simp only [putV, upd_same] at h
    rw [hw, h]
  · exact absurd h.1 (by decide)
theorem ag_slice_mu {t e : TypeId} {x : Operand} {lo hi : Option Operand} {a b : Nat} {z : List Value} {id m k : Nat} {jl jh : Int} {L : Lay} (l h : Nat) (hL : X.lay t = some ⟨.slice e, a, b, z⟩) (hLe : X.lay e = some L) (hk : L.size = k)
    (hx : rho X.G sl x = .c (.mu id 0 m k)) (hlo : bnd (rho X.G sl) lo 0 = some jl) (hhi : bnd (rho X.G sl) hi (m : Int) = some jh) (el : jl = (l : Int)) (eh : jh = (h : Int)) (hb : l ≤ h ∧ h ≤ m) (h0 : l = 0 ∨ l < m) : evq X.lay H (rho X.G sl) (.slice t x lo hi none) = some (.c (.mu id (l * k) (h - l) k)) := by
  subst el eh
  simp only [evq, hL, hx, hLe, hlo, hhi]
  rw [if_pos ⟨hk, by omega, by omega, by omega, by omega⟩]
  simp only [Int.toNat_natCast, Nat.zero_add]
theorem ag_slice_mu_end {t e : TypeId} {x : Operand} {lo hi : Option Operand} {a b : Nat} {z : List Value} {id m k : Nat} {jl jh : Int} {L : Lay} (hL : X.lay t = some ⟨.slice e, a, b, z⟩) (hLe : X.lay e = some L) (_hk : L.size = k)
    (hx : rho X.G sl x = .c (.mu id 0 m k)) (hlo : bnd (rho X.G sl) lo 0 = some jl) (hhi : bnd (rho X.G sl) hi (m : Int) = some jh) (el : jl = (m : Int)) (eh : jh = (m : Int)) (h0 : 0 < m) : evq X.lay H (rho X.G sl) (.slice t x lo hi none) = some (.c (.sl false 0 k [])) := by
  subst el eh
  simp only [evq, hL, hx, hLe, hlo, hhi]
  rw [if_neg (by omega), if_pos ⟨by omega, trivial, trivial⟩]
end
section
variable {X : Cx} {all r : List Oper} {K : Sl → List Ob → Prop} {sl : Sl} {H : List Ob} {d : Tmp} {ty : TypeId} {ps : String} {af : Array Edge}
theorem v_max {x y : Operand} {tys : Array TypeId} {k k' : IntKind} {a b : Int} (hx : rho X.G sl x = .c (.v (.int k a))) (hy : rho X.G sl y = .c (.v (.int k' b))) (h : vops X all r K (upd sl d (.c (.v (.int k (if b > a then b else a))))) H) :
    vops X all (⟨some d, .call ⟨.builtin .max, #[x, y], tys⟩, ty, ps, af, none⟩ :: r) K sl H :=
  v_q _ rfl (by simp only [evq, hx, hy]) h
theorem v_min {x y : Operand} {tys : Array TypeId} {k k' : IntKind} {a b : Int} (hx : rho X.G sl x = .c (.v (.int k a))) (hy : rho X.G sl y = .c (.v (.int k' b))) (h : vops X all r K (upd sl d (.c (.v (.int k (if b < a then b else a))))) H) :
    vops X all (⟨some d, .call ⟨.builtin .min, #[x, y], tys⟩, ty, ps, af, none⟩ :: r) K sl H :=
  v_q _ rfl (by simp only [evq, hx, hy]) h
end
section
variable {X : Cx} {all : List Oper} {r : List En} {hist : Hist} {K : Sl → List Ob → Prop} {sl : Sl} {H : List Ob} {i : Nat} {chk : List Nat} {d : Tmp} {ty : TypeId} {ps : String} {af : Array Edge} {g : Option (Nat × Bool)}
theorem d_id {es : List En} (h : vopsD X all es hist K sl H) : vopsD X all es hist K sl H := h
/-- A call in a drawn region, walked into: one way through it. -/
theorem d_inl {D : DR} {f : Operand} {args : Array Operand} {tys : Array TypeId} {gf : FuncId} {fn : Func} {c : Code} {caps : List C} {avs : List V} {n : Nat} (hD : DrawOk X D) (hen : Enters X gf) (hfn : X.P.funcs[gf]? = some fn) (hb : fn.body = some c)
    (ho : all[i]? = some ⟨some d, .call ⟨.value f, args, tys⟩, ty, ps, af, g⟩) (hg : gb all sl g = some true) (hf : rho X.G sl f = .c (.fn gf caps)) (has : args.toList.map (rho X.G sl) ++ caps.map .c = avs) (hn : avs.length + (fn.ntmps - avs.length) = n)
    (h : ∃ (v : V) (H' : List Ob), vwp X n H.length D c (retQ X fn.results.toList fun v' H'' => v' = v ∧ H'' = H') (slots avs) H ∧ againAll X all H' chk hist ∧ vopsD X all r hist K (upd sl d v) H') : vopsD X all (⟨i, 1, chk⟩ :: r) hist K sl H := by
  obtain ⟨v, H', h1, h2, h3⟩ := h
  subst has
  simp only [vopsD, ho]
  refine gb_on hg ?_
  rw [if_pos trivial]
  exact ⟨v, H', .inr ⟨f, args.toList, gf, caps.map .c, rfl, by rw [hf]; rfl, CallC.of_body hD hen hfn hb hn h1⟩, h2, h3⟩
end
end Go.VL
