/- Steps: values built of parts, floats, conversions, words. Over any program. -/
import Derived.Test.YtbejolinihbokaaV22
namespace Go.VL
open Go.RowKit

section
variable {X : Cx} {all r : List Oper} {K : Sl → List Ob → Prop} {sl : Sl} {H : List Ob} {d : Tmp} {ty : TypeId} {ps : String} {af : Array Edge}

theorem v_build {t : TypeId} {parts : Array (Nat × Operand)} {fs : List (TypeId × Nat)} {a b : Nat} {z : List Value} (places : List (Nat × Nat)) (cs : List C) (hL : X.lay t = some ⟨.struct fs, a, b, z⟩) (hp : fs.mapM (fun p => (X.lay p.1).map fun L => (p.2, L.size)) = some places)
    (hc : fillC (places[·]?) (z.map cOf) (parts.toList.map fun p => (p.1, rho X.G sl p.2)) = some cs) (h : vops X all r K (upd sl d (.agg cs)) H) : vops X all (⟨some d, .build t parts, ty, ps, af, none⟩ :: r) K sl H :=
  v_q (.agg cs) rfl (by simp only [evq, hL, hp, hc, Option.map_some]) h
theorem v_build_a {t e : TypeId} {parts : Array (Nat × Operand)} {n a b : Nat} {z : List Value} {L : Lay} (cs : List C) (hL : X.lay t = some ⟨.array n e, a, b, z⟩) (hLe : X.lay e = some L)
    (hc : fillC (fun i => some (i * L.size, L.size)) (z.map cOf) (parts.toList.map fun p => (p.1, rho X.G sl p.2)) = some cs) (h : vops X all r K (upd sl d (.agg cs)) H) : vops X all (⟨some d, .build t parts, ty, ps, af, none⟩ :: r) K sl H :=
  v_q (.agg cs) rfl (by simp only [evq, hL, hLe, hc, Option.map_some]) h
/-- An operation that answers yes or no. -/
theorem v_binb {op : BinOp} {t ty2 : TypeId} {x y : Operand} {L : Lay} {a b : C} {q : Bool} (hL : X.lay t = some L) (hx : rho X.G sl x = .c a) (hy : rho X.G sl y = .c b) (hb : bin op L.kind a b = some (.v (.bool q)))
    (h1 : q = true → vops X all r K (upd sl d (.c (.v (.bool true)))) H) (h2 : q = false → vops X all r K (upd sl d (.c (.v (.bool false)))) H) : vops X all (⟨some d, .binOp op t x y ty2, ty, ps, af, none⟩ :: r) K sl H := by
  cases q with
  | true => exact v_bin hL hx hy hb (h1 rfl)
  | false => exact v_bin hL hx hy hb (h2 rfl)
theorem v_conv_if {s t : TypeId} {x : Operand} {k' : IntKind} {k : FloatKind} {a b a' b' : Nat} {z z' : List Value} {kk : IntKind} {n : Int} (hs : X.lay s = some ⟨.int k', a, b, z⟩) (ht : X.lay t = some ⟨.float k, a', b', z'⟩) (hx : rho X.G sl x = .c (.v (.int kk n)))
    (h : vops X all r K (upd sl d (.c (.f k (some (k.nearest n))))) H) : vops X all (⟨some d, .convert s t x, ty, ps, af, none⟩ :: r) K sl H :=
  v_q _ rfl (by simp only [evq, hs, ht, hx]) h
theorem v_conv_ii {s t : TypeId} {x : Operand} {k' k : IntKind} {a b a' b' : Nat} {z z' : List Value} {kk : IntKind} {n : Int} (hs : X.lay s = some ⟨.int k', a, b, z⟩) (ht : X.lay t = some ⟨.int k, a', b', z'⟩) (hx : rho X.G sl x = .c (.v (.int kk n)))
    (hw : k.min ≤ n ∧ n ≤ k.max) (h : vops X all r K (upd sl d (.c (.v (.int k n)))) H) : vops X all (⟨some d, .convert s t x, ty, ps, af, none⟩ :: r) K sl H :=
  v_q _ rfl (by simp only [evq, hs, ht, hx, wrap_of hw]) h
theorem v_conv_iw {s t : TypeId} {x : Operand} {k' k : IntKind} {a b a' b' : Nat} {z z' : List Value} {kk : IntKind} {n : Int} (hs : X.lay s = some ⟨.int k', a, b, z⟩) (ht : X.lay t = some ⟨.int k, a', b', z'⟩) (hx : rho X.G sl x = .c (.v (.int kk n)))
    (h : vops X all r K (upd sl d (.c (.v (.int k (k.wrap n))))) H) : vops X all (⟨some d, .convert s t x, ty, ps, af, none⟩ :: r) K sl H :=
  v_q _ rfl (by simp only [evq, hs, ht, hx]) h
theorem v_conv_ff {s t : TypeId} {x : Operand} {k1 k k' : FloatKind} {a b a' b' : Nat} {z z' : List Value} {p : Option Nat} (y : Option Nat) (hs : X.lay s = some ⟨.float k1, a, b, z⟩) (ht : X.lay t = some ⟨.float k, a', b', z'⟩) (hx : rho X.G sl x = .c (.f k' p))
    (hc : convF k' k p = some y) (h : vops X all r K (upd sl d (.c (.f k y))) H) : vops X all (⟨some d, .convert s t x, ty, ps, af, none⟩ :: r) K sl H :=
  v_q _ rfl (by simp only [evq, hs, ht, hx, hc]) h
theorem v_conv_fi {s t : TypeId} {x : Operand} {k1 k' : FloatKind} {k : IntKind} {a b a' b' : Nat} {z z' : List Value} {p : Nat} (n : Int) (hs : X.lay s = some ⟨.float k1, a, b, z⟩) (ht : X.lay t = some ⟨.int k, a', b', z'⟩) (hx : rho X.G sl x = .c (.f k' (some p)))
    (hc : (k'.decode p).toInt .zero = some n) (hr : k.min ≤ n ∧ n ≤ k.max) (h : vops X all r K (upd sl d (.c (.v (.int k n)))) H) : vops X all (⟨some d, .convert s t x, ty, ps, af, none⟩ :: r) K sl H :=
  v_q _ rfl (by simp only [evq, hs, ht, hx, hc]; rw [if_pos hr]) h
/-- A slice's literal, as an object. -/
theorem v_lit {t e : TypeId} {m : Nat} {parts : Array (Nat × Operand)} {a b : Nat} {z : List Value} {L : Lay} (cs : List C) {k q : Nat} {H' : List Ob} (hL : X.lay t = some ⟨.slice e, a, b, z⟩) (hLe : X.lay e = some L) (hk : L.size = k)
    (hc : fillC (fun i => some (i * L.size, L.size)) (zeros L m) (parts.toList.map fun p => (p.1, rho X.G sl p.2)) = some cs) (h0 : 0 < L.size ∧ m * L.size ≤ 2 ^ 24) (hq : H.length = q) (hH : H ++ [⟨cs, e, true⟩] = H') (h : vops X all r K (upd sl d (.c (.mu q 0 m k))) H') :
    vops X all (⟨some d, .buildSlice t m parts, ty, ps, af, none⟩ :: r) K sl H :=
  v_e (f := ⟨.c (.mu q 0 m k), H', True⟩) rfl rfl (by simp only [eve, hL, hLe, hc]; rw [if_pos h0]; simp only [hk, hq, hH]) trivial rfl rfl h
/-- append onto a live slice. -/
theorem v_app_mu {s x : Operand} {t e : TypeId} {a b : Nat} {z : List Value} {L : Lay} {id m n k q : Nat} {ocs cs : List C} {H' : List Ob} (hL : X.lay t = some ⟨.slice e, a, b, z⟩) (hLe : X.lay e = some L) (hs : rho X.G sl s = .c (.mu id 0 m k)) (ho : H[id]? = some ⟨ocs, e, true⟩) (hx : srcOf H (rho X.G sl x) = some (n, k, cs))
    (hk : L.size = k) (hk0 : 0 < k) (hm : ocs.length = m * k) (hn : m + n ≤ maxLen ∧ (m + n) * L.bytes ≤ 140737488355328) (hq : H.length = q) (hH : H.set id ⟨ocs, e, false⟩ ++ [⟨ocs ++ cs, e, true⟩] = H') (h : vops X all r K (upd sl d (.c (.mu q 0 (m + n) k))) H') :
    vops X all (⟨some d, .call ⟨.builtin .append, #[s, x], #[t, t]⟩, ty, ps, af, none⟩ :: r) K sl H := by
  refine v_e (f := ⟨.c (.mu q 0 (m + n) k), H', L.size = k ∧ k = k ∧ 0 < k ∧ true = true ∧ e = e ∧ 0 + m * k ≤ ocs.length ∧ m + n ≤ maxLen ∧ (m + n) * L.bytes ≤ 140737488355328⟩) rfl rfl ?_ ⟨hk, rfl, hk0, rfl, rfl, by omega, hn⟩ rfl rfl h
  have hsub : sub ocs 0 (m * k) = ocs := by unfold sub; rw [← hm]; simp
  simp only [eve, hL, hLe, hs, ho, hx, if_true, hsub, hq, hH]
theorem v_app_nil {s x : Operand} {t e : TypeId} {a b : Nat} {z : List Value} {L : Lay} {n k q : Nat} {cs : List C} {H' : List Ob} (hL : X.lay t = some ⟨.slice e, a, b, z⟩) (hLe : X.lay e = some L) (hs : rho X.G sl s = .c (.v (.slice none 0 0))) (hx : srcOf H (rho X.G sl x) = some (n, k, cs))
    (hk : L.size = k) (hk0 : 0 < k) (hn : n ≤ maxLen ∧ n * L.bytes ≤ 140737488355328) (hq : H.length = q) (hH : H ++ [⟨cs, e, true⟩] = H') (h : vops X all r K (upd sl d (.c (.mu q 0 n k))) H') :
    vops X all (⟨some d, .call ⟨.builtin .append, #[s, x], #[t, t]⟩, ty, ps, af, none⟩ :: r) K sl H :=
  v_e (f := ⟨.c (.mu q 0 n k), H', L.size = k ∧ 0 < k ∧ n ≤ maxLen ∧ n * L.bytes ≤ 140737488355328⟩) rfl rfl (by simp only [eve, hL, hLe, hs, hx, if_true, hq, hH]) ⟨hk, hk0, hn⟩ rfl rfl h
end
end Go.VL
