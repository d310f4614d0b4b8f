/- Steps: copies onto live slices; halves of words. Over any program. -/
import Derived.Test.YtbejolinihbokaaV41
namespace Go.VL
open Go.RowKit
theorem ftake {α : Type} {enc : α → List C} {k : Nat} (he : ∀ a, (enc a).length = k) : ∀ (ys : List α) (i : Nat), (flat enc ys).take (i * k) = flat enc (ys.take i)
  | [], i => by simp [flat]
  | y :: ys, 0 => by simp [flat]
  | y :: ys, i + 1 => by
    rw [flat_cons, List.take_succ_cons, flat_cons, ← ftake he ys i, Nat.add_mul, Nat.one_mul, List.take_append, he, show i * k + k - k = i * k by omega, List.take_of_length_le (by rw [he]; omega)]
theorem fdrop {α : Type} {enc : α → List C} {k : Nat} (he : ∀ a, (enc a).length = k) : ∀ (ys : List α) (i : Nat), (flat enc ys).drop (i * k) = flat enc (ys.drop i)
  | [], i => by simp [flat]
  | y :: ys, 0 => by simp
  | y :: ys, i + 1 => by
    rw [flat_cons, List.drop_succ_cons, ← fdrop he ys i, Nat.add_mul, Nat.one_mul, List.drop_append, he, show i * k + k - k = i * k by omega, List.drop_of_length_le (by rw [he]; omega), List.nil_append]
theorem setCells_fl {α : Type} {enc : α → List C} {k : Nat} (he : ∀ a, (enc a).length = k) (ys zs : List α) (l : Nat) : setCells (flat enc ys) (l * k) (flat enc zs) = flat enc (ys.take l ++ zs ++ ys.drop (l + zs.length)) := by
  unfold setCells
  rw [ftake he, flat_length he, ← Nat.add_mul, fdrop he, flat_append, flat_append]
section
variable {X : Cx} {all r : List Oper} {K : Sl → List Ob → Prop} {sl : Sl} {H : List Ob} {d : Tmp} {ty : TypeId} {ps : String} {af : Array Edge}
theorem src_fz {α : Type} {enc : α → List C} {x : Operand} {o : Bool} {n k : Nat} {zs : List α} (hsc : ∀ a, (enc a).all sc = true) (hx : rho X.G sl x = .c (.sl o n k (flat enc zs))) : srcOf H (rho X.G sl x) = some (n, k, flat enc zs) := by
  simp only [srcOf, hx]
  rw [reowns_flat hsc]
theorem src_mu {α : Type} {enc : α → List C} {x : Operand} {idx n k : Nat} {zs : List α} {t : TypeId} (l : Nat) (he : ∀ a, (enc a).length = k) (hx : rho X.G sl x = .c (.mu idx (l * k) n k)) (ho : H[idx]? = some ⟨flat enc zs, t, true⟩) (hz : l + n ≤ zs.length) :
    srcOf H (rho X.G sl x) = some (n, k, flat enc ((zs.drop l).take n)) := by
  have hl : l * k + n * k ≤ (flat enc zs).length := by
    rw [flat_length he, ← Nat.add_mul]
    exact Nat.mul_le_mul_right _ hz
  simp only [srcOf, hx, ho]
  rw [if_pos ⟨trivial, hl⟩, sub_flat_n he]
/-- A copy onto a live slice. -/
theorem v_copy {α : Type} {enc : α → List C} {ys zs : List α} {s x : Operand} {t e t' : TypeId} {a b : Nat} {z : List Value} {L : Lay} {id m n k : Nat} {tt : TypeId} {H' : List Ob} (l q : Nat) (he : ∀ a, (enc a).length = k) (hL : X.lay t = some ⟨.slice e, a, b, z⟩) (hLe : X.lay e = some L) (hk : L.size = k)
    (hs : rho X.G sl s = .c (.mu id (l * k) m k)) (ho : H[id]? = some ⟨flat enc ys, tt, true⟩) (hb : l + m ≤ ys.length) (hx : srcOf H (rho X.G sl x) = some (n, k, flat enc zs)) (hz : n = zs.length) (hq : min n m = q)
    (hH : H.set id ⟨flat enc (ys.take l ++ zs.take q ++ ys.drop (l + q)), tt, true⟩ = H') (h : vops X all r K (upd sl d (.c (.v (.int .i64 (q : Nat))))) H') :
    vops X all (⟨some d, .call ⟨.builtin .copy, #[s, x], #[t, t']⟩, ty, ps, af, none⟩ :: r) K sl H := by
  have hl : l * k + m * k ≤ (flat enc ys).length := by
    rw [flat_length he, ← Nat.add_mul]
    exact Nat.mul_le_mul_right _ hb
  have hql : (zs.take q).length = q := by
    rw [List.length_take, ← hz, ← hq]
    exact Nat.min_eq_left (Nat.min_le_left n m)
  subst hH hq
  refine v_e (f := ⟨.c (.v (.int .i64 (Nat.min n m : Nat))), H.set id ⟨setCells (flat enc ys) (l * k) ((flat enc zs).take (Nat.min n m * k)), tt, true⟩, L.size = k ∧ k = k ∧ true = true ∧ l * k + m * k ≤ (flat enc ys).length⟩) rfl rfl ?_ ⟨hk, rfl, rfl, hl⟩ rfl ?_ h
  · simp only [eve, hL, hLe, hs, hx, ho]
  · simp only
    rw [ftake he, setCells_fl he, hql]
theorem v_mul_e {t ty2 : TypeId} {x y : Operand} {L : Lay} {k : IntKind} {a b c : Int} (hL : X.lay t = some L) (hx : rho X.G sl x = .c (.v (.int k a))) (hy : rho X.G sl y = .c (.v (.int k b))) (hc : a * b = c) (hw : k.min ≤ c ∧ c ≤ k.max) (h : vops X all r K (upd sl d (.c (.v (.int k c)))) H) :
    vops X all (⟨some d, .binOp .mul t x y ty2, ty, ps, af, none⟩ :: r) K sl H := by
  subst hc
  exact v_mul hL hx hy hw h
theorem v_add_e {t ty2 : TypeId} {x y : Operand} {L : Lay} {k : IntKind} {a b c : Int} (hL : X.lay t = some L) (hx : rho X.G sl x = .c (.v (.int k a))) (hy : rho X.G sl y = .c (.v (.int k b))) (hc : a + b = c) (hw : k.min ≤ c ∧ c ≤ k.max) (h : vops X all r K (upd sl d (.c (.v (.int k c)))) H) :
    vops X all (⟨some d, .binOp .add t x y ty2, ty, ps, af, none⟩ :: r) K sl H := by
  subst hc
  exact v_add hL hx hy hw h
theorem v_and {t ty2 : TypeId} {x y : Operand} {L : Lay} {k : IntKind} {a b c : Int} (hL : X.lay t = some L) (hx : rho X.G sl x = .c (.v (.int k a))) (hy : rho X.G sl y = .c (.v (.int k b))) (hc : bits .and k a b = c) (h : vops X all r K (upd sl d (.c (.v (.int k c)))) H) :
    vops X all (⟨some d, .binOp .and t x y ty2, ty, ps, af, none⟩ :: r) K sl H :=
  v_bin hL hx hy (by simp only [bin, if_true, binI, hc]) h
end
theorem shr32z {a : Int} (h : 0 ≤ a ∧ a < 4294967296) : a.fdiv (2 ^ min (32 : Int).toNat IntKind.u64.bits) = 0 := by
  rw [show min (32 : Int).toNat IntKind.u64.bits = 32 by decide, Int.fdiv_eq_ediv_of_nonneg _ (by decide)]
  exact Int.ediv_eq_zero_of_lt h.1 h.2
theorem and32 {a : Int} (h : 0 ≤ a ∧ a < 4294967296) : bits .and .u64 a 4294967295 = a := by
  obtain ⟨n, rfl⟩ := Int.eq_ofNat_of_zero_le h.1
  have hn : n < 4294967296 := by omega
  have h1 : (BitVec.ofInt 64 (n : Int) &&& BitVec.ofInt 64 4294967295).toNat = n := by
    rw [BitVec.toNat_and, BitVec.toNat_ofInt, BitVec.toNat_ofInt]
    have e1 : ((n : Int) % ((2 ^ 64 : Nat) : Int)).toNat = n := by omega
    have e2 : ((4294967295 : Int) % ((2 ^ 64 : Nat) : Int)).toNat = 2 ^ 32 - 1 := by decide
    rw [e1, e2, Nat.and_two_pow_sub_one_eq_mod]
    exact Nat.mod_eq_of_lt hn
  show IntKind.u64.wrap (((BitVec.ofInt 64 (n : Int) &&& BitVec.ofInt 64 4294967295).toNat : Nat) : Int) = n
  rw [h1]
  exact wrap_of ⟨by show (0 : Int) ≤ n; omega, by show (n : Int) ≤ 18446744073709551615; omega⟩
end Go.VL
