/- Steps: parts of slices, words of bytes. Over any program. -/
import Derived.Test.YtbejolinihbokaaV31
import Derived.Lib.Strings
namespace Go.VL
open Go.RowKit
theorem sub_flat_n {α : Type} {enc : α → List C} {k : Nat} (he : ∀ a, (enc a).length = k) : ∀ (xs : List α) (l n : Nat), sub (flat enc xs) (l * k) (n * k) = flat enc ((xs.drop l).take n)
  | [], l, n => by simp [sub, flat]
  | x :: xs, 0, n => by
    cases n with
    | zero => simp [sub, flat]
    | succ n =>
      have ih := sub_flat_n he xs 0 n
      simp only [Nat.zero_mul, List.drop_zero] at ih ⊢
      unfold sub at ih ⊢
      rw [List.take_succ_cons, flat_cons, flat_cons, List.drop_zero, List.take_append, List.take_of_length_le (by rw [he, Nat.add_mul]; omega), he]
      congr 1
      rw [show (n + 1) * k - k = n * k by rw [Nat.add_mul]; omega]
      simpa using ih
  | x :: xs, l + 1, n => by
    have ih := sub_flat_n he xs l n
    unfold sub at ih ⊢
    rw [List.drop_succ_cons, ← ih, flat_cons]
    congr 1
    rw [show (l + 1) * k = (enc x).length + l * k by rw [he, Nat.add_mul]; omega, ← List.drop_drop, List.drop_left]
section
variable {X : Cx} {all r : List Oper} {K : Sl → List Ob → Prop} {sl : Sl} {H : List Ob} {d : Tmp} {ty : TypeId} {ps : String} {af : Array Edge}
/-- A part of a frozen slice. -/
theorem v_slice_sl {α : Type} {enc : α → List C} {t e : TypeId} {x : Operand} {lo hi : Option Operand} {a b : Nat} {z : List Value} {o : Bool} {m k : Nat} {xs : List α} {jl jh : Int} {L : Lay} (l h : Nat) (he : ∀ a, (enc a).length = k) (hL : X.lay t = some ⟨.slice e, a, b, z⟩) (hLe : X.lay e = some L) (hk : L.size = k) (hk0 : Nat.blt 0 k = true)
    (hx : rho X.G sl x = .c (.sl o m k (flat enc xs))) (hlo : bnd (rho X.G sl) lo 0 = some jl) (hhi : bnd (rho X.G sl) hi (m : Int) = some jh) (el : jl = (l : Int)) (eh : jh = (h : Int)) (hb : l ≤ h ∧ h ≤ m) (hn : vops X all r K (upd sl d (.c (.sl o (h - l) k (flat enc ((xs.drop l).take (h - l)))))) H) :
    vops X all (⟨some d, .slice t x lo hi none, ty, ps, af, none⟩ :: r) K sl H := by
  subst el eh
  refine v_q _ rfl ?_ hn
  simp only [evq, hL, hx, hLe, hlo, hhi]
  rw [if_pos ⟨hk, Nat.le_of_ble_eq_true hk0, by omega, by omega, by omega⟩]
  simp only [Int.toNat_natCast, sub_flat_n he]
/-- A slice of bytes as a word. -/
theorem v_conv_bs {s t e : TypeId} {x : Operand} {a b a' b' a2 b2 : Nat} {z z' z2 : List Value} {o : Bool} {n : Nat} {cs : List C} {ns : List Int} (hs : X.lay s = some ⟨.slice e, a, b, z⟩) (ht : X.lay t = some ⟨.string, a', b', z'⟩) (hLe : X.lay e = some ⟨.int .u8, a2, b2, z2⟩) (hx : rho X.G sl x = .c (.sl o n 1 cs)) (hb : bytesOf cs = some ns)
    (h : vops X all r K (upd sl d (.c (.v (.string (strOf ns))))) H) : vops X all (⟨some d, .convert s t x, ty, ps, af, none⟩ :: r) K sl H :=
  v_q _ rfl (by simp only [evq, hs, ht, hx, hLe, hb, if_true]) h
end
section
variable {X : Cx} {all r : List Oper} {K : Sl → List Ob → Prop} {sl : Sl} {H : List Ob} {d : Tmp} {ty : TypeId} {ps : String} {af : Array Edge}
/-- An element of a live array. -/
theorem v_idx_arr {t e : TypeId} {x i : Operand} {a b : Nat} {z : List Value} {id off m k : Nat} {kk : IntKind} {j : Int} {L : Lay} (hL : X.lay t = some ⟨.array m e, a, b, z⟩) (hLe : X.lay e = some L) (hk : L.size = k)
    (hx : rho X.G sl x = .c (.pt id off)) (hi : rho X.G sl i = .c (.v (.int kk j))) (hj : 0 ≤ j ∧ j < m) (h : ∀ (q : Nat), q < m → j = (q : Int) → vops X all r K (upd sl d (.c (.pt id (off + q * k)))) H) :
    vops X all (⟨some d, .indexAddr t x i, ty, ps, af, none⟩ :: r) K sl H := by
  obtain ⟨q, rfl⟩ := Int.eq_ofNat_of_zero_le hj.1
  refine v_q _ rfl ?_ (h q (by omega) rfl)
  simp only [evq, hL, hx, hi, hLe]
  rw [if_pos ⟨hj.1, hj.2⟩, Int.toNat_natCast, hk]
end
/-- Two bytes, set one behind the other. -/
theorem or_eq {a b : Int} (ha : 0 ≤ a ∧ a ≤ 255) (hb : 0 ≤ b ∧ b ≤ 255) : bits .or .i64 a (IntKind.i64.wrap (b * 2 ^ min (8 : Int).toNat IntKind.i64.bits)) = a + 256 * b := by
  obtain ⟨a, rfl⟩ := Int.eq_ofNat_of_zero_le ha.1
  obtain ⟨b, rfl⟩ := Int.eq_ofNat_of_zero_le hb.1
  have hp : (b : Int) * 2 ^ min (8 : Int).toNat IntKind.i64.bits = ((2 ^ 8 * b : Nat) : Int) := by
    have e1 : min (8 : Int).toNat IntKind.i64.bits = 8 := by decide
    have e2 : (2 : Int) ^ 8 = 256 := by decide
    have e3 : (2 : Nat) ^ 8 = 256 := by decide
    rw [e1, e2, e3]
    omega
  rw [hp, wrap_of (k := .i64) ⟨show (-9223372036854775808 : Int) ≤ _ by omega, show _ ≤ (9223372036854775807 : Int) by omega⟩]
  unfold bits
  have h1 : ∀ n : Nat, n < 2 ^ 64 → (BitVec.ofInt IntKind.i64.bits (n : Int)).toNat = n := fun n hn => by
    show (BitVec.ofInt 64 (n : Int)).toNat = n
    rw [BitVec.ofInt_natCast, BitVec.toNat_ofNat]
    exact Nat.mod_eq_of_lt hn
  have h2 : (BitVec.ofInt IntKind.i64.bits (a : Int) ||| BitVec.ofInt IntKind.i64.bits ((2 ^ 8 * b : Nat) : Int)).toNat = 2 ^ 8 * b + a := by
    rw [BitVec.toNat_or, h1 a (by omega), h1 (2 ^ 8 * b) (by omega), Nat.or_comm, Nat.two_pow_add_eq_or_of_lt (by omega)]
  simp only [h2]
  rw [wrap_of (k := .i64) ⟨show (-9223372036854775808 : Int) ≤ _ by omega, show _ ≤ (9223372036854775807 : Int) by omega⟩]
  omega
theorem strOf_toList (ns : List Int) : (strOf ns).toList = ns.map fun n => UInt8.ofNat n.toNat := by
  have key : ∀ (ns : List Int) (b : ByteArray), (ns.foldl (fun r n => r.push (UInt8.ofNat n.toNat)) b).data.toList = b.data.toList ++ ns.map fun n => UInt8.ofNat n.toNat := by
    intro ns
    induction ns with
    | nil => intro b; simp
    | cons n ns ih => intro b; rw [List.foldl_cons, ih]; simp [ByteArray.push]
  have h := key ns ByteArray.empty
  rw [Lib.toList_data]
  unfold strOf
  rw [h]
  rfl
/-- Words of bytes are equal just if the bytes are. -/
theorem strOf_eq {ps qs : List Int} (ha : ∀ x ∈ ps, 0 ≤ x ∧ x ≤ 255) (hb : ∀ x ∈ qs, 0 ≤ x ∧ x ≤ 255) : ((strOf ps).toList == (strOf qs).toList) = true ↔ ps = qs := by
  rw [strOf_toList, strOf_toList, beq_iff_eq]
  constructor
  · intro h
    induction ps generalizing qs with
    | nil => cases qs with
      | nil => rfl
      | cons b qs => simp at h
    | cons a ps ih => cases qs with
      | nil => simp at h
      | cons b qs =>
        simp only [List.map_cons, List.cons.injEq] at h
        have h1 := ha a (by simp)
        have h2 := hb b (by simp)
        have h3 := congrArg UInt8.toNat h.1
        simp only [UInt8.toNat_ofNat'] at h3
        rw [ih (fun x hx => ha x (by simp [hx])) (fun x hx => hb x (by simp [hx])) h.2]
        congr 1
        omega
  · rintro rfl; rfl
end Go.VL
