/- Texts of one proof, put together: V46, X0, C1, C2, C4, G1. -/
import Derived.Test.YtenaamehifbfeaaM2
import Derived.Test.YtenaamehifbfeaaProg
import Derived.WalkKit
import Derived.KernelRfl
import Derived.Lib.Walk
import Derived.Lib.SliceRun
import Derived.Lib.AppendZerosOnto
namespace Go.VL
open Go.RowKit
section
variable {X : Cx} {all r : List Oper} {K : Sl → List Ob → Prop} {sl : Sl} {H : List Ob} {d : Tmp} {ty : TypeId} {ps : String} {af : Array Edge}
theorem v_idx_arr_e {t e : TypeId} {x i : Operand} {a b : Nat} {z : List Value} {id off m k : Nat} {kk : IntKind} (j : Nat) {y : Int} {L : Lay} (hL : X.lay t = some ⟨.array m e, a, b, z⟩) (hLe : X.lay e = some L) (hk : L.size = k)
    (hx : rho X.G sl x = .c (.pt id off)) (hi : rho X.G sl i = .c (.v (.int kk y))) (ey : y = (j : Int)) (hj : j < m) (h : vops X all r K (upd sl d (.c (.pt id (off + j * k)))) H) :
    vops X all (⟨some d, .indexAddr t x i, ty, ps, af, none⟩ :: r) K sl H := by
  subst ey
  refine v_q _ rfl ?_ h
  simp only [evq, hL, hx, hi, hLe]
  rw [if_pos ⟨by omega, by omega⟩, Int.toNat_natCast, hk]
theorem v_idx_av_e {t e : TypeId} {x i : Operand} {a b : Nat} {z : List Value} {o : Bool} {cs : List C} {off m k : Nat} {kk : IntKind} (j : Nat) {y : Int} {L : Lay} (hL : X.lay t = some ⟨.array m e, a, b, z⟩) (hLe : X.lay e = some L) (hk : L.size = k)
    (hx : rho X.G sl x = .c (.vw o cs off)) (hi : rho X.G sl i = .c (.v (.int kk y))) (ey : y = (j : Int)) (hj : j < m) (h : vops X all r K (upd sl d (.c (.vw o cs (off + j * k)))) H) :
    vops X all (⟨some d, .indexAddr t x i, ty, ps, af, none⟩ :: r) K sl H := by
  subst ey
  refine v_q _ rfl ?_ h
  simp only [evq, hL, hx, hi, hLe]
  rw [if_pos ⟨by omega, by omega⟩, Int.toNat_natCast, hk]
/-- A cell, loaded from where the number says. -/
theorem v_load_vw_e {t : TypeId} {x : Operand} {L : Lay} {o : Bool} {cs : List C} {off : Nat} (v : V) (hL : X.lay t = some L) (hx : rho X.G sl x = .c (.vw o cs off)) (hl : off + L.size ≤ cs.length) (hv : mkV L.kind.agg (reowns o (sub cs off L.size)) = some v)
    (h : vops X all r K (upd sl d v) H) : vops X all (⟨some d, .load t x, ty, ps, af, none⟩ :: r) K sl H :=
  v_load_vw v hL hx (Nat.ble_eq_true_of_le hl) hv h
theorem v_load_flat_e {α : Type} {enc : α → List C} {t : TypeId} {x : Operand} {L : Lay} {id off k : Nat} {ys : List α} {tt : TypeId} (q f : Nat) (v : V) (he : ∀ a, (enc a).length = k) (hL : X.lay t = some L) (hx : rho X.G sl x = .c (.pt id off)) (ho : H[id]? = some ⟨flat enc ys, tt, true⟩)
    (hoff : off = q * k + f) (hq : q < ys.length) (hf : f + L.size ≤ k) (hv : mkV L.kind.agg (sub (enc ys[q]) f L.size) = some v) (h : vops X all r K (upd sl d v) H) : vops X all (⟨some d, .load t x, ty, ps, af, none⟩ :: r) K sl H :=
  v_load_flat q f v he hL hx ho hoff hq (Nat.ble_eq_true_of_le hf) hv h
theorem v_load_flatb {α : Type} {enc : α → List C} {t : TypeId} {x : Operand} {L : Lay} {id off k : Nat} {ys : List α} {tt : TypeId} {w : Bool} (q f : Nat) (he : ∀ a, (enc a).length = k) (hL : X.lay t = some L) (hx : rho X.G sl x = .c (.pt id off)) (ho : H[id]? = some ⟨flat enc ys, tt, true⟩)
    (hoff : off = q * k + f) (hq : q < ys.length) (hf : f + L.size ≤ k) (hv : mkV L.kind.agg (sub (enc ys[q]) f L.size) = some (.c (.v (.bool w))))
    (h1 : w = true → vops X all r K (upd sl d (.c (.v (.bool true)))) H) (h2 : w = false → vops X all r K (upd sl d (.c (.v (.bool false)))) H) : vops X all (⟨some d, .load t x, ty, ps, af, none⟩ :: r) K sl H := by
  cases w with
  | true => exact v_load_flat_e q f _ he hL hx ho hoff hq hf hv (h1 rfl)
  | false => exact v_load_flat_e q f _ he hL hx ho hoff hq hf hv (h2 rfl)
theorem v_store_flat_e {α : Type} {enc : α → List C} {t : TypeId} {a x : Operand} {L : Lay} {id off k : Nat} {cs : List C} {ys : List α} {tt : TypeId} {H' : List Ob} (q f : Nat) (y : α) (he : ∀ a, (enc a).length = k) (hL : X.lay t = some L) (ha : rho X.G sl a = .c (.pt id off)) (hx : (rho X.G sl x).cells = some cs) (ho : H[id]? = some ⟨flat enc ys, tt, true⟩)
    (hoff : off = q * k + f) (hq : q < ys.length) (hl : Nat.beq cs.length L.size = true) (hf : f + L.size ≤ k) (hy : enc y = setCells (enc ys[q]) f cs) (hH : H.set id ⟨flat enc (ys.set q y), tt, true⟩ = H') (h : vops X all r K sl H') :
    vops X all (⟨none, .store t a x, ty, ps, af, none⟩ :: r) K sl H :=
  v_store_flat q f y he hL ha hx ho hoff hq hl (Nat.ble_eq_true_of_le hf) hy hH h
/-- An element of an array that is a value. -/
theorem v_index_e {t e : TypeId} {x i : Operand} {n a b : Nat} {z : List Value} {cs : List C} {kk : IntKind} (j : Nat) {y : Int} {L : Lay} (v : V) (hL : X.lay t = some ⟨.array n e, a, b, z⟩) (hLe : X.lay e = some L) (hx : rho X.G sl x = .agg cs) (hi : rho X.G sl i = .c (.v (.int kk y))) (ey : y = (j : Int))
    (hj : j < n) (hc : j * L.size + L.size ≤ cs.length) (hv : mkV L.kind.agg (sub cs (j * L.size) L.size) = some v) (h : vops X all r K (upd sl d v) H) :
    vops X all (⟨some d, .index t x i, ty, ps, af, none⟩ :: r) K sl H := by
  subst ey
  exact v_index v hL hLe hx hi ⟨by omega, by omega, by rw [Int.toNat_natCast]; exact hc⟩ (by rw [Int.toNat_natCast]; exact hv) h
end
/-! Rows of eight truths -/
abbrev Ph := Fin 8 → Bool
def bo (b : Bool) : List C := [.v (.bool b)]
theorem bo_len (b : Bool) : (bo b).length = 1 := rfl
theorem bo_sc (b : Bool) : (bo b).all sc = true := rfl
def pl (g : Ph) : List Bool := [g 0, g 1, g 2, g 3, g 4, g 5, g 6, g 7]
theorem pl_len (g : Ph) : (pl g).length = 8 := rfl
abbrev phc (g : Ph) : List C := [.v (.bool (g 0)), .v (.bool (g 1)), .v (.bool (g 2)), .v (.bool (g 3)), .v (.bool (g 4)), .v (.bool (g 5)), .v (.bool (g 6)), .v (.bool (g 7))]
theorem pl_flat (g : Ph) : phc g = flat bo (pl g) := rfl
theorem pl_get (g : Ph) {i : Nat} (h : i < 8) : (pl g)[i]'(by rw [pl_len]; exact h) = g ⟨i, h⟩ := by
  match i, h with
  | 0, _ => rfl
  | 1, _ => rfl
  | 2, _ => rfl
  | 3, _ => rfl
  | 4, _ => rfl
  | 5, _ => rfl
  | 6, _ => rfl
  | 7, _ => rfl
def putG (g : Ph) (i : Nat) (b : Bool) : Ph := fun j => if j.val = i then b else g j
theorem pl_set (g : Ph) {i : Nat} (h : i < 8) (b : Bool) : (pl g).set i b = pl (putG g i b) := by
  match i, h with
  | 0, _ => rfl
  | 1, _ => rfl
  | 2, _ => rfl
  | 3, _ => rfl
  | 4, _ => rfl
  | 5, _ => rfl
  | 6, _ => rfl
  | 7, _ => rfl
theorem phc_sub (g : Ph) (r : List C) {i : Nat} (h : i < 8) : sub (phc g ++ r) i 1 = [.v (.bool (g ⟨i, h⟩))] := by
  match i, h with
  | 0, _ => rfl
  | 1, _ => rfl
  | 2, _ => rfl
  | 3, _ => rfl
  | 4, _ => rfl
  | 5, _ => rfl
  | 6, _ => rfl
  | 7, _ => rfl
theorem phc_set (g : Ph) (r : List C) {i : Nat} (h : i < 8) (b : Bool) : setCells (phc g ++ r) i [.v (.bool b)] = phc (putG g i b) ++ r := by
  match i, h with
  | 0, _ => rfl
  | 1, _ => rfl
  | 2, _ => rfl
  | 3, _ => rfl
  | 4, _ => rfl
  | 5, _ => rfl
  | 6, _ => rfl
  | 7, _ => rfl
/-- The first ones of one row, the rest of another. -/
def mixG (i : Nat) (g h : Ph) : Ph := fun j => if j.val < i then g j else h j
theorem mix_0 (g h : Ph) : mixG 0 g h = h := by funext j; simp [mixG]
theorem mix_8 (g h : Ph) : mixG 8 g h = g := by funext j; simp [mixG, j.isLt]
theorem mix_put (g h : Ph) {i : Nat} (hi : i < 8) : putG (mixG i g h) i (g ⟨i, hi⟩) = mixG (i + 1) g h := by
  funext j
  unfold putG mixG
  by_cases h1 : j.val = i
  · subst h1
    simp
  · by_cases h2 : j.val < i
    · rw [if_neg h1, if_pos h2, if_pos (by omega)]
    · rw [if_neg h1, if_neg h2, if_neg (by omega)]
theorem ph_ext {g h : Ph} : g = h ↔ ∀ i (hi : i < 8), g ⟨i, hi⟩ = h ⟨i, hi⟩ := ⟨fun e i hi => by rw [e], fun e => by funext ⟨i, hi⟩; exact e i hi⟩
end Go.VL
set_option maxRecDepth 20000
namespace Go.VL
open Go.RowKit
def layT : List (TypeId × Lay) := [
  (1, ⟨.other, 1, 8, [.nilFunc]⟩),
  (2, ⟨.int .i64, 1, 8, [.int .i64 0]⟩),
  (3, ⟨.int .i64, 1, 8, [.int .i64 0]⟩),
  (4, ⟨.bool, 1, 1, [.bool false]⟩),
  (5, ⟨.int .u8, 1, 1, [.int .u8 0]⟩),
  (6, ⟨.int .u8, 1, 1, [.int .u8 0]⟩),
  (7, ⟨.struct [(2, 0), (3, 1), (4, 2), (6, 3)], 4, 24, [.int .i64 0, .int .i64 0, .bool false, .int .u8 0]⟩),
  (8, ⟨.struct [(2, 0), (3, 1), (4, 2), (6, 3)], 4, 24, [.int .i64 0, .int .i64 0, .bool false, .int .u8 0]⟩),
  (9, ⟨.string, 1, 16, [.string ⟨#[]⟩]⟩),
  (10, ⟨.string, 1, 16, [.string ⟨#[]⟩]⟩),
  (11, ⟨.string, 1, 16, [.string ⟨#[]⟩]⟩),
  (12, ⟨.int .u64, 1, 8, [.int .u64 0]⟩),
  (13, ⟨.struct [(9, 0), (12, 1)], 2, 24, [.string ⟨#[]⟩, .int .u64 0]⟩),
  (14, ⟨.struct [(9, 0), (12, 1)], 2, 24, [.string ⟨#[]⟩, .int .u64 0]⟩),
  (15, ⟨.other, 1, 8, [.pointer none]⟩),
  (16, ⟨.other, 1, 8, [.pointer none]⟩),
  (17, ⟨.other, 1, 8, [.pointer none]⟩),
  (18, ⟨.struct [(17, 0)], 1, 8, [.pointer none]⟩),
  (19, ⟨.struct [(17, 0)], 1, 8, [.pointer none]⟩),
  (21, ⟨.int .i32, 1, 4, [.int .i32 0]⟩),
  (22, ⟨.float .f32, 1, 4, [.float .f32 0]⟩),
  (23, ⟨.int .i16, 1, 2, [.int .i16 0]⟩),
  (24, ⟨.struct [(2, 0), (22, 1), (23, 2), (22, 3), (2, 4)], 5, 32, [.int .i64 0, .float .f32 0, .int .i16 0, .float .f32 0, .int .i64 0]⟩),
  (25, ⟨.struct [(2, 0), (22, 1), (23, 2), (22, 3), (2, 4)], 5, 32, [.int .i64 0, .float .f32 0, .int .i16 0, .float .f32 0, .int .i64 0]⟩),
  (26, ⟨.struct [(2, 0), (23, 1), (23, 2)], 3, 16, [.int .i64 0, .int .i16 0, .int .i16 0]⟩),
  (27, ⟨.struct [(2, 0), (23, 1), (23, 2)], 3, 16, [.int .i64 0, .int .i16 0, .int .i16 0]⟩),
  (28, ⟨.struct [(2, 0), (22, 1), (23, 2), (22, 3), (2, 4)], 5, 32, [.int .i64 0, .float .f32 0, .int .i16 0, .float .f32 0, .int .i64 0]⟩),
  (30, ⟨.other, 1, 8, [.nilFunc]⟩),
  (31, ⟨.other, 1, 8, [.nilFunc]⟩),
  (32, ⟨.other, 1, 8, [.nilFunc]⟩),
  (33, ⟨.other, 1, 8, [.nilFunc]⟩),
  (34, ⟨.other, 1, 8, [.nilFunc]⟩),
  (35, ⟨.slice 88, 1, 24, [.slice none 0 0]⟩),
  (36, ⟨.other, 1, 8, [.nilFunc]⟩),
  (37, ⟨.slice 22, 1, 24, [.slice none 0 0]⟩),
  (39, ⟨.other, 1, 8, [.nilFunc]⟩),
  (40, ⟨.slice 27, 1, 24, [.slice none 0 0]⟩),
  (41, ⟨.other, 1, 8, [.nilFunc]⟩),
  (42, ⟨.other, 1, 8, [.nilFunc]⟩),
  (43, ⟨.other, 1, 8, [.nilFunc]⟩),
  (44, ⟨.other, 1, 8, [.nilFunc]⟩),
  (45, ⟨.other, 1, 8, [.nilFunc]⟩),
  (46, ⟨.other, 1, 8, [.nilFunc]⟩),
  (47, ⟨.slice 5, 1, 24, [.slice none 0 0]⟩),
  (49, ⟨.other, 1, 8, [.nilFunc]⟩),
  (50, ⟨.other, 1, 8, [.nilFunc]⟩),
  (51, ⟨.other, 1, 8, [.nilFunc]⟩),
  (52, ⟨.other, 1, 8, [.nilFunc]⟩),
  (54, ⟨.other, 1, 8, [.nilFunc]⟩),
  (55, ⟨.other, 1, 8, [.nilFunc]⟩),
  (57, ⟨.other, 1, 8, [.nilFunc]⟩),
  (58, ⟨.other, 1, 8, [.nilFunc]⟩),
  (59, ⟨.other, 1, 8, [.nilFunc]⟩),
  (60, ⟨.other, 1, 8, [.nilFunc]⟩),
  (61, ⟨.other, 1, 8, [.nilFunc]⟩),
  (62, ⟨.other, 1, 8, [.nilFunc]⟩),
  (64, ⟨.other, 1, 8, [.nilFunc]⟩),
  (65, ⟨.other, 1, 8, [.nilFunc]⟩),
  (66, ⟨.other, 1, 8, [.nilFunc]⟩),
  (67, ⟨.other, 1, 8, [.nilFunc]⟩),
  (68, ⟨.other, 1, 8, [.nilFunc]⟩),
  (69, ⟨.array 8 4, 8, 8, [.bool false, .bool false, .bool false, .bool false, .bool false, .bool false, .bool false, .bool false]⟩),
  (71, ⟨.other, 1, 8, [.nilFunc]⟩),
  (72, ⟨.other, 1, 8, [.nilFunc]⟩),
  (73, ⟨.other, 1, 8, [.nilFunc]⟩),
  (75, ⟨.other, 1, 8, [.nilFunc]⟩),
  (76, ⟨.other, 1, 8, [.nilFunc]⟩),
  (77, ⟨.other, 1, 8, [.pointer none]⟩),
  (78, ⟨.other, 1, 8, [.nilFunc]⟩),
  (79, ⟨.other, 1, 8, [.nilFunc]⟩),
  (80, ⟨.other, 1, 8, [.nilFunc]⟩),
  (81, ⟨.other, 1, 8, [.nilFunc]⟩),
  (82, ⟨.other, 1, 8, [.nilFunc]⟩),
  (83, ⟨.other, 1, 8, [.nilFunc]⟩),
  (84, ⟨.other, 1, 8, [.nilFunc]⟩),
  (85, ⟨.float .f64, 1, 8, [.float .f64 0]⟩),
  (86, ⟨.other, 1, 8, [.nilFunc]⟩),
  (87, ⟨.other, 1, 8, [.nilFunc]⟩),
  (88, ⟨.struct [(2, 0), (23, 1), (23, 2)], 3, 16, [.int .i64 0, .int .i16 0, .int .i16 0]⟩),
  (89, ⟨.other, 1, 8, [.nilFunc]⟩),
  (90, ⟨.other, 1, 8, [.nilFunc]⟩),
  (91, ⟨.other, 1, 8, [.nilFunc]⟩),
  (92, ⟨.other, 1, 8, [.nilFunc]⟩),
  (94, ⟨.other, 1, 8, [.nilFunc]⟩),
  (95, ⟨.other, 1, 8, [.pointer none]⟩),
  (96, ⟨.other, 1, 8, [.nilFunc]⟩),
  (98, ⟨.other, 1, 8, [.nilFunc]⟩),
  (100, ⟨.other, 1, 8, [.nilFunc]⟩),
  (101, ⟨.other, 1, 8, [.nilFunc]⟩),
  (102, ⟨.other, 1, 8, [.nilFunc]⟩),
  (103, ⟨.other, 1, 8, [.nilFunc]⟩),
  (104, ⟨.other, 1, 8, [.nilFunc]⟩),
  (105, ⟨.other, 1, 8, [.nilFunc]⟩),
  (106, ⟨.other, 1, 8, [.nilFunc]⟩),
  (107, ⟨.other, 1, 8, [.nilFunc]⟩),
  (108, ⟨.other, 1, 8, [.nilFunc]⟩),
  (109, ⟨.slice 23, 1, 24, [.slice none 0 0]⟩),
  (110, ⟨.other, 1, 8, [.nilFunc]⟩),
  (111, ⟨.other, 1, 8, [.nilFunc]⟩),
  (112, ⟨.other, 1, 8, [.pointer none]⟩),
  (113, ⟨.other, 1, 8, [.nilFunc]⟩),
  (114, ⟨.other, 1, 8, [.nilFunc]⟩),
  (115, ⟨.other, 1, 8, [.nilFunc]⟩),
  (116, ⟨.other, 1, 8, [.nilFunc]⟩),
  (117, ⟨.other, 1, 8, [.nilFunc]⟩),
  (118, ⟨.slice 2, 1, 24, [.slice none 0 0]⟩),
  (119, ⟨.other, 1, 8, [.nilFunc]⟩),
  (120, ⟨.other, 1, 8, [.nilFunc]⟩),
  (121, ⟨.other, 1, 8, [.nilFunc]⟩),
  (122, ⟨.int .u32, 1, 4, [.int .u32 0]⟩),
  (123, ⟨.other, 1, 8, [.nilFunc]⟩),
  (124, ⟨.other, 1, 8, [.nilFunc]⟩),
  (125, ⟨.other, 1, 8, [.nilFunc]⟩),
  (126, ⟨.other, 1, 8, [.nilFunc]⟩),
  (127, ⟨.other, 1, 8, [.nilFunc]⟩),
  (128, ⟨.array 3 2, 3, 24, [.int .i64 0, .int .i64 0, .int .i64 0]⟩),
  (129, ⟨.int .u64, 1, 8, [.int .u64 0]⟩),
  (130, ⟨.other, 1, 8, [.nilFunc]⟩),
  (131, ⟨.other, 1, 8, [.nilFunc]⟩),
  (132, ⟨.slice 3, 1, 24, [.slice none 0 0]⟩),
  (133, ⟨.other, 1, 8, [.nilFunc]⟩),
  (134, ⟨.other, 1, 8, [.nilFunc]⟩),
  (135, ⟨.other, 1, 8, [.nilFunc]⟩),
  (136, ⟨.int .u64, 1, 8, [.int .u64 0]⟩),
  (137, ⟨.struct [(47, 0), (3, 1), (136, 2)], 3, 40, [.slice none 0 0, .int .i64 0, .int .u64 0]⟩),
  (138, ⟨.struct [(47, 0), (3, 1), (136, 2)], 3, 40, [.slice none 0 0, .int .i64 0, .int .u64 0]⟩),
  (139, ⟨.other, 1, 8, [.nilFunc]⟩),
  (140, ⟨.other, 1, 8, [.nilFunc]⟩),
  (141, ⟨.slice 47, 1, 24, [.slice none 0 0]⟩),
  (142, ⟨.other, 1, 8, [.nilFunc]⟩),
  (143, ⟨.other, 1, 8, [.nilFunc]⟩),
  (144, ⟨.other, 1, 8, [.nilFunc]⟩),
  (145, ⟨.int .i64, 1, 8, [.int .i64 0]⟩),
  (147, ⟨.other, 1, 8, [.nilFunc]⟩),
  (148, ⟨.other, 1, 8, [.nilFunc]⟩),
  (149, ⟨.other, 1, 8, [.nilFunc]⟩),
  (150, ⟨.other, 1, 8, [.nilFunc]⟩),
  (151, ⟨.other, 1, 8, [.nilFunc]⟩),
  (152, ⟨.other, 1, 8, [.nilFunc]⟩),
  (153, ⟨.other, 1, 8, [.nilFunc]⟩),
  (154, ⟨.other, 1, 8, [.nilFunc]⟩),
  (155, ⟨.int .u64, 1, 8, [.int .u64 0]⟩),
  (156, ⟨.other, 1, 8, [.nilFunc]⟩),
  (157, ⟨.other, 1, 8, [.nilFunc]⟩),
  (158, ⟨.other, 1, 8, [.nilFunc]⟩),
  (159, ⟨.other, 1, 8, [.pointer none]⟩),
  (160, ⟨.other, 1, 8, [.nilFunc]⟩),
  (161, ⟨.other, 1, 8, [.pointer none]⟩),
  (163, ⟨.other, 1, 8, [.nilFunc]⟩),
  (164, ⟨.other, 1, 8, [.nilFunc]⟩),
  (165, ⟨.struct [(17, 0), (17, 1), (17, 2), (9, 3)], 4, 40, [.pointer none, .pointer none, .pointer none, .string ⟨#[]⟩]⟩),
  (166, ⟨.struct [(17, 0), (17, 1), (17, 2), (9, 3)], 4, 40, [.pointer none, .pointer none, .pointer none, .string ⟨#[]⟩]⟩),
  (167, ⟨.array 0 16, 0, 0, []⟩),
  (170, ⟨.other, 1, 8, [.nilFunc]⟩),
  (171, ⟨.int .u8, 1, 1, [.int .u8 0]⟩),
  (172, ⟨.int .u8, 1, 1, [.int .u8 0]⟩),
  (173, ⟨.other, 1, 8, [.nilFunc]⟩),
  (174, ⟨.other, 1, 8, [.pointer none]⟩),
  (175, ⟨.int .i32, 1, 4, [.int .i32 0]⟩),
  (176, ⟨.int .i32, 1, 4, [.int .i32 0]⟩),
  (177, ⟨.struct [(12, 0), (12, 1), (122, 2), (171, 3), (5, 4), (5, 5), (172, 6), (173, 7), (174, 8), (175, 9), (176, 10)], 11, 48, [.int .u64 0, .int .u64 0, .int .u32 0, .int .u8 0, .int .u8 0, .int .u8 0, .int .u8 0, .nilFunc, .pointer none, .int .i32 0, .int .i32 0]⟩),
  (178, ⟨.struct [(12, 0), (12, 1), (122, 2), (171, 3), (5, 4), (5, 5), (172, 6), (173, 7), (174, 8), (175, 9), (176, 10)], 11, 48, [.int .u64 0, .int .u64 0, .int .u32 0, .int .u8 0, .int .u8 0, .int .u8 0, .int .u8 0, .nilFunc, .pointer none, .int .i32 0, .int .i32 0]⟩)]
theorem layT_ok : ∀ p ∈ layT, layOf Go.Proofs.Try.prog p.1 = some p.2 := by
  unfold layT
  refine List.forall_mem_cons.2 ⟨by kernel_rfl, ?_⟩
  refine List.forall_mem_cons.2 ⟨by kernel_rfl, ?_⟩
  refine List.forall_mem_cons.2 ⟨by kernel_rfl, ?_⟩
  refine List.forall_mem_cons.2 ⟨by kernel_rfl, ?_⟩
  refine List.forall_mem_cons.2 ⟨by kernel_rfl, ?_⟩
  refine List.forall_mem_cons.2 ⟨by kernel_rfl, ?_⟩
  refine List.forall_mem_cons.2 ⟨by kernel_rfl, ?_⟩
  refine List.forall_mem_cons.2 ⟨by kernel_rfl, ?_⟩
  refine List.forall_mem_cons.2 ⟨by kernel_rfl, ?_⟩
  refine List.forall_mem_cons.2 ⟨by kernel_rfl, ?_⟩
  refine List.forall_mem_cons.2 ⟨by kernel_rfl, ?_⟩
  refine List.forall_mem_cons.2 ⟨by kernel_rfl, ?_⟩
  refine List.forall_mem_cons.2 ⟨by kernel_rfl, ?_⟩
  refine List.forall_mem_cons.2 ⟨by kernel_rfl, ?_⟩
  refine List.forall_mem_cons.2 ⟨by kernel_rfl, ?_⟩
  refine List.forall_mem_cons.2 ⟨by kernel_rfl, ?_⟩
  refine List.forall_mem_cons.2 ⟨by kernel_rfl, ?_⟩
  refine List.forall_mem_cons.2 ⟨by kernel_rfl, ?_⟩
  refine List.forall_mem_cons.2 ⟨by kernel_rfl, ?_⟩
  refine List.forall_mem_cons.2 ⟨by kernel_rfl, ?_⟩
  refine List.forall_mem_cons.2 ⟨by kernel_rfl, ?_⟩
  refine List.forall_mem_cons.2 ⟨by kernel_rfl, ?_⟩
  refine List.forall_mem_cons.2 ⟨by kernel_rfl, ?_⟩
  refine List.forall_mem_cons.2 ⟨by kernel_rfl, ?_⟩
  refine List.forall_mem_cons.2 ⟨by kernel_rfl, ?_⟩
  refine List.forall_mem_cons.2 ⟨by kernel_rfl, ?_⟩
  refine List.forall_mem_cons.2 ⟨by kernel_rfl, ?_⟩
  refine List.forall_mem_cons.2 ⟨by kernel_rfl, ?_⟩
  refine List.forall_mem_cons.2 ⟨by kernel_rfl, ?_⟩
  refine List.forall_mem_cons.2 ⟨by kernel_rfl, ?_⟩
  refine List.forall_mem_cons.2 ⟨by kernel_rfl, ?_⟩
  refine List.forall_mem_cons.2 ⟨by kernel_rfl, ?_⟩
  refine List.forall_mem_cons.2 ⟨by kernel_rfl, ?_⟩
  refine List.forall_mem_cons.2 ⟨by kernel_rfl, ?_⟩
  refine List.forall_mem_cons.2 ⟨by kernel_rfl, ?_⟩
  refine List.forall_mem_cons.2 ⟨by kernel_rfl, ?_⟩
  refine List.forall_mem_cons.2 ⟨by kernel_rfl, ?_⟩
  refine List.forall_mem_cons.2 ⟨by kernel_rfl, ?_⟩
  refine List.forall_mem_cons.2 ⟨by kernel_rfl, ?_⟩
  refine List.forall_mem_cons.2 ⟨by kernel_rfl, ?_⟩
  refine List.forall_mem_cons.2 ⟨by kernel_rfl, ?_⟩
  refine List.forall_mem_cons.2 ⟨by kernel_rfl, ?_⟩
  refine List.forall_mem_cons.2 ⟨by kernel_rfl, ?_⟩
  refine List.forall_mem_cons.2 ⟨by kernel_rfl, ?_⟩
  refine List.forall_mem_cons.2 ⟨by kernel_rfl, ?_⟩
  refine List.forall_mem_cons.2 ⟨by kernel_rfl, ?_⟩
  refine List.forall_mem_cons.2 ⟨by kernel_rfl, ?_⟩
  refine List.forall_mem_cons.2 ⟨by kernel_rfl, ?_⟩
  refine List.forall_mem_cons.2 ⟨by kernel_rfl, ?_⟩
  refine List.forall_mem_cons.2 ⟨by kernel_rfl, ?_⟩
  refine List.forall_mem_cons.2 ⟨by kernel_rfl, ?_⟩
  refine List.forall_mem_cons.2 ⟨by kernel_rfl, ?_⟩
  refine List.forall_mem_cons.2 ⟨by kernel_rfl, ?_⟩
  refine List.forall_mem_cons.2 ⟨by kernel_rfl, ?_⟩
  refine List.forall_mem_cons.2 ⟨by kernel_rfl, ?_⟩
  refine List.forall_mem_cons.2 ⟨by kernel_rfl, ?_⟩
  refine List.forall_mem_cons.2 ⟨by kernel_rfl, ?_⟩
  refine List.forall_mem_cons.2 ⟨by kernel_rfl, ?_⟩
  refine List.forall_mem_cons.2 ⟨by kernel_rfl, ?_⟩
  refine List.forall_mem_cons.2 ⟨by kernel_rfl, ?_⟩
  refine List.forall_mem_cons.2 ⟨by kernel_rfl, ?_⟩
  refine List.forall_mem_cons.2 ⟨by kernel_rfl, ?_⟩
  refine List.forall_mem_cons.2 ⟨by kernel_rfl, ?_⟩
  refine List.forall_mem_cons.2 ⟨by kernel_rfl, ?_⟩
  refine List.forall_mem_cons.2 ⟨by kernel_rfl, ?_⟩
  refine List.forall_mem_cons.2 ⟨by kernel_rfl, ?_⟩
  refine List.forall_mem_cons.2 ⟨by kernel_rfl, ?_⟩
  refine List.forall_mem_cons.2 ⟨by kernel_rfl, ?_⟩
  refine List.forall_mem_cons.2 ⟨by kernel_rfl, ?_⟩
  refine List.forall_mem_cons.2 ⟨by kernel_rfl, ?_⟩
  refine List.forall_mem_cons.2 ⟨by kernel_rfl, ?_⟩
  refine List.forall_mem_cons.2 ⟨by kernel_rfl, ?_⟩
  refine List.forall_mem_cons.2 ⟨by kernel_rfl, ?_⟩
  refine List.forall_mem_cons.2 ⟨by kernel_rfl, ?_⟩
  refine List.forall_mem_cons.2 ⟨by kernel_rfl, ?_⟩
  refine List.forall_mem_cons.2 ⟨by kernel_rfl, ?_⟩
  refine List.forall_mem_cons.2 ⟨by kernel_rfl, ?_⟩
  refine List.forall_mem_cons.2 ⟨by kernel_rfl, ?_⟩
  refine List.forall_mem_cons.2 ⟨by kernel_rfl, ?_⟩
  refine List.forall_mem_cons.2 ⟨by kernel_rfl, ?_⟩
  refine List.forall_mem_cons.2 ⟨by kernel_rfl, ?_⟩
  refine List.forall_mem_cons.2 ⟨by kernel_rfl, ?_⟩
  refine List.forall_mem_cons.2 ⟨by kernel_rfl, ?_⟩
  refine List.forall_mem_cons.2 ⟨by kernel_rfl, ?_⟩
  refine List.forall_mem_cons.2 ⟨by kernel_rfl, ?_⟩
  refine List.forall_mem_cons.2 ⟨by kernel_rfl, ?_⟩
  refine List.forall_mem_cons.2 ⟨by kernel_rfl, ?_⟩
  refine List.forall_mem_cons.2 ⟨by kernel_rfl, ?_⟩
  refine List.forall_mem_cons.2 ⟨by kernel_rfl, ?_⟩
  refine List.forall_mem_cons.2 ⟨by kernel_rfl, ?_⟩
  refine List.forall_mem_cons.2 ⟨by kernel_rfl, ?_⟩
  refine List.forall_mem_cons.2 ⟨by kernel_rfl, ?_⟩
  refine List.forall_mem_cons.2 ⟨by kernel_rfl, ?_⟩
  refine List.forall_mem_cons.2 ⟨by kernel_rfl, ?_⟩
  refine List.forall_mem_cons.2 ⟨by kernel_rfl, ?_⟩
  refine List.forall_mem_cons.2 ⟨by kernel_rfl, ?_⟩
  refine List.forall_mem_cons.2 ⟨by kernel_rfl, ?_⟩
  refine List.forall_mem_cons.2 ⟨by kernel_rfl, ?_⟩
  refine List.forall_mem_cons.2 ⟨by kernel_rfl, ?_⟩
  refine List.forall_mem_cons.2 ⟨by kernel_rfl, ?_⟩
  refine List.forall_mem_cons.2 ⟨by kernel_rfl, ?_⟩
  refine List.forall_mem_cons.2 ⟨by kernel_rfl, ?_⟩
  refine List.forall_mem_cons.2 ⟨by kernel_rfl, ?_⟩
  refine List.forall_mem_cons.2 ⟨by kernel_rfl, ?_⟩
  refine List.forall_mem_cons.2 ⟨by kernel_rfl, ?_⟩
  refine List.forall_mem_cons.2 ⟨by kernel_rfl, ?_⟩
  refine List.forall_mem_cons.2 ⟨by kernel_rfl, ?_⟩
  refine List.forall_mem_cons.2 ⟨by kernel_rfl, ?_⟩
  refine List.forall_mem_cons.2 ⟨by kernel_rfl, ?_⟩
  refine List.forall_mem_cons.2 ⟨by kernel_rfl, ?_⟩
  refine List.forall_mem_cons.2 ⟨by kernel_rfl, ?_⟩
  refine List.forall_mem_cons.2 ⟨by kernel_rfl, ?_⟩
  refine List.forall_mem_cons.2 ⟨by kernel_rfl, ?_⟩
  refine List.forall_mem_cons.2 ⟨by kernel_rfl, ?_⟩
  refine List.forall_mem_cons.2 ⟨by kernel_rfl, ?_⟩
  refine List.forall_mem_cons.2 ⟨by kernel_rfl, ?_⟩
  refine List.forall_mem_cons.2 ⟨by kernel_rfl, ?_⟩
  refine List.forall_mem_cons.2 ⟨by kernel_rfl, ?_⟩
  refine List.forall_mem_cons.2 ⟨by kernel_rfl, ?_⟩
  refine List.forall_mem_cons.2 ⟨by kernel_rfl, ?_⟩
  refine List.forall_mem_cons.2 ⟨by kernel_rfl, ?_⟩
  refine List.forall_mem_cons.2 ⟨by kernel_rfl, ?_⟩
  refine List.forall_mem_cons.2 ⟨by kernel_rfl, ?_⟩
  refine List.forall_mem_cons.2 ⟨by kernel_rfl, ?_⟩
  refine List.forall_mem_cons.2 ⟨by kernel_rfl, ?_⟩
  refine List.forall_mem_cons.2 ⟨by kernel_rfl, ?_⟩
  refine List.forall_mem_cons.2 ⟨by kernel_rfl, ?_⟩
  refine List.forall_mem_cons.2 ⟨by kernel_rfl, ?_⟩
  refine List.forall_mem_cons.2 ⟨by kernel_rfl, ?_⟩
  refine List.forall_mem_cons.2 ⟨by kernel_rfl, ?_⟩
  refine List.forall_mem_cons.2 ⟨by kernel_rfl, ?_⟩
  refine List.forall_mem_cons.2 ⟨by kernel_rfl, ?_⟩
  refine List.forall_mem_cons.2 ⟨by kernel_rfl, ?_⟩
  refine List.forall_mem_cons.2 ⟨by kernel_rfl, ?_⟩
  refine List.forall_mem_cons.2 ⟨by kernel_rfl, ?_⟩
  refine List.forall_mem_cons.2 ⟨by kernel_rfl, ?_⟩
  refine List.forall_mem_cons.2 ⟨by kernel_rfl, ?_⟩
  refine List.forall_mem_cons.2 ⟨by kernel_rfl, ?_⟩
  refine List.forall_mem_cons.2 ⟨by kernel_rfl, ?_⟩
  refine List.forall_mem_cons.2 ⟨by kernel_rfl, ?_⟩
  refine List.forall_mem_cons.2 ⟨by kernel_rfl, ?_⟩
  refine List.forall_mem_cons.2 ⟨by kernel_rfl, ?_⟩
  refine List.forall_mem_cons.2 ⟨by kernel_rfl, ?_⟩
  refine List.forall_mem_cons.2 ⟨by kernel_rfl, ?_⟩
  refine List.forall_mem_cons.2 ⟨by kernel_rfl, ?_⟩
  refine List.forall_mem_cons.2 ⟨by kernel_rfl, ?_⟩
  refine List.forall_mem_cons.2 ⟨by kernel_rfl, ?_⟩
  refine List.forall_mem_cons.2 ⟨by kernel_rfl, ?_⟩
  refine List.forall_mem_cons.2 ⟨by kernel_rfl, ?_⟩
  refine List.forall_mem_cons.2 ⟨by kernel_rfl, ?_⟩
  refine List.forall_mem_cons.2 ⟨by kernel_rfl, ?_⟩
  refine List.forall_mem_cons.2 ⟨by kernel_rfl, ?_⟩
  refine List.forall_mem_cons.2 ⟨by kernel_rfl, ?_⟩
  refine List.forall_mem_cons.2 ⟨by kernel_rfl, ?_⟩
  refine List.forall_mem_cons.2 ⟨by kernel_rfl, ?_⟩
  refine List.forall_mem_cons.2 ⟨by kernel_rfl, ?_⟩
  refine List.forall_mem_cons.2 ⟨by kernel_rfl, ?_⟩
  refine List.forall_mem_cons.2 ⟨by kernel_rfl, ?_⟩
  refine List.forall_mem_cons.2 ⟨by kernel_rfl, ?_⟩
  refine List.forall_mem_cons.2 ⟨by kernel_rfl, ?_⟩
  refine List.forall_mem_cons.2 ⟨by kernel_rfl, ?_⟩
  refine List.forall_mem_cons.2 ⟨by kernel_rfl, ?_⟩
  exact fun p hp => absurd hp List.not_mem_nil
theorem mem_of_lookup {t : TypeId} {L : Lay} : ∀ {l : List (TypeId × Lay)}, l.lookup t = some L → (t, L) ∈ l
  | [], h => by simp at h
  | (a, b) :: l, h => by
    simp only [List.lookup] at h
    split at h
    · rename_i he
      simp only [beq_iff_eq, Option.some.injEq] at he h
      subst he h
      exact List.mem_cons_self
    · exact List.mem_cons_of_mem _ (mem_of_lookup h)
noncomputable def X : Cx := ⟨Go.Proofs.Try.prog, fun t => layT.lookup t, fun t L h => layOf_ok (layT_ok (t, L) (mem_of_lookup h)), [], by kernel_rfl⟩
theorem lay1 : X.lay 1 = some ⟨.other, 1, 8, [.nilFunc]⟩ := by kernel_rfl
theorem lay2 : X.lay 2 = some ⟨.int .i64, 1, 8, [.int .i64 0]⟩ := by kernel_rfl
theorem lay3 : X.lay 3 = some ⟨.int .i64, 1, 8, [.int .i64 0]⟩ := by kernel_rfl
theorem lay4 : X.lay 4 = some ⟨.bool, 1, 1, [.bool false]⟩ := by kernel_rfl
theorem lay5 : X.lay 5 = some ⟨.int .u8, 1, 1, [.int .u8 0]⟩ := by kernel_rfl
theorem lay6 : X.lay 6 = some ⟨.int .u8, 1, 1, [.int .u8 0]⟩ := by kernel_rfl
theorem lay7 : X.lay 7 = some ⟨.struct [(2, 0), (3, 1), (4, 2), (6, 3)], 4, 24, [.int .i64 0, .int .i64 0, .bool false, .int .u8 0]⟩ := by kernel_rfl
theorem lay8 : X.lay 8 = some ⟨.struct [(2, 0), (3, 1), (4, 2), (6, 3)], 4, 24, [.int .i64 0, .int .i64 0, .bool false, .int .u8 0]⟩ := by kernel_rfl
theorem lay9 : X.lay 9 = some ⟨.string, 1, 16, [.string ⟨#[]⟩]⟩ := by kernel_rfl
theorem lay10 : X.lay 10 = some ⟨.string, 1, 16, [.string ⟨#[]⟩]⟩ := by kernel_rfl
theorem lay11 : X.lay 11 = some ⟨.string, 1, 16, [.string ⟨#[]⟩]⟩ := by kernel_rfl
theorem lay12 : X.lay 12 = some ⟨.int .u64, 1, 8, [.int .u64 0]⟩ := by kernel_rfl
theorem lay13 : X.lay 13 = some ⟨.struct [(9, 0), (12, 1)], 2, 24, [.string ⟨#[]⟩, .int .u64 0]⟩ := by kernel_rfl
theorem lay14 : X.lay 14 = some ⟨.struct [(9, 0), (12, 1)], 2, 24, [.string ⟨#[]⟩, .int .u64 0]⟩ := by kernel_rfl
theorem lay15 : X.lay 15 = some ⟨.other, 1, 8, [.pointer none]⟩ := by kernel_rfl
theorem lay16 : X.lay 16 = some ⟨.other, 1, 8, [.pointer none]⟩ := by kernel_rfl
theorem lay17 : X.lay 17 = some ⟨.other, 1, 8, [.pointer none]⟩ := by kernel_rfl
theorem lay18 : X.lay 18 = some ⟨.struct [(17, 0)], 1, 8, [.pointer none]⟩ := by kernel_rfl
theorem lay19 : X.lay 19 = some ⟨.struct [(17, 0)], 1, 8, [.pointer none]⟩ := by kernel_rfl
theorem lay21 : X.lay 21 = some ⟨.int .i32, 1, 4, [.int .i32 0]⟩ := by kernel_rfl
theorem lay22 : X.lay 22 = some ⟨.float .f32, 1, 4, [.float .f32 0]⟩ := by kernel_rfl
theorem lay23 : X.lay 23 = some ⟨.int .i16, 1, 2, [.int .i16 0]⟩ := by kernel_rfl
theorem lay24 : X.lay 24 = some ⟨.struct [(2, 0), (22, 1), (23, 2), (22, 3), (2, 4)], 5, 32, [.int .i64 0, .float .f32 0, .int .i16 0, .float .f32 0, .int .i64 0]⟩ := by kernel_rfl
theorem lay25 : X.lay 25 = some ⟨.struct [(2, 0), (22, 1), (23, 2), (22, 3), (2, 4)], 5, 32, [.int .i64 0, .float .f32 0, .int .i16 0, .float .f32 0, .int .i64 0]⟩ := by kernel_rfl
theorem lay26 : X.lay 26 = some ⟨.struct [(2, 0), (23, 1), (23, 2)], 3, 16, [.int .i64 0, .int .i16 0, .int .i16 0]⟩ := by kernel_rfl
theorem lay27 : X.lay 27 = some ⟨.struct [(2, 0), (23, 1), (23, 2)], 3, 16, [.int .i64 0, .int .i16 0, .int .i16 0]⟩ := by kernel_rfl
theorem lay28 : X.lay 28 = some ⟨.struct [(2, 0), (22, 1), (23, 2), (22, 3), (2, 4)], 5, 32, [.int .i64 0, .float .f32 0, .int .i16 0, .float .f32 0, .int .i64 0]⟩ := by kernel_rfl
theorem lay30 : X.lay 30 = some ⟨.other, 1, 8, [.nilFunc]⟩ := by kernel_rfl
theorem lay31 : X.lay 31 = some ⟨.other, 1, 8, [.nilFunc]⟩ := by kernel_rfl
theorem lay32 : X.lay 32 = some ⟨.other, 1, 8, [.nilFunc]⟩ := by kernel_rfl
theorem lay33 : X.lay 33 = some ⟨.other, 1, 8, [.nilFunc]⟩ := by kernel_rfl
theorem lay34 : X.lay 34 = some ⟨.other, 1, 8, [.nilFunc]⟩ := by kernel_rfl
theorem lay35 : X.lay 35 = some ⟨.slice 88, 1, 24, [.slice none 0 0]⟩ := by kernel_rfl
theorem lay36 : X.lay 36 = some ⟨.other, 1, 8, [.nilFunc]⟩ := by kernel_rfl
theorem lay37 : X.lay 37 = some ⟨.slice 22, 1, 24, [.slice none 0 0]⟩ := by kernel_rfl
theorem lay39 : X.lay 39 = some ⟨.other, 1, 8, [.nilFunc]⟩ := by kernel_rfl
theorem lay40 : X.lay 40 = some ⟨.slice 27, 1, 24, [.slice none 0 0]⟩ := by kernel_rfl
theorem lay41 : X.lay 41 = some ⟨.other, 1, 8, [.nilFunc]⟩ := by kernel_rfl
theorem lay42 : X.lay 42 = some ⟨.other, 1, 8, [.nilFunc]⟩ := by kernel_rfl
theorem lay43 : X.lay 43 = some ⟨.other, 1, 8, [.nilFunc]⟩ := by kernel_rfl
theorem lay44 : X.lay 44 = some ⟨.other, 1, 8, [.nilFunc]⟩ := by kernel_rfl
theorem lay45 : X.lay 45 = some ⟨.other, 1, 8, [.nilFunc]⟩ := by kernel_rfl
theorem lay46 : X.lay 46 = some ⟨.other, 1, 8, [.nilFunc]⟩ := by kernel_rfl
theorem lay47 : X.lay 47 = some ⟨.slice 5, 1, 24, [.slice none 0 0]⟩ := by kernel_rfl
theorem lay49 : X.lay 49 = some ⟨.other, 1, 8, [.nilFunc]⟩ := by kernel_rfl
theorem lay50 : X.lay 50 = some ⟨.other, 1, 8, [.nilFunc]⟩ := by kernel_rfl
theorem lay51 : X.lay 51 = some ⟨.other, 1, 8, [.nilFunc]⟩ := by kernel_rfl
theorem lay52 : X.lay 52 = some ⟨.other, 1, 8, [.nilFunc]⟩ := by kernel_rfl
theorem lay54 : X.lay 54 = some ⟨.other, 1, 8, [.nilFunc]⟩ := by kernel_rfl
theorem lay55 : X.lay 55 = some ⟨.other, 1, 8, [.nilFunc]⟩ := by kernel_rfl
theorem lay57 : X.lay 57 = some ⟨.other, 1, 8, [.nilFunc]⟩ := by kernel_rfl
theorem lay58 : X.lay 58 = some ⟨.other, 1, 8, [.nilFunc]⟩ := by kernel_rfl
theorem lay59 : X.lay 59 = some ⟨.other, 1, 8, [.nilFunc]⟩ := by kernel_rfl
theorem lay60 : X.lay 60 = some ⟨.other, 1, 8, [.nilFunc]⟩ := by kernel_rfl
theorem lay61 : X.lay 61 = some ⟨.other, 1, 8, [.nilFunc]⟩ := by kernel_rfl
theorem lay62 : X.lay 62 = some ⟨.other, 1, 8, [.nilFunc]⟩ := by kernel_rfl
theorem lay64 : X.lay 64 = some ⟨.other, 1, 8, [.nilFunc]⟩ := by kernel_rfl
theorem lay65 : X.lay 65 = some ⟨.other, 1, 8, [.nilFunc]⟩ := by kernel_rfl
theorem lay66 : X.lay 66 = some ⟨.other, 1, 8, [.nilFunc]⟩ := by kernel_rfl
theorem lay67 : X.lay 67 = some ⟨.other, 1, 8, [.nilFunc]⟩ := by kernel_rfl
theorem lay68 : X.lay 68 = some ⟨.other, 1, 8, [.nilFunc]⟩ := by kernel_rfl
theorem lay69 : X.lay 69 = some ⟨.array 8 4, 8, 8, [.bool false, .bool false, .bool false, .bool false, .bool false, .bool false, .bool false, .bool false]⟩ := by kernel_rfl
theorem lay71 : X.lay 71 = some ⟨.other, 1, 8, [.nilFunc]⟩ := by kernel_rfl
theorem lay72 : X.lay 72 = some ⟨.other, 1, 8, [.nilFunc]⟩ := by kernel_rfl
theorem lay73 : X.lay 73 = some ⟨.other, 1, 8, [.nilFunc]⟩ := by kernel_rfl
theorem lay75 : X.lay 75 = some ⟨.other, 1, 8, [.nilFunc]⟩ := by kernel_rfl
theorem lay76 : X.lay 76 = some ⟨.other, 1, 8, [.nilFunc]⟩ := by kernel_rfl
theorem lay77 : X.lay 77 = some ⟨.other, 1, 8, [.pointer none]⟩ := by kernel_rfl
theorem lay78 : X.lay 78 = some ⟨.other, 1, 8, [.nilFunc]⟩ := by kernel_rfl
theorem lay79 : X.lay 79 = some ⟨.other, 1, 8, [.nilFunc]⟩ := by kernel_rfl
theorem lay80 : X.lay 80 = some ⟨.other, 1, 8, [.nilFunc]⟩ := by kernel_rfl
theorem lay81 : X.lay 81 = some ⟨.other, 1, 8, [.nilFunc]⟩ := by kernel_rfl
theorem lay82 : X.lay 82 = some ⟨.other, 1, 8, [.nilFunc]⟩ := by kernel_rfl
theorem lay83 : X.lay 83 = some ⟨.other, 1, 8, [.nilFunc]⟩ := by kernel_rfl
theorem lay84 : X.lay 84 = some ⟨.other, 1, 8, [.nilFunc]⟩ := by kernel_rfl
theorem lay85 : X.lay 85 = some ⟨.float .f64, 1, 8, [.float .f64 0]⟩ := by kernel_rfl
theorem lay86 : X.lay 86 = some ⟨.other, 1, 8, [.nilFunc]⟩ := by kernel_rfl
theorem lay87 : X.lay 87 = some ⟨.other, 1, 8, [.nilFunc]⟩ := by kernel_rfl
theorem lay88 : X.lay 88 = some ⟨.struct [(2, 0), (23, 1), (23, 2)], 3, 16, [.int .i64 0, .int .i16 0, .int .i16 0]⟩ := by kernel_rfl
theorem lay89 : X.lay 89 = some ⟨.other, 1, 8, [.nilFunc]⟩ := by kernel_rfl
theorem lay90 : X.lay 90 = some ⟨.other, 1, 8, [.nilFunc]⟩ := by kernel_rfl
theorem lay91 : X.lay 91 = some ⟨.other, 1, 8, [.nilFunc]⟩ := by kernel_rfl
theorem lay92 : X.lay 92 = some ⟨.other, 1, 8, [.nilFunc]⟩ := by kernel_rfl
theorem lay94 : X.lay 94 = some ⟨.other, 1, 8, [.nilFunc]⟩ := by kernel_rfl
theorem lay95 : X.lay 95 = some ⟨.other, 1, 8, [.pointer none]⟩ := by kernel_rfl
theorem lay96 : X.lay 96 = some ⟨.other, 1, 8, [.nilFunc]⟩ := by kernel_rfl
theorem lay98 : X.lay 98 = some ⟨.other, 1, 8, [.nilFunc]⟩ := by kernel_rfl
theorem lay100 : X.lay 100 = some ⟨.other, 1, 8, [.nilFunc]⟩ := by kernel_rfl
theorem lay101 : X.lay 101 = some ⟨.other, 1, 8, [.nilFunc]⟩ := by kernel_rfl
theorem lay102 : X.lay 102 = some ⟨.other, 1, 8, [.nilFunc]⟩ := by kernel_rfl
theorem lay103 : X.lay 103 = some ⟨.other, 1, 8, [.nilFunc]⟩ := by kernel_rfl
theorem lay104 : X.lay 104 = some ⟨.other, 1, 8, [.nilFunc]⟩ := by kernel_rfl
theorem lay105 : X.lay 105 = some ⟨.other, 1, 8, [.nilFunc]⟩ := by kernel_rfl
theorem lay106 : X.lay 106 = some ⟨.other, 1, 8, [.nilFunc]⟩ := by kernel_rfl
theorem lay107 : X.lay 107 = some ⟨.other, 1, 8, [.nilFunc]⟩ := by kernel_rfl
theorem lay108 : X.lay 108 = some ⟨.other, 1, 8, [.nilFunc]⟩ := by kernel_rfl
theorem lay109 : X.lay 109 = some ⟨.slice 23, 1, 24, [.slice none 0 0]⟩ := by kernel_rfl
theorem lay110 : X.lay 110 = some ⟨.other, 1, 8, [.nilFunc]⟩ := by kernel_rfl
theorem lay111 : X.lay 111 = some ⟨.other, 1, 8, [.nilFunc]⟩ := by kernel_rfl
theorem lay112 : X.lay 112 = some ⟨.other, 1, 8, [.pointer none]⟩ := by kernel_rfl
theorem lay113 : X.lay 113 = some ⟨.other, 1, 8, [.nilFunc]⟩ := by kernel_rfl
theorem lay114 : X.lay 114 = some ⟨.other, 1, 8, [.nilFunc]⟩ := by kernel_rfl
theorem lay115 : X.lay 115 = some ⟨.other, 1, 8, [.nilFunc]⟩ := by kernel_rfl
theorem lay116 : X.lay 116 = some ⟨.other, 1, 8, [.nilFunc]⟩ := by kernel_rfl
theorem lay117 : X.lay 117 = some ⟨.other, 1, 8, [.nilFunc]⟩ := by kernel_rfl
theorem lay118 : X.lay 118 = some ⟨.slice 2, 1, 24, [.slice none 0 0]⟩ := by kernel_rfl
theorem lay119 : X.lay 119 = some ⟨.other, 1, 8, [.nilFunc]⟩ := by kernel_rfl
theorem lay120 : X.lay 120 = some ⟨.other, 1, 8, [.nilFunc]⟩ := by kernel_rfl
theorem lay121 : X.lay 121 = some ⟨.other, 1, 8, [.nilFunc]⟩ := by kernel_rfl
theorem lay122 : X.lay 122 = some ⟨.int .u32, 1, 4, [.int .u32 0]⟩ := by kernel_rfl
theorem lay123 : X.lay 123 = some ⟨.other, 1, 8, [.nilFunc]⟩ := by kernel_rfl
theorem lay124 : X.lay 124 = some ⟨.other, 1, 8, [.nilFunc]⟩ := by kernel_rfl
theorem lay125 : X.lay 125 = some ⟨.other, 1, 8, [.nilFunc]⟩ := by kernel_rfl
theorem lay126 : X.lay 126 = some ⟨.other, 1, 8, [.nilFunc]⟩ := by kernel_rfl
theorem lay127 : X.lay 127 = some ⟨.other, 1, 8, [.nilFunc]⟩ := by kernel_rfl
theorem lay128 : X.lay 128 = some ⟨.array 3 2, 3, 24, [.int .i64 0, .int .i64 0, .int .i64 0]⟩ := by kernel_rfl
theorem lay129 : X.lay 129 = some ⟨.int .u64, 1, 8, [.int .u64 0]⟩ := by kernel_rfl
theorem lay130 : X.lay 130 = some ⟨.other, 1, 8, [.nilFunc]⟩ := by kernel_rfl
theorem lay131 : X.lay 131 = some ⟨.other, 1, 8, [.nilFunc]⟩ := by kernel_rfl
theorem lay132 : X.lay 132 = some ⟨.slice 3, 1, 24, [.slice none 0 0]⟩ := by kernel_rfl
theorem lay133 : X.lay 133 = some ⟨.other, 1, 8, [.nilFunc]⟩ := by kernel_rfl
theorem lay134 : X.lay 134 = some ⟨.other, 1, 8, [.nilFunc]⟩ := by kernel_rfl
theorem lay135 : X.lay 135 = some ⟨.other, 1, 8, [.nilFunc]⟩ := by kernel_rfl
theorem lay136 : X.lay 136 = some ⟨.int .u64, 1, 8, [.int .u64 0]⟩ := by kernel_rfl
theorem lay137 : X.lay 137 = some ⟨.struct [(47, 0), (3, 1), (136, 2)], 3, 40, [.slice none 0 0, .int .i64 0, .int .u64 0]⟩ := by kernel_rfl
theorem lay138 : X.lay 138 = some ⟨.struct [(47, 0), (3, 1), (136, 2)], 3, 40, [.slice none 0 0, .int .i64 0, .int .u64 0]⟩ := by kernel_rfl
theorem lay139 : X.lay 139 = some ⟨.other, 1, 8, [.nilFunc]⟩ := by kernel_rfl
theorem lay140 : X.lay 140 = some ⟨.other, 1, 8, [.nilFunc]⟩ := by kernel_rfl
theorem lay141 : X.lay 141 = some ⟨.slice 47, 1, 24, [.slice none 0 0]⟩ := by kernel_rfl
theorem lay142 : X.lay 142 = some ⟨.other, 1, 8, [.nilFunc]⟩ := by kernel_rfl
theorem lay143 : X.lay 143 = some ⟨.other, 1, 8, [.nilFunc]⟩ := by kernel_rfl
theorem lay144 : X.lay 144 = some ⟨.other, 1, 8, [.nilFunc]⟩ := by kernel_rfl
theorem lay145 : X.lay 145 = some ⟨.int .i64, 1, 8, [.int .i64 0]⟩ := by kernel_rfl
theorem lay147 : X.lay 147 = some ⟨.other, 1, 8, [.nilFunc]⟩ := by kernel_rfl
theorem lay148 : X.lay 148 = some ⟨.other, 1, 8, [.nilFunc]⟩ := by kernel_rfl
theorem lay149 : X.lay 149 = some ⟨.other, 1, 8, [.nilFunc]⟩ := by kernel_rfl
theorem lay150 : X.lay 150 = some ⟨.other, 1, 8, [.nilFunc]⟩ := by kernel_rfl
theorem lay151 : X.lay 151 = some ⟨.other, 1, 8, [.nilFunc]⟩ := by kernel_rfl
theorem lay152 : X.lay 152 = some ⟨.other, 1, 8, [.nilFunc]⟩ := by kernel_rfl
theorem lay153 : X.lay 153 = some ⟨.other, 1, 8, [.nilFunc]⟩ := by kernel_rfl
theorem lay154 : X.lay 154 = some ⟨.other, 1, 8, [.nilFunc]⟩ := by kernel_rfl
theorem lay155 : X.lay 155 = some ⟨.int .u64, 1, 8, [.int .u64 0]⟩ := by kernel_rfl
theorem lay156 : X.lay 156 = some ⟨.other, 1, 8, [.nilFunc]⟩ := by kernel_rfl
theorem lay157 : X.lay 157 = some ⟨.other, 1, 8, [.nilFunc]⟩ := by kernel_rfl
theorem lay158 : X.lay 158 = some ⟨.other, 1, 8, [.nilFunc]⟩ := by kernel_rfl
theorem lay159 : X.lay 159 = some ⟨.other, 1, 8, [.pointer none]⟩ := by kernel_rfl
theorem lay160 : X.lay 160 = some ⟨.other, 1, 8, [.nilFunc]⟩ := by kernel_rfl
theorem lay161 : X.lay 161 = some ⟨.other, 1, 8, [.pointer none]⟩ := by kernel_rfl
theorem lay163 : X.lay 163 = some ⟨.other, 1, 8, [.nilFunc]⟩ := by kernel_rfl
theorem lay164 : X.lay 164 = some ⟨.other, 1, 8, [.nilFunc]⟩ := by kernel_rfl
theorem lay165 : X.lay 165 = some ⟨.struct [(17, 0), (17, 1), (17, 2), (9, 3)], 4, 40, [.pointer none, .pointer none, .pointer none, .string ⟨#[]⟩]⟩ := by kernel_rfl
theorem lay166 : X.lay 166 = some ⟨.struct [(17, 0), (17, 1), (17, 2), (9, 3)], 4, 40, [.pointer none, .pointer none, .pointer none, .string ⟨#[]⟩]⟩ := by kernel_rfl
theorem lay167 : X.lay 167 = some ⟨.array 0 16, 0, 0, []⟩ := by kernel_rfl
theorem lay170 : X.lay 170 = some ⟨.other, 1, 8, [.nilFunc]⟩ := by kernel_rfl
theorem lay171 : X.lay 171 = some ⟨.int .u8, 1, 1, [.int .u8 0]⟩ := by kernel_rfl
theorem lay172 : X.lay 172 = some ⟨.int .u8, 1, 1, [.int .u8 0]⟩ := by kernel_rfl
theorem lay173 : X.lay 173 = some ⟨.other, 1, 8, [.nilFunc]⟩ := by kernel_rfl
theorem lay174 : X.lay 174 = some ⟨.other, 1, 8, [.pointer none]⟩ := by kernel_rfl
theorem lay175 : X.lay 175 = some ⟨.int .i32, 1, 4, [.int .i32 0]⟩ := by kernel_rfl
theorem lay176 : X.lay 176 = some ⟨.int .i32, 1, 4, [.int .i32 0]⟩ := by kernel_rfl
theorem lay177 : X.lay 177 = some ⟨.struct [(12, 0), (12, 1), (122, 2), (171, 3), (5, 4), (5, 5), (172, 6), (173, 7), (174, 8), (175, 9), (176, 10)], 11, 48, [.int .u64 0, .int .u64 0, .int .u32 0, .int .u8 0, .int .u8 0, .int .u8 0, .int .u8 0, .nilFunc, .pointer none, .int .i32 0, .int .i32 0]⟩ := by kernel_rfl
theorem lay178 : X.lay 178 = some ⟨.struct [(12, 0), (12, 1), (122, 2), (171, 3), (5, 4), (5, 5), (172, 6), (173, 7), (174, 8), (175, 9), (176, 10)], 11, 48, [.int .u64 0, .int .u64 0, .int .u32 0, .int .u8 0, .int .u8 0, .int .u8 0, .int .u8 0, .nilFunc, .pointer none, .int .i32 0, .int .i32 0]⟩ := by kernel_rfl
end Go.VL
namespace Go.VL
open Go.RowKit
set_option maxRecDepth 20000
abbrev cI (a : Int) : V := .c (.v (.int .i64 a))
abbrev cB (b : Bool) : V := .c (.v (.bool b))
abbrev tal (t c f : Int) : List C := [.v (.int .i64 t), .v (.int .i16 c), .v (.int .i16 f)]
abbrev det (cell : Int) (carry : Option Nat) (count : Int) (full : Option Nat) (ticks : Int) : List C := [.v (.int .i64 cell), .f .f32 carry, .v (.int .i16 count), .f .f32 full, .v (.int .i64 ticks)]
inductive TrVL (H : List Ob) (g : List (Option Nat)) : List V → List V → Prop
  | nil : TrVL H g [] []
  | cons {v v' : V} {vs vs' : List V} (h : TrV H g v v') (hs : TrVL H g vs vs') : TrVL H g (v :: vs) (v' :: vs')
theorem TrVL.spec {H : List Ob} {g : List (Option Nat)} {vs vs' : List V} (h : TrVL H g vs vs') : vs'.length = vs.length ∧ ∀ (j : Nat) (v v' : V), vs[j]? = some v → vs'[j]? = some v' → TrV H g v v' := by
  induction h with
  | nil => exact ⟨rfl, fun j c c' h => by simp at h⟩
  | cons h hs ih =>
    refine ⟨by simp [ih.1], fun j x x' hj hj' => ?_⟩
    cases j with
    | zero => simp at hj hj'; subst hj hj'; exact h
    | succ j => exact ih.2 j x x' (by simpa using hj) (by simpa using hj')
theorem a_tup {H : List Ob} {g : List (Option Nat)} {vs vs' : List V} (h : TrVL H g vs vs') : TrV H g (.tup vs) (.tup vs') := .tup h.spec.1 h.spec.2
theorem of_in {p : Prop} (h : p) : p := h
def int (a : Int) : List C := [.v (.int .i64 a)]
theorem int_len (a : Int) : (int a).length = 1 := rfl
theorem int_sc (a : Int) : (int a).all sc = true := rfl
abbrev ints (o : Bool) (xs : List Int) : C := .sl o xs.length 1 (flat int xs)
theorem a_i {H : List Ob} {a b : Int} (h : a = b) : TrV H [] (cI a) (cI b) := by rw [h]; exact tr_v
theorem all_step {α : Type} {xs : List α} {i : Nat} {p : α → Prop} (hi : i < xs.length) (h : ∀ x ∈ xs.take i, p x) (h1 : p xs[i]) : ∀ x ∈ xs.take (i + 1), p x := by
  rw [List.take_succ_eq_append_getElem hi]
  intro x hx
  rcases List.mem_append.1 hx with hx | hx
  · exact h x hx
  · simp at hx; subst hx; exact h1
def firstNZ : List Int → Int
  | [] => 0
  | x :: r => if x = 0 then firstNZ r else x
theorem firstNZ_none : ∀ {xs : List Int}, (∀ x ∈ xs, x = 0) → firstNZ xs = 0
  | [], _ => rfl
  | x :: r, h => by
    have h0 := h x (by simp)
    simp only [firstNZ, h0, if_true]
    exact firstNZ_none fun y hy => h y (by simp [hy])
theorem firstNZ_hit : ∀ {xs : List Int} {i : Nat} (hi : i < xs.length), (∀ x ∈ xs.take i, x = 0) → ¬ xs[i] = 0 → firstNZ xs = xs[i]
  | x :: r, 0, _, _, h => by simpa [firstNZ] using fun h0 => absurd h0 h
  | x :: r, i + 1, hi, hp, h => by
    have h0 := hp x (by simp)
    simp only [firstNZ, h0, if_true]
    exact firstNZ_hit (xs := r) (by simpa using hi) (fun y hy => hp y (by simp [hy])) (by simpa using h)
theorem c126 (b : Nat) : PureC X 126 [.c (.f .f64 (some b))] (.c (.v (.int .u64 b))) := pure_f64bits Go.Proofs.Try.func126 (by kernel_rfl) rfl (by kernel_rfl) (by kernel_rfl) b
theorem c110 (b : Nat) : PureC X 110 [.c (.f .f32 (some b))] (.c (.v (.int .u32 b))) := pure_f32bits Go.Proofs.Try.func110 (by kernel_rfl) rfl (by kernel_rfl) (by kernel_rfl) b
theorem i64r {a : Int} (h : -9223372036854775808 ≤ a ∧ a ≤ 9223372036854775807) : IntKind.i64.min ≤ a ∧ a ≤ IntKind.i64.max := h
theorem c104 (a lo hi : Int) : PureC X 104 [cI a, cI lo, cI hi] (cB (decide (lo ≤ a ∧ a ≤ hi))) := by
  refine PureC.of_body (drawD_ok X) (fun _ _ => Go.Proofs.Try.call104 _ _) Go.Proofs.Try.func104 rfl (n := 15) rfl ?_
  refine w_seq ?_
  refine w_reg rfl ?_
  refine v_assign (c := .v (.bool false)) rfl ?_
  refine v_nil ?_
  refine q_n ?_
  refine w_seq ?_
  refine w_reg rfl ?_
  refine v_move rfl ?_
  refine v_move rfl ?_
  refine v_geq lay2 rfl rfl (fun h1 => ?_) (fun h1 => ?_)
  · skip
    refine v_move rfl ?_
    refine v_guard_on rfl rfl ?_
    refine v_move rfl ?_
    refine v_guard_on rfl rfl ?_
    refine v_move rfl ?_
    refine v_guard_on rfl rfl ?_
    refine v_leq lay2 rfl rfl (fun h2 => ?_) (fun h2 => ?_)
    · skip
      refine v_pick_t rfl rfl ?_
      refine v_assign rfl ?_
      refine v_nil ?_
      refine q_n ?_
      refine w_ret ?_
      refine r_r rfl ?_
      exact a_b (by simp only [Bool.false_eq_true, false_iff, true_iff]; omega)
    · skip
      refine v_pick_t rfl rfl ?_
      refine v_assign rfl ?_
      refine v_nil ?_
      refine q_n ?_
      refine w_ret ?_
      refine r_r rfl ?_
      exact a_b (by simp only [Bool.false_eq_true, false_iff, true_iff]; omega)
  · skip
    refine v_move rfl ?_
    refine v_guard_off rfl rfl rfl ?_
    refine v_guard_off rfl rfl rfl ?_
    refine v_guard_off rfl rfl rfl ?_
    refine v_pick_f (v := .v (.bool false)) rfl rfl ?_
    refine v_assign rfl ?_
    refine v_nil ?_
    refine q_n ?_
    refine w_ret ?_
    refine r_r rfl ?_
    exact a_b (by simp only [Bool.false_eq_true, false_iff, true_iff]; omega)

theorem c67 (a lo hi : Int) : PureC X 67 [cI a, cI lo, cI hi] (cB (decide (lo ≤ a ∧ a ≤ hi))) := by
  refine PureC.of_body (drawD_ok X) (fun _ _ => Go.Proofs.Try.call67 _ _) Go.Proofs.Try.func67 rfl (n := 15) rfl ?_
  refine w_seq ?_
  refine w_reg rfl ?_
  refine v_assign (c := .v (.bool false)) rfl ?_
  refine v_nil ?_
  refine q_n ?_
  refine w_seq ?_
  refine w_reg rfl ?_
  refine v_move rfl ?_
  refine v_move rfl ?_
  refine v_leq lay2 rfl rfl (fun h1 => ?_) (fun h1 => ?_)
  · skip
    refine v_move rfl ?_
    refine v_guard_on rfl rfl ?_
    refine v_move rfl ?_
    refine v_guard_on rfl rfl ?_
    refine v_move rfl ?_
    refine v_guard_on rfl rfl ?_
    refine v_leq lay2 rfl rfl (fun h2 => ?_) (fun h2 => ?_)
    · skip
      refine v_pick_t rfl rfl ?_
      refine v_assign rfl ?_
      refine v_nil ?_
      refine q_n ?_
      refine w_ret ?_
      refine r_r rfl ?_
      exact a_b (by simp only [Bool.false_eq_true, false_iff, true_iff]; omega)
    · skip
      refine v_pick_t rfl rfl ?_
      refine v_assign rfl ?_
      refine v_nil ?_
      refine q_n ?_
      refine w_ret ?_
      refine r_r rfl ?_
      exact a_b (by simp only [Bool.false_eq_true, false_iff, true_iff]; omega)
  · skip
    refine v_move rfl ?_
    refine v_guard_off rfl rfl rfl ?_
    refine v_guard_off rfl rfl rfl ?_
    refine v_guard_off rfl rfl rfl ?_
    refine v_pick_f (v := .v (.bool false)) rfl rfl ?_
    refine v_assign rfl ?_
    refine v_nil ?_
    refine q_n ?_
    refine w_ret ?_
    refine r_r rfl ?_
    exact a_b (by simp only [Bool.false_eq_true, false_iff, true_iff]; omega)

theorem c18 (t c f t2 c2 f2 : Int) : PureC X 18 [.agg (tal t c f), .agg (tal t2 c2 f2)] (cB (decide (t = t2 ∧ c = c2 ∧ f = f2))) := by
  refine PureC.of_body (drawD_ok X) (fun _ _ => Go.Proofs.Try.call18 _ _) Go.Proofs.Try.func18 rfl (n := 20) rfl ?_
  refine w_seq ?_
  refine w_reg rfl ?_
  refine v_box (m := 0) (H' := [_]) lay27 rfl rfl rfl ?_
  refine v_box (m := 1) (H' := [_, _]) lay27 rfl rfl rfl ?_
  refine v_assign (c := .v (.bool false)) rfl ?_
  refine v_nil ?_
  refine q_n ?_
  refine w_seq ?_
  refine w_seq ?_
  refine w_reg rfl ?_
  refine v_fa_pt (off' := 0) lay27 rfl rfl rfl ?_
  refine v_load_pt (.c _) lay2 rfl rfl rfl rfl ?_
  refine v_fa_pt (off' := 0) lay27 rfl rfl rfl ?_
  refine v_load_pt (.c _) lay2 rfl rfl rfl rfl ?_
  refine v_neq lay2 rfl rfl (fun h1 => ?_) (fun h1 => ?_)
  · skip
    refine v_nil ?_
    refine q_n ?_
    refine w_t rfl ?_
    refine w_seq ?_
    refine w_reg rfl ?_
    refine v_assign (c := .v (.bool false)) rfl ?_
    refine v_nil ?_
    refine q_n ?_
    refine w_ret (q_r ?_)
    refine r_r rfl ?_
    exact a_b (by simp only [Bool.false_eq_true, false_iff, true_iff]; omega)
  · skip
    refine v_nil ?_
    refine q_n ?_
    refine w_f rfl ?_
    refine w_skip ?_
    refine q_n ?_
    refine w_seq ?_
    refine w_seq ?_
    refine w_reg rfl ?_
    refine v_fa_pt (off' := 1) lay27 rfl rfl rfl ?_
    refine v_load_pt (.c _) lay23 rfl rfl rfl rfl ?_
    refine v_fa_pt (off' := 1) lay27 rfl rfl rfl ?_
    refine v_load_pt (.c _) lay23 rfl rfl rfl rfl ?_
    refine v_neq lay23 rfl rfl (fun h2 => ?_) (fun h2 => ?_)
    · skip
      refine v_nil ?_
      refine q_n ?_
      refine w_t rfl ?_
      refine w_seq ?_
      refine w_reg rfl ?_
      refine v_assign (c := .v (.bool false)) rfl ?_
      refine v_nil ?_
      refine q_n ?_
      refine w_ret (q_r ?_)
      refine r_r rfl ?_
      exact a_b (by simp only [Bool.false_eq_true, false_iff, true_iff]; omega)
    · skip
      refine v_nil ?_
      refine q_n ?_
      refine w_f rfl ?_
      refine w_skip ?_
      refine q_n ?_
      refine w_seq ?_
      refine w_seq ?_
      refine w_reg rfl ?_
      refine v_fa_pt (off' := 2) lay27 rfl rfl rfl ?_
      refine v_load_pt (.c _) lay23 rfl rfl rfl rfl ?_
      refine v_fa_pt (off' := 2) lay27 rfl rfl rfl ?_
      refine v_load_pt (.c _) lay23 rfl rfl rfl rfl ?_
      refine v_neq lay23 rfl rfl (fun h3 => ?_) (fun h3 => ?_)
      · skip
        refine v_nil ?_
        refine q_n ?_
        refine w_t rfl ?_
        refine w_seq ?_
        refine w_reg rfl ?_
        refine v_assign (c := .v (.bool false)) rfl ?_
        refine v_nil ?_
        refine q_n ?_
        refine w_ret (q_r ?_)
        refine r_r rfl ?_
        exact a_b (by simp only [Bool.false_eq_true, false_iff, true_iff]; omega)
      · skip
        refine v_nil ?_
        refine q_n ?_
        refine w_f rfl ?_
        refine w_skip ?_
        refine q_n ?_
        refine w_seq ?_
        refine w_reg rfl ?_
        refine v_assign (c := .v (.bool true)) rfl ?_
        refine v_nil ?_
        refine q_n ?_
        refine w_ret ?_
        refine r_r rfl ?_
        exact a_b (by simp only [Bool.false_eq_true, false_iff, true_iff]; omega)

theorem c62 (a : Int) : PureC X 62 [cI a] (cB (decide (0 ≤ a ∧ a ≤ 65535))) := by
  refine PureC.of_body (drawD_ok X) (fun _ _ => Go.Proofs.Try.call62 _ _) Go.Proofs.Try.func62 rfl (n := 5) rfl ?_
  refine w_seq ?_
  refine w_reg rfl ?_
  refine v_assign (c := .v (.bool false)) rfl ?_
  refine v_nil ?_
  refine q_n ?_
  refine w_seq ?_
  refine w_reg rfl ?_
  refine v_move rfl ?_
  refine v_callb (c104 _ _ _) rfl rfl (.cons vw_v (.cons vw_v (.cons vw_v .nil))) (fun h1 => ?_) (fun h1 => ?_)
  · skip
    refine v_assign rfl ?_
    refine v_nil ?_
    refine q_n ?_
    refine w_ret ?_
    refine r_r rfl ?_
    exact a_b (by simp_all)
  · skip
    refine v_assign rfl ?_
    refine v_nil ?_
    refine q_n ?_
    refine w_ret ?_
    refine r_r rfl ?_
    exact a_b (by simp_all)

theorem c103 (a : Int) : PureC X 103 [cI a] (cB (decide (0 ≤ a ∧ a ≤ 14))) := by
  refine PureC.of_body (drawD_ok X) (fun _ _ => Go.Proofs.Try.call103 _ _) Go.Proofs.Try.func103 rfl (n := 5) rfl ?_
  refine w_seq ?_
  refine w_reg rfl ?_
  refine v_assign (c := .v (.bool false)) rfl ?_
  refine v_nil ?_
  refine q_n ?_
  refine w_seq ?_
  refine w_reg rfl ?_
  refine v_move rfl ?_
  refine v_callb (c104 _ _ _) rfl rfl (.cons vw_v (.cons vw_v (.cons vw_v .nil))) (fun h1 => ?_) (fun h1 => ?_)
  · skip
    refine v_assign rfl ?_
    refine v_nil ?_
    refine q_n ?_
    refine w_ret ?_
    refine r_r rfl ?_
    exact a_b (by simp_all)
  · skip
    refine v_assign rfl ?_
    refine v_nil ?_
    refine q_n ?_
    refine w_ret ?_
    refine r_r rfl ?_
    exact a_b (by simp_all)

theorem c16 (cell count ticks : Int) (carry full : Option Nat) : PureC X 16 [.agg (det cell carry count full ticks)] (.agg (det cell carry count full ticks)) := by
  refine PureC.of_body (drawD_ok X) (fun _ _ => Go.Proofs.Try.call16 _ _) Go.Proofs.Try.func16 rfl (n := 20) rfl ?_
  refine w_seq ?_
  refine w_reg rfl ?_
  refine v_box (m := 0) (H' := [_]) lay25 rfl rfl rfl ?_
  refine v_alloc (m := 1) (H' := [_, ⟨[.v _, .f _ _, .v _, .f _ _, .v _], 28, true⟩]) lay28 rfl rfl ?_
  refine v_nil ?_
  refine q_n ?_
  refine w_seq ?_
  refine w_reg rfl ?_
  refine v_alloc (m := 2) (H' := [_, _, ⟨[.v _, .f _ _, .v _, .f _ _, .v _], 28, true⟩]) lay28 rfl rfl ?_
  refine v_nil ?_
  refine q_n ?_
  refine w_seq ?_
  refine w_reg rfl ?_
  refine v_fa_pt (off' := 0) lay25 rfl rfl rfl ?_
  refine v_load_pt (.c _) lay2 rfl rfl rfl rfl ?_
  refine v_fa_pt (off' := 0) lay28 rfl rfl rfl ?_
  refine v_store (H' := [_, _, ⟨[_, _, _, _, _], 28, true⟩]) lay2 rfl rfl rfl rfl rfl rfl ?_
  refine v_nil ?_
  refine q_n ?_
  refine w_seq ?_
  refine w_reg rfl ?_
  refine v_fa_pt (off' := 1) lay25 rfl rfl rfl ?_
  refine v_load_pt (.c _) lay22 rfl rfl rfl rfl ?_
  refine v_fa_pt (off' := 1) lay28 rfl rfl rfl ?_
  refine v_store (H' := [_, _, ⟨[_, _, _, _, _], 28, true⟩]) lay22 rfl rfl rfl rfl rfl rfl ?_
  refine v_nil ?_
  refine q_n ?_
  refine w_seq ?_
  refine w_reg rfl ?_
  refine v_fa_pt (off' := 2) lay25 rfl rfl rfl ?_
  refine v_load_pt (.c _) lay23 rfl rfl rfl rfl ?_
  refine v_fa_pt (off' := 2) lay28 rfl rfl rfl ?_
  refine v_store (H' := [_, _, ⟨[_, _, _, _, _], 28, true⟩]) lay23 rfl rfl rfl rfl rfl rfl ?_
  refine v_nil ?_
  refine q_n ?_
  refine w_seq ?_
  refine w_reg rfl ?_
  refine v_fa_pt (off' := 3) lay25 rfl rfl rfl ?_
  refine v_load_pt (.c _) lay22 rfl rfl rfl rfl ?_
  refine v_fa_pt (off' := 3) lay28 rfl rfl rfl ?_
  refine v_store (H' := [_, _, ⟨[_, _, _, _, _], 28, true⟩]) lay22 rfl rfl rfl rfl rfl rfl ?_
  refine v_nil ?_
  refine q_n ?_
  refine w_seq ?_
  refine w_reg rfl ?_
  refine v_fa_pt (off' := 4) lay25 rfl rfl rfl ?_
  refine v_load_pt (.c _) lay2 rfl rfl rfl rfl ?_
  refine v_fa_pt (off' := 4) lay28 rfl rfl rfl ?_
  refine v_store (H' := [_, _, ⟨[_, _, _, _, _], 28, true⟩]) lay2 rfl rfl rfl rfl rfl rfl ?_
  refine v_nil ?_
  refine q_n ?_
  refine w_seq ?_
  refine w_reg rfl ?_
  refine v_load_pt (.agg [_, _, _, _, _]) lay28 rfl rfl rfl rfl ?_
  refine v_store (H' := [_, ⟨[_, _, _, _, _], 28, true⟩, _]) lay28 rfl rfl rfl rfl rfl rfl ?_
  refine v_nil ?_
  refine q_n ?_
  refine w_ret ?_
  refine r_r rfl ?_
  exact a_agg (.cons tr_v (.cons tr_f (.cons tr_v (.cons tr_f (.cons tr_v .nil)))))

theorem c65t (x : Int) : PureC X 65 [cB true, cI x] (cI x) := by
  refine PureC.of_body (drawD_ok X) (fun _ _ => Go.Proofs.Try.call65 _ _) Go.Proofs.Try.func65 rfl (n := 7) rfl ?_
  refine w_seq ?_
  refine w_reg rfl ?_
  refine v_assign (c := .v (.int .i64 0)) rfl ?_
  refine v_nil ?_
  refine q_n ?_
  refine w_seq ?_
  refine w_seq ?_
  refine w_reg rfl ?_
  refine v_move rfl ?_
  refine v_nil ?_
  refine q_n ?_
  refine w_t rfl ?_
  refine w_seq ?_
  refine w_reg rfl ?_
  refine v_move rfl ?_
  refine v_assign rfl ?_
  refine v_nil ?_
  refine q_n ?_
  refine w_ret (q_r ?_)
  refine r_r rfl ?_
  exact tr_v

theorem c65f (x : Int) : PureC X 65 [cB false, cI x] (cI 0) := by
  refine PureC.of_body (drawD_ok X) (fun _ _ => Go.Proofs.Try.call65 _ _) Go.Proofs.Try.func65 rfl (n := 7) rfl ?_
  refine w_seq ?_
  refine w_reg rfl ?_
  refine v_assign (c := .v (.int .i64 0)) rfl ?_
  refine v_nil ?_
  refine q_n ?_
  refine w_seq ?_
  refine w_seq ?_
  refine w_reg rfl ?_
  refine v_move rfl ?_
  refine v_nil ?_
  refine q_n ?_
  refine w_f rfl ?_
  refine w_skip ?_
  refine q_n ?_
  refine w_seq ?_
  refine w_reg rfl ?_
  refine v_assign (c := .v (.int .i64 0)) rfl ?_
  refine v_nil ?_
  refine q_n ?_
  refine w_ret ?_
  refine r_r rfl ?_
  exact tr_v

theorem c65 (b : Bool) (x : Int) : PureC X 65 [cB b, cI x] (cI (if b then x else 0)) := by
  cases b
  · exact c65f x
  · exact c65t x

theorem c64 (xs : List Int) (hx : xs.length ≤ 2 ^ 40) : PureC X 64 [.c (ints false xs)] (cI (firstNZ xs)) := by
  refine PureC.of_body (drawD_ok X) (fun _ _ => Go.Proofs.Try.call64 _ _) Go.Proofs.Try.func64 rfl (n := 15) rfl ?_
  refine w_seq ?_
  refine w_reg rfl ?_
  refine v_assign (c := .v (.int .i64 0)) rfl ?_
  refine v_nil ?_
  refine q_n ?_
  refine w_seq ?_
  refine w_seq ?_
  refine w_reg rfl ?_
  refine v_move rfl ?_
  refine v_len_sl lay118 rfl ?_
  refine v_move (c := .v (.int .i64 0)) rfl ?_
  refine v_nil ?_
  refine q_n ?_
  refine w_block ?_
  refine w_loop (fun k sl H => ∃ i : Nat, k = xs.length - i ∧ i ≤ xs.length ∧ (∀ x ∈ xs.take i, x = 0) ∧ sl = sls [(5, .c (ints false xs)), (6, cI xs.length), (7, cI i)] ∧ H = []) ?_ ?_
  · refine ⟨_, _, _, ?_, 0, rfl, Nat.zero_le _, by simp, rfl, rfl⟩
    exact turn0 ⟨tr_sl, tr_v, tr_v, trivial⟩
  · rintro k sl H ⟨i, rfl, hi, hp, rfl, rfl⟩
    refine w_seq ?_
    refine w_reg rfl ?_
    refine v_lss lay3 rfl rfl (fun h1 => ?_) (fun h1 => ?_)
    · skip
      refine v_nil ?_
      refine q_n ?_
      refine w_seq ?_
      refine w_t rfl ?_
      refine w_skip ?_
      refine q_n ?_
      refine w_seq ?_
      refine w_block ?_
      refine w_seq ?_
      refine w_reg rfl ?_
      refine v_idx (k := 1) int_len lay118 lay2 rfl rfl rfl rfl rfl (by omega) (fun q2 hq2 e2 => ?_)
      obtain rfl : i = q2 := by omega
      refine v_load_vw (.c (.v _)) lay2 rfl rfl rfl ?_
      refine v_assign rfl ?_
      refine v_nil ?_
      refine q_n ?_
      refine w_seq ?_
      refine w_reg rfl ?_
      refine v_move rfl ?_
      refine v_neq lay2 rfl rfl (fun h3 => ?_) (fun h3 => ?_)
      · skip
        refine v_nil ?_
        refine q_n ?_
        refine w_t rfl ?_
        refine w_seq ?_
        refine w_reg rfl ?_
        refine v_move rfl ?_
        refine v_assign rfl ?_
        refine v_nil ?_
        refine q_n ?_
        refine w_ret (q_br (q_r (q_r (q_br (q_r ?_)))))
        refine r_r rfl ?_
        exact a_i (firstNZ_hit hq2 hp h3).symm
      · skip
        refine v_nil ?_
        refine q_n ?_
        refine w_f rfl ?_
        refine w_skip ?_
        refine q_bn ?_
        refine q_n ?_
        refine w_reg rfl ?_
        refine v_add lay3 rfl rfl (i64r (by omega)) ?_
        refine v_move rfl ?_
        refine v_nil ?_
        refine q_n ?_
        refine ⟨_, _, _, ?_, ⟨i + 1, rfl, by omega, ?_, rfl, rfl⟩, by omega⟩
        · exact turn0 ⟨tr_sl, tr_v, tr_v, trivial⟩
        · exact all_step hq2 hp h3
    · skip
      refine v_nil ?_
      refine q_n ?_
      refine w_seq ?_
      refine w_f rfl ?_
      refine w_exit ?_
      refine q_e ?_
      refine q_e ?_
      refine q_hit ?_
      refine q_n ?_
      refine w_seq ?_
      refine w_reg rfl ?_
      refine v_assign (c := .v (.int .i64 0)) rfl ?_
      refine v_nil ?_
      refine q_n ?_
      refine w_ret ?_
      refine r_r rfl ?_
      obtain rfl : i = xs.length := by omega
      rw [List.take_length] at hp
      exact a_i (firstNZ_none hp).symm

theorem c109 (x : Option Nat) : PureC X 109 [.c (.f .f32 x)] (cB (decide (fin x = true))) := by
  refine PureC.of_body (drawD_ok X) (fun _ _ => Go.Proofs.Try.call109 _ _) Go.Proofs.Try.func109 rfl (n := 7) rfl ?_
  refine w_seq ?_
  refine w_reg rfl ?_
  refine v_assign (c := .v (.bool false)) rfl ?_
  refine v_nil ?_
  refine q_n ?_
  refine w_seq ?_
  refine w_reg rfl ?_
  refine v_move rfl ?_
  refine v_move rfl ?_
  refine v_bin (c := .f _ _) lay22 rfl rfl rfl ?_
  refine v_binb lay22 rfl rfl rfl (fun h1 => ?_) (fun h1 => ?_)
  · skip
    refine v_assign rfl ?_
    refine v_nil ?_
    refine q_n ?_
    refine w_ret ?_
    refine r_r rfl ?_
    exact a_b ⟨fun _ => h1, fun _ => rfl⟩
  · skip
    refine v_assign rfl ?_
    refine v_nil ?_
    refine q_n ?_
    refine w_ret ?_
    refine r_r rfl ?_
    exact a_b ⟨fun h => (by cases h), fun h => absurd (h1.symm.trans h) (by simp)⟩

theorem c111 (x : Option Nat) : PureC X 111 [.c (.f .f32 x)] (cB (decide (fin x = true))) := by
  refine PureC.of_body (drawD_ok X) (fun _ _ => Go.Proofs.Try.call111 _ _) Go.Proofs.Try.func111 rfl (n := 7) rfl ?_
  refine w_seq ?_
  refine w_reg rfl ?_
  refine v_assign (c := .v (.bool false)) rfl ?_
  refine v_nil ?_
  refine q_n ?_
  refine w_seq ?_
  refine w_reg rfl ?_
  refine v_move rfl ?_
  refine v_move rfl ?_
  refine v_bin (c := .f _ _) lay22 rfl rfl rfl ?_
  refine v_binb lay22 rfl rfl rfl (fun h1 => ?_) (fun h1 => ?_)
  · skip
    refine v_assign rfl ?_
    refine v_nil ?_
    refine q_n ?_
    refine w_ret ?_
    refine r_r rfl ?_
    exact a_b ⟨fun _ => h1, fun _ => rfl⟩
  · skip
    refine v_assign rfl ?_
    refine v_nil ?_
    refine q_n ?_
    refine w_ret ?_
    refine r_r rfl ?_
    exact a_b ⟨fun h => (by cases h), fun h => absurd (h1.symm.trans h) (by simp)⟩

theorem c112 (b : Nat) : PureC X 112 [.c (.f .f64 (some b))] (cB (decide (IntKind.i64.wrap (b : Int) < 0))) := by
  refine PureC.of_body (drawD_ok X) (fun _ _ => Go.Proofs.Try.call112 _ _) Go.Proofs.Try.func112 rfl (n := 7) rfl ?_
  refine w_seq ?_
  refine w_reg rfl ?_
  refine v_assign (c := .v (.bool false)) rfl ?_
  refine v_nil ?_
  refine q_n ?_
  refine w_seq ?_
  refine w_reg rfl ?_
  refine v_move rfl ?_
  refine v_call (c126 _) rfl rfl rfl (.cons vw_f .nil) ?_
  refine v_conv_iw lay136 lay2 rfl ?_
  refine v_lss lay2 rfl rfl (fun h1 => ?_) (fun h1 => ?_)
  · skip
    refine v_assign rfl ?_
    refine v_nil ?_
    refine q_n ?_
    refine w_ret ?_
    refine r_r rfl ?_
    exact a_b (by simp_all)
  · skip
    refine v_assign rfl ?_
    refine v_nil ?_
    refine q_n ?_
    refine w_ret ?_
    refine r_r rfl ?_
    exact a_b (by simp_all)

/-- A single as data. -/
def Sg (x : Option Nat) : Prop := okF .f32 x ∧ ∀ b, x = some b → b < 2 ^ 32
/-- An amount: a number that is greater than nought, or nought with no sign. -/
def amt (b : Nat) : Prop := fin (some b) = true ∧ ((ford .f32 (some b) (fOf .f32 0) == some .gt) = true ∨ b = 0)
instance (b : Nat) : Decidable (amt b) := by unfold amt; infer_instance
def amtB : Option Nat → Bool
  | none => false
  | some b => decide (amt b)
theorem amtB_some {b : Nat} : amtB (some b) = true ↔ amt b := by simp [amtB]
theorem amt_num {b : Nat} (hb : b < 2 ^ 32) {s : Bool} {m : Nat} {e : Int} (h : FloatKind.f32.format.read b = .number s m e) : amt b ↔ s = false := by
  unfold amt
  have hf := fin_num h
  rw [num_some h] at hf
  rw [order_zero h, zero_bits hb h, hf]
  cases s <;> by_cases hm : m = 0 <;> simp [hm]
theorem ge_of_amt {b : Nat} (hb : b < 2 ^ 32) (h : amt b) : (ford .f32 (some b) (fOf .f32 0) == some .gt || ford .f32 (some b) (fOf .f32 0) == some .eq) = true := by
  obtain ⟨s, m, e, hr⟩ := num_of_fin h.1
  have hs := (amt_num hb hr).1 h
  subst hs
  rw [order_zero hr]
  by_cases hm : m = 0 <;> simp [hm]
theorem sign_amt {b w : Nat} (hb : b < 2 ^ 32) (hw : convF .f32 .f64 (some b) = some (some w)) (h : fin (some b) = true) : IntKind.i64.wrap (w : Int) < 0 ↔ ¬ amt b := by
  obtain ⟨s, m, e, hr⟩ := num_of_fin h
  rw [convF_wide hr] at hw
  simp only [Option.some.injEq] at hw
  subst hw
  obtain ⟨hm, he⟩ := read_single hr
  rw [wide_sign hm he, amt_num hb hr]
  cases s <;> simp

theorem c77s (b : Nat) : PureC X 77 [.c (.f .f32 (some b))] (cB (decide (amtB (some b) = true))) := by
  refine PureC.of_body (drawD_ok X) (fun _ _ => Go.Proofs.Try.call77 _ _) Go.Proofs.Try.func77 rfl (n := 14) rfl ?_
  refine w_seq ?_
  refine w_reg rfl ?_
  refine v_assign (c := .v (.bool false)) rfl ?_
  refine v_nil ?_
  refine q_n ?_
  refine w_seq ?_
  refine w_reg rfl ?_
  refine v_move rfl ?_
  refine v_callb (c109 _) rfl rfl (.cons vw_f .nil) (fun h1 => ?_) (fun h1 => ?_)
  · skip
    refine v_move rfl ?_
    refine v_guard_on rfl rfl ?_
    refine v_move rfl ?_
    refine v_guard_on rfl rfl ?_
    refine v_binb lay22 rfl rfl rfl (fun h2 => ?_) (fun h2 => ?_)
    · skip
      refine v_guard_on rfl rfl ?_
      refine v_move rfl ?_
      refine v_guard_off rfl rfl rfl ?_
      refine v_guard_off rfl rfl rfl ?_
      refine v_guard_off rfl rfl rfl ?_
      refine v_guard_on rfl rfl ?_
      refine v_pick_t (v := .v (.bool true)) rfl rfl ?_
      refine v_pick_t rfl rfl ?_
      refine v_assign rfl ?_
      refine v_nil ?_
      refine q_n ?_
      refine w_ret ?_
      refine r_r rfl ?_
      exact a_b ⟨fun _ => amtB_some.2 ⟨h1, .inl h2⟩, fun _ => rfl⟩
    · skip
      refine v_guard_on rfl rfl ?_
      refine v_move rfl ?_
      refine v_guard_on rfl rfl ?_
      refine v_move rfl ?_
      refine v_guard_on rfl rfl ?_
      refine v_call (c110 _) rfl rfl rfl (.cons vw_f .nil) ?_
      refine v_guard_on rfl rfl ?_
      refine v_eql lay122 rfl rfl (fun h3 => ?_) (fun h3 => ?_)
      · skip
        refine v_guard_on rfl rfl ?_
        refine v_pick_f rfl rfl ?_
        refine v_pick_t rfl rfl ?_
        refine v_assign rfl ?_
        refine v_nil ?_
        refine q_n ?_
        refine w_ret ?_
        refine r_r rfl ?_
        exact a_b ⟨fun _ => amtB_some.2 ⟨h1, .inr (by omega)⟩, fun _ => rfl⟩
      · skip
        refine v_guard_on rfl rfl ?_
        refine v_pick_f rfl rfl ?_
        refine v_pick_t rfl rfl ?_
        refine v_assign rfl ?_
        refine v_nil ?_
        refine q_n ?_
        refine w_ret ?_
        refine r_r rfl ?_
        exact a_b ⟨fun h => (by cases h), fun h => by
          rcases (amtB_some.1 h).2 with h | h
          · exact absurd (h2.symm.trans h) (by decide)
          · omega⟩
  · skip
    refine v_move rfl ?_
    refine v_guard_off rfl rfl rfl ?_
    refine v_guard_off rfl rfl rfl ?_
    refine v_guard_off rfl rfl rfl ?_
    refine v_guard_un rfl rfl ?_
    refine v_guard_un rfl rfl ?_
    refine v_guard_un rfl rfl ?_
    refine v_guard_off rfl rfl rfl ?_
    refine v_pick_f (v := .v (.bool false)) rfl rfl ?_
    refine v_assign rfl ?_
    refine v_nil ?_
    refine q_n ?_
    refine w_ret ?_
    refine r_r rfl ?_
    exact a_b ⟨fun h => (by cases h), fun h => absurd (amtB_some.1 h).1 h1⟩

theorem c77n : PureC X 77 [.c (.f .f32 none)] (cB (decide (amtB none = true))) := by
  refine PureC.of_body (drawD_ok X) (fun _ _ => Go.Proofs.Try.call77 _ _) Go.Proofs.Try.func77 rfl (n := 14) rfl ?_
  refine w_seq ?_
  refine w_reg rfl ?_
  refine v_assign (c := .v (.bool false)) rfl ?_
  refine v_nil ?_
  refine q_n ?_
  refine w_seq ?_
  refine w_reg rfl ?_
  refine v_move rfl ?_
  refine v_callb (c109 _) rfl rfl (.cons vw_f .nil) (fun h1 => ?_) (fun h1 => ?_)
  · skip
    exact absurd h1 (by decide)
  · skip
    refine v_move rfl ?_
    refine v_guard_off rfl rfl rfl ?_
    refine v_guard_off rfl rfl rfl ?_
    refine v_guard_off rfl rfl rfl ?_
    refine v_guard_un rfl rfl ?_
    refine v_guard_un rfl rfl ?_
    refine v_guard_un rfl rfl ?_
    refine v_guard_off rfl rfl rfl ?_
    refine v_pick_f (v := .v (.bool false)) rfl rfl ?_
    refine v_assign rfl ?_
    refine v_nil ?_
    refine q_n ?_
    refine w_ret ?_
    refine r_r rfl ?_
    exact a_b ⟨fun h => (by cases h), fun h => (by cases h)⟩

theorem c77 (x : Option Nat) : PureC X 77 [.c (.f .f32 x)] (cB (decide (amtB x = true))) := by
  cases x with
  | none => exact c77n
  | some b => exact c77s b

theorem c80s (b w : Nat) (hb : b < 2 ^ 32) (hw : convF .f32 .f64 (some b) = some (some w)) : PureC X 80 [.c (.f .f32 (some b))] (cB (decide (amtB (some b) = true))) := by
  refine PureC.of_body (drawD_ok X) (fun _ _ => Go.Proofs.Try.call80 _ _) Go.Proofs.Try.func80 rfl (n := 15) rfl ?_
  refine w_seq ?_
  refine w_reg rfl ?_
  refine v_assign (c := .v (.bool false)) rfl ?_
  refine v_nil ?_
  refine q_n ?_
  refine w_seq ?_
  refine w_reg rfl ?_
  refine v_move rfl ?_
  refine v_binb lay22 rfl rfl rfl (fun h1 => ?_) (fun h1 => ?_)
  · skip
    refine v_move rfl ?_
    refine v_guard_on rfl rfl ?_
    refine v_move rfl ?_
    refine v_guard_on rfl rfl ?_
    refine v_callb (c111 _) rfl rfl (.cons vw_f .nil) (fun h2 => ?_) (fun h2 => ?_)
    · skip
      refine v_pick_t rfl rfl ?_
      refine v_move rfl ?_
      refine v_guard_on rfl rfl ?_
      refine v_move rfl ?_
      refine v_guard_on rfl rfl ?_
      refine v_conv_ff _ lay22 lay85 rfl (hw) ?_
      refine v_guard_on rfl rfl ?_
      refine v_callb (c112 _) rfl rfl (.cons vw_f .nil) (fun h3 => ?_) (fun h3 => ?_)
      · skip
        refine v_guard_on rfl rfl ?_
        refine v_not false rfl rfl ?_
        refine v_pick_t rfl rfl ?_
        refine v_assign rfl ?_
        refine v_nil ?_
        refine q_n ?_
        refine w_ret ?_
        refine r_r rfl ?_
        exact a_b ⟨fun h => (by cases h), fun h => absurd (amtB_some.1 h) ((sign_amt hb hw h2).1 h3)⟩
      · skip
        refine v_guard_on rfl rfl ?_
        refine v_not true rfl rfl ?_
        refine v_pick_t rfl rfl ?_
        refine v_assign rfl ?_
        refine v_nil ?_
        refine q_n ?_
        refine w_ret ?_
        refine r_r rfl ?_
        exact a_b ⟨fun _ => amtB_some.2 (Decidable.of_not_not fun h => h3 ((sign_amt hb hw h2).2 h)), fun _ => rfl⟩
    · skip
      refine v_pick_t rfl rfl ?_
      refine v_move rfl ?_
      refine v_guard_off rfl rfl rfl ?_
      refine v_guard_off rfl rfl rfl ?_
      refine v_guard_off rfl rfl rfl ?_
      refine v_guard_off rfl rfl rfl ?_
      refine v_pick_f (v := .v (.bool false)) rfl rfl ?_
      refine v_assign rfl ?_
      refine v_nil ?_
      refine q_n ?_
      refine w_ret ?_
      refine r_r rfl ?_
      exact a_b ⟨fun h => (by cases h), fun h => absurd (amtB_some.1 h).1 h2⟩
  · skip
    refine v_move rfl ?_
    refine v_guard_off rfl rfl rfl ?_
    refine v_guard_off rfl rfl rfl ?_
    refine v_pick_f (v := .v (.bool false)) rfl rfl ?_
    refine v_move rfl ?_
    refine v_guard_off rfl rfl rfl ?_
    refine v_guard_off rfl rfl rfl ?_
    refine v_guard_off rfl rfl rfl ?_
    refine v_guard_off rfl rfl rfl ?_
    refine v_pick_f (v := .v (.bool false)) rfl rfl ?_
    refine v_assign rfl ?_
    refine v_nil ?_
    refine q_n ?_
    refine w_ret ?_
    refine r_r rfl ?_
    exact a_b ⟨fun h => (by cases h), fun h => absurd (h1.symm.trans (ge_of_amt hb (amtB_some.1 h))) (by decide)⟩

theorem c80n : PureC X 80 [.c (.f .f32 none)] (cB (decide (amtB none = true))) := by
  refine PureC.of_body (drawD_ok X) (fun _ _ => Go.Proofs.Try.call80 _ _) Go.Proofs.Try.func80 rfl (n := 15) rfl ?_
  refine w_seq ?_
  refine w_reg rfl ?_
  refine v_assign (c := .v (.bool false)) rfl ?_
  refine v_nil ?_
  refine q_n ?_
  refine w_seq ?_
  refine w_reg rfl ?_
  refine v_move rfl ?_
  refine v_binb lay22 rfl rfl rfl (fun h1 => ?_) (fun h1 => ?_)
  · skip
    exact absurd h1 (by decide)
  · skip
    refine v_move rfl ?_
    refine v_guard_off rfl rfl rfl ?_
    refine v_guard_off rfl rfl rfl ?_
    refine v_pick_f (v := .v (.bool false)) rfl rfl ?_
    refine v_move rfl ?_
    refine v_guard_off rfl rfl rfl ?_
    refine v_guard_off rfl rfl rfl ?_
    refine v_guard_off rfl rfl rfl ?_
    refine v_guard_off rfl rfl rfl ?_
    refine v_pick_f (v := .v (.bool false)) rfl rfl ?_
    refine v_assign rfl ?_
    refine v_nil ?_
    refine q_n ?_
    refine w_ret ?_
    refine r_r rfl ?_
    exact a_b ⟨fun h => (by cases h), fun h => (by cases h)⟩

theorem c80 (x : Option Nat) (hx : Sg x) : PureC X 80 [.c (.f .f32 x)] (cB (decide (amtB x = true))) := by
  cases x with
  | none => exact c80n
  | some b =>
    obtain ⟨w, hw, -⟩ := wide_some hx.1
    exact c80s b w (hx.2 b rfl) hw

/-- A detector that is valid. -/
def dOk (cell : Int) (carry : Option Nat) (count : Int) (full : Option Nat) (ticks : Int) : Prop :=
  (0 ≤ cell ∧ cell ≤ 14) ∧ amtB carry = true ∧ (ford .f32 carry (fOf .f32 1065353216) == some .lt) = true ∧ 0 ≤ count ∧ amtB full = true ∧ 0 ≤ ticks ∧ ticks ≤ 1000000
instance (cell : Int) (carry : Option Nat) (count : Int) (full : Option Nat) (ticks : Int) : Decidable (dOk cell carry count full ticks) := by unfold dOk; infer_instance

theorem c66 (cell count ticks : Int) (carry full : Option Nat) (hc : Sg carry) (hf : Sg full) : PureC X 66 [.agg (det cell carry count full ticks)] (cB (decide (dOk cell carry count full ticks))) := by
  refine PureC.of_body (drawD_ok X) (fun _ _ => Go.Proofs.Try.call66 _ _) Go.Proofs.Try.func66 rfl (n := 31) rfl ?_
  refine w_seq ?_
  refine w_reg rfl ?_
  refine v_box (m := 0) (H' := [_]) lay28 rfl rfl rfl ?_
  refine v_assign (c := .v (.bool false)) rfl ?_
  refine v_nil ?_
  refine q_n ?_
  refine w_seq ?_
  refine w_reg rfl ?_
  refine v_fa_pt (off' := 0) lay28 rfl rfl rfl ?_
  refine v_load_pt (.c _) lay2 rfl rfl rfl rfl ?_
  refine v_callb (c67 _ _ _) rfl rfl (.cons vw_v (.cons vw_v (.cons vw_v .nil))) (fun h1 => ?_) (fun h1 => ?_)
  · skip
    refine v_move rfl ?_
    refine v_guard_on rfl rfl ?_
    refine v_fa_pt (off' := 1) lay28 rfl rfl rfl ?_
    refine v_guard_on rfl rfl ?_
    refine v_load_pt (.c _) lay22 rfl rfl rfl rfl ?_
    refine v_guard_on rfl rfl ?_
    refine v_callb (c80 _ (by assumption)) rfl rfl (.cons vw_f .nil) (fun h2 => ?_) (fun h2 => ?_)
    · skip
      refine v_pick_t rfl rfl ?_
      refine v_move rfl ?_
      refine v_guard_on rfl rfl ?_
      refine v_fa_pt (off' := 1) lay28 rfl rfl rfl ?_
      refine v_guard_on rfl rfl ?_
      refine v_load_pt (.c _) lay22 rfl rfl rfl rfl ?_
      refine v_guard_on rfl rfl ?_
      refine v_binb lay22 rfl rfl rfl (fun h3 => ?_) (fun h3 => ?_)
      · skip
        refine v_pick_t rfl rfl ?_
        refine v_move rfl ?_
        refine v_guard_on rfl rfl ?_
        refine v_fa_pt (off' := 2) lay28 rfl rfl rfl ?_
        refine v_guard_on rfl rfl ?_
        refine v_load_pt (.c _) lay23 rfl rfl rfl rfl ?_
        refine v_guard_on rfl rfl ?_
        refine v_geq lay23 rfl rfl (fun h4 => ?_) (fun h4 => ?_)
        · skip
          refine v_pick_t rfl rfl ?_
          refine v_move rfl ?_
          refine v_guard_on rfl rfl ?_
          refine v_fa_pt (off' := 3) lay28 rfl rfl rfl ?_
          refine v_guard_on rfl rfl ?_
          refine v_load_pt (.c _) lay22 rfl rfl rfl rfl ?_
          refine v_guard_on rfl rfl ?_
          refine v_callb (c80 _ (by assumption)) rfl rfl (.cons vw_f .nil) (fun h5 => ?_) (fun h5 => ?_)
          · skip
            refine v_pick_t rfl rfl ?_
            refine v_move rfl ?_
            refine v_guard_on rfl rfl ?_
            refine v_fa_pt (off' := 4) lay28 rfl rfl rfl ?_
            refine v_guard_on rfl rfl ?_
            refine v_load_pt (.c _) lay2 rfl rfl rfl rfl ?_
            refine v_guard_on rfl rfl ?_
            refine v_callb (c67 _ _ _) rfl rfl (.cons vw_v (.cons vw_v (.cons vw_v .nil))) (fun h6 => ?_) (fun h6 => ?_)
            · skip
              refine v_pick_t rfl rfl ?_
              refine v_assign rfl ?_
              refine v_nil ?_
              refine q_n ?_
              refine w_ret ?_
              refine r_r rfl ?_
              exact a_b ⟨fun _ => ⟨h1, h2, h3, h4, h5, h6⟩, fun _ => rfl⟩
            · skip
              refine v_pick_t rfl rfl ?_
              refine v_assign rfl ?_
              refine v_nil ?_
              refine q_n ?_
              refine w_ret ?_
              refine r_r rfl ?_
              exact a_b ⟨fun h => (by cases h), fun h => absurd h.2.2.2.2.2 h6⟩
          · skip
            refine v_pick_t rfl rfl ?_
            refine v_move rfl ?_
            refine v_guard_off rfl rfl rfl ?_
            refine v_guard_off rfl rfl rfl ?_
            refine v_guard_off rfl rfl rfl ?_
            refine v_pick_f (v := .v (.bool false)) rfl rfl ?_
            refine v_assign rfl ?_
            refine v_nil ?_
            refine q_n ?_
            refine w_ret ?_
            refine r_r rfl ?_
            exact a_b ⟨fun h => (by cases h), fun h => absurd h.2.2.2.2.1 h5⟩
        · skip
          refine v_pick_t rfl rfl ?_
          refine v_move rfl ?_
          refine v_guard_off rfl rfl rfl ?_
          refine v_guard_off rfl rfl rfl ?_
          refine v_guard_off rfl rfl rfl ?_
          refine v_pick_f (v := .v (.bool false)) rfl rfl ?_
          refine v_move rfl ?_
          refine v_guard_off rfl rfl rfl ?_
          refine v_guard_off rfl rfl rfl ?_
          refine v_guard_off rfl rfl rfl ?_
          refine v_pick_f (v := .v (.bool false)) rfl rfl ?_
          refine v_assign rfl ?_
          refine v_nil ?_
          refine q_n ?_
          refine w_ret ?_
          refine r_r rfl ?_
          exact a_b ⟨fun h => (by cases h), fun h => absurd h.2.2.2.1 (by omega)⟩
      · skip
        refine v_pick_t rfl rfl ?_
        refine v_move rfl ?_
        refine v_guard_off rfl rfl rfl ?_
        refine v_guard_off rfl rfl rfl ?_
        refine v_guard_off rfl rfl rfl ?_
        refine v_pick_f (v := .v (.bool false)) rfl rfl ?_
        refine v_move rfl ?_
        refine v_guard_off rfl rfl rfl ?_
        refine v_guard_off rfl rfl rfl ?_
        refine v_guard_off rfl rfl rfl ?_
        refine v_pick_f (v := .v (.bool false)) rfl rfl ?_
        refine v_move rfl ?_
        refine v_guard_off rfl rfl rfl ?_
        refine v_guard_off rfl rfl rfl ?_
        refine v_guard_off rfl rfl rfl ?_
        refine v_pick_f (v := .v (.bool false)) rfl rfl ?_
        refine v_assign rfl ?_
        refine v_nil ?_
        refine q_n ?_
        refine w_ret ?_
        refine r_r rfl ?_
        exact a_b ⟨fun h => (by cases h), fun h => absurd (h3.symm.trans h.2.2.1) (by decide)⟩
    · skip
      refine v_pick_t rfl rfl ?_
      refine v_move rfl ?_
      refine v_guard_off rfl rfl rfl ?_
      refine v_guard_off rfl rfl rfl ?_
      refine v_guard_off rfl rfl rfl ?_
      refine v_pick_f (v := .v (.bool false)) rfl rfl ?_
      refine v_move rfl ?_
      refine v_guard_off rfl rfl rfl ?_
      refine v_guard_off rfl rfl rfl ?_
      refine v_guard_off rfl rfl rfl ?_
      refine v_pick_f (v := .v (.bool false)) rfl rfl ?_
      refine v_move rfl ?_
      refine v_guard_off rfl rfl rfl ?_
      refine v_guard_off rfl rfl rfl ?_
      refine v_guard_off rfl rfl rfl ?_
      refine v_pick_f (v := .v (.bool false)) rfl rfl ?_
      refine v_move rfl ?_
      refine v_guard_off rfl rfl rfl ?_
      refine v_guard_off rfl rfl rfl ?_
      refine v_guard_off rfl rfl rfl ?_
      refine v_pick_f (v := .v (.bool false)) rfl rfl ?_
      refine v_assign rfl ?_
      refine v_nil ?_
      refine q_n ?_
      refine w_ret ?_
      refine r_r rfl ?_
      exact a_b ⟨fun h => (by cases h), fun h => absurd h.2.1 h2⟩
  · skip
    refine v_move rfl ?_
    refine v_guard_off rfl rfl rfl ?_
    refine v_guard_off rfl rfl rfl ?_
    refine v_guard_off rfl rfl rfl ?_
    refine v_pick_f (v := .v (.bool false)) rfl rfl ?_
    refine v_move rfl ?_
    refine v_guard_off rfl rfl rfl ?_
    refine v_guard_off rfl rfl rfl ?_
    refine v_guard_off rfl rfl rfl ?_
    refine v_pick_f (v := .v (.bool false)) rfl rfl ?_
    refine v_move rfl ?_
    refine v_guard_off rfl rfl rfl ?_
    refine v_guard_off rfl rfl rfl ?_
    refine v_guard_off rfl rfl rfl ?_
    refine v_pick_f (v := .v (.bool false)) rfl rfl ?_
    refine v_move rfl ?_
    refine v_guard_off rfl rfl rfl ?_
    refine v_guard_off rfl rfl rfl ?_
    refine v_guard_off rfl rfl rfl ?_
    refine v_pick_f (v := .v (.bool false)) rfl rfl ?_
    refine v_move rfl ?_
    refine v_guard_off rfl rfl rfl ?_
    refine v_guard_off rfl rfl rfl ?_
    refine v_guard_off rfl rfl rfl ?_
    refine v_pick_f (v := .v (.bool false)) rfl rfl ?_
    refine v_assign rfl ?_
    refine v_nil ?_
    refine q_n ?_
    refine w_ret ?_
    refine r_r rfl ?_
    exact a_b ⟨fun h => (by cases h), fun h => absurd h.1 h1⟩

theorem c61 (cell count ticks : Int) (carry full : Option Nat) : PureC X 61 [.c (.vw false (det cell carry count full ticks) 0)] (cB (decide (dOk cell carry count full ticks))) := by
  refine PureC.of_body (drawD_ok X) (fun _ _ => Go.Proofs.Try.call61 _ _) Go.Proofs.Try.func61 rfl (n := 43) rfl ?_
  refine w_seq ?_
  refine w_reg rfl ?_
  refine v_assign (c := .v (.bool false)) rfl ?_
  refine v_nil ?_
  refine q_n ?_
  refine w_seq ?_
  refine w_reg rfl ?_
  refine v_move rfl ?_
  refine v_nil_vw rfl ?_
  refine v_fa_vw (off' := 0) lay28 rfl rfl rfl ?_
  refine v_load_vw (.c (.v _)) lay2 rfl rfl rfl ?_
  refine v_callb (c103 _) rfl rfl (.cons vw_v .nil) (fun h1 => ?_) (fun h1 => ?_)
  · skip
    refine v_move rfl ?_
    refine v_guard_on rfl rfl ?_
    refine v_move rfl ?_
    refine v_guard_on rfl rfl ?_
    refine v_nil_vw rfl ?_
    refine v_guard_on rfl rfl ?_
    refine v_fa_vw (off' := 1) lay28 rfl rfl rfl ?_
    refine v_guard_on rfl rfl ?_
    refine v_load_vw (.c (.f _ _)) lay22 rfl rfl rfl ?_
    refine v_guard_on rfl rfl ?_
    refine v_callb (c77 _) rfl rfl (.cons vw_f .nil) (fun h2 => ?_) (fun h2 => ?_)
    · skip
      refine v_pick_t rfl rfl ?_
      refine v_move rfl ?_
      refine v_guard_on rfl rfl ?_
      refine v_move rfl ?_
      refine v_guard_on rfl rfl ?_
      refine v_nil_vw rfl ?_
      refine v_guard_on rfl rfl ?_
      refine v_fa_vw (off' := 1) lay28 rfl rfl rfl ?_
      refine v_guard_on rfl rfl ?_
      refine v_load_vw (.c (.f _ _)) lay22 rfl rfl rfl ?_
      refine v_guard_on rfl rfl ?_
      refine v_binb lay22 rfl rfl rfl (fun h3 => ?_) (fun h3 => ?_)
      · skip
        refine v_pick_t rfl rfl ?_
        refine v_move rfl ?_
        refine v_guard_on rfl rfl ?_
        refine v_move rfl ?_
        refine v_guard_on rfl rfl ?_
        refine v_nil_vw rfl ?_
        refine v_guard_on rfl rfl ?_
        refine v_fa_vw (off' := 2) lay28 rfl rfl rfl ?_
        refine v_guard_on rfl rfl ?_
        refine v_load_vw (.c (.v _)) lay23 rfl rfl rfl ?_
        refine v_guard_on rfl rfl ?_
        refine v_geq lay23 rfl rfl (fun h4 => ?_) (fun h4 => ?_)
        · skip
          refine v_pick_t rfl rfl ?_
          refine v_move rfl ?_
          refine v_guard_on rfl rfl ?_
          refine v_move rfl ?_
          refine v_guard_on rfl rfl ?_
          refine v_nil_vw rfl ?_
          refine v_guard_on rfl rfl ?_
          refine v_fa_vw (off' := 3) lay28 rfl rfl rfl ?_
          refine v_guard_on rfl rfl ?_
          refine v_load_vw (.c (.f _ _)) lay22 rfl rfl rfl ?_
          refine v_guard_on rfl rfl ?_
          refine v_callb (c77 _) rfl rfl (.cons vw_f .nil) (fun h5 => ?_) (fun h5 => ?_)
          · skip
            refine v_pick_t rfl rfl ?_
            refine v_move rfl ?_
            refine v_guard_on rfl rfl ?_
            refine v_move rfl ?_
            refine v_guard_on rfl rfl ?_
            refine v_nil_vw rfl ?_
            refine v_guard_on rfl rfl ?_
            refine v_fa_vw (off' := 4) lay28 rfl rfl rfl ?_
            refine v_guard_on rfl rfl ?_
            refine v_load_vw (.c (.v _)) lay2 rfl rfl rfl ?_
            refine v_guard_on rfl rfl ?_
            refine v_callb (c104 _ _ _) rfl rfl (.cons vw_v (.cons vw_v (.cons vw_v .nil))) (fun h6 => ?_) (fun h6 => ?_)
            · skip
              refine v_pick_t rfl rfl ?_
              refine v_assign rfl ?_
              refine v_nil ?_
              refine q_n ?_
              refine w_ret ?_
              refine r_r rfl ?_
              exact a_b ⟨fun _ => ⟨h1, h2, h3, h4, h5, h6⟩, fun _ => rfl⟩
            · skip
              refine v_pick_t rfl rfl ?_
              refine v_assign rfl ?_
              refine v_nil ?_
              refine q_n ?_
              refine w_ret ?_
              refine r_r rfl ?_
              exact a_b ⟨fun h => (by cases h), fun h => absurd h.2.2.2.2.2 h6⟩
          · skip
            refine v_pick_t rfl rfl ?_
            refine v_move rfl ?_
            refine v_guard_off rfl rfl rfl ?_
            refine v_guard_off rfl rfl rfl ?_
            refine v_guard_off rfl rfl rfl ?_
            refine v_guard_off rfl rfl rfl ?_
            refine v_guard_off rfl rfl rfl ?_
            refine v_pick_f (v := .v (.bool false)) rfl rfl ?_
            refine v_assign rfl ?_
            refine v_nil ?_
            refine q_n ?_
            refine w_ret ?_
            refine r_r rfl ?_
            exact a_b ⟨fun h => (by cases h), fun h => absurd h.2.2.2.2.1 h5⟩
        · skip
          refine v_pick_t rfl rfl ?_
          refine v_move rfl ?_
          refine v_guard_off rfl rfl rfl ?_
          refine v_guard_off rfl rfl rfl ?_
          refine v_guard_off rfl rfl rfl ?_
          refine v_guard_off rfl rfl rfl ?_
          refine v_guard_off rfl rfl rfl ?_
          refine v_pick_f (v := .v (.bool false)) rfl rfl ?_
          refine v_move rfl ?_
          refine v_guard_off rfl rfl rfl ?_
          refine v_guard_off rfl rfl rfl ?_
          refine v_guard_off rfl rfl rfl ?_
          refine v_guard_off rfl rfl rfl ?_
          refine v_guard_off rfl rfl rfl ?_
          refine v_pick_f (v := .v (.bool false)) rfl rfl ?_
          refine v_assign rfl ?_
          refine v_nil ?_
          refine q_n ?_
          refine w_ret ?_
          refine r_r rfl ?_
          exact a_b ⟨fun h => (by cases h), fun h => absurd h.2.2.2.1 (by omega)⟩
      · skip
        refine v_pick_t rfl rfl ?_
        refine v_move rfl ?_
        refine v_guard_off rfl rfl rfl ?_
        refine v_guard_off rfl rfl rfl ?_
        refine v_guard_off rfl rfl rfl ?_
        refine v_guard_off rfl rfl rfl ?_
        refine v_guard_off rfl rfl rfl ?_
        refine v_pick_f (v := .v (.bool false)) rfl rfl ?_
        refine v_move rfl ?_
        refine v_guard_off rfl rfl rfl ?_
        refine v_guard_off rfl rfl rfl ?_
        refine v_guard_off rfl rfl rfl ?_
        refine v_guard_off rfl rfl rfl ?_
        refine v_guard_off rfl rfl rfl ?_
        refine v_pick_f (v := .v (.bool false)) rfl rfl ?_
        refine v_move rfl ?_
        refine v_guard_off rfl rfl rfl ?_
        refine v_guard_off rfl rfl rfl ?_
        refine v_guard_off rfl rfl rfl ?_
        refine v_guard_off rfl rfl rfl ?_
        refine v_guard_off rfl rfl rfl ?_
        refine v_pick_f (v := .v (.bool false)) rfl rfl ?_
        refine v_assign rfl ?_
        refine v_nil ?_
        refine q_n ?_
        refine w_ret ?_
        refine r_r rfl ?_
        exact a_b ⟨fun h => (by cases h), fun h => absurd (h3.symm.trans h.2.2.1) (by decide)⟩
    · skip
      refine v_pick_t rfl rfl ?_
      refine v_move rfl ?_
      refine v_guard_off rfl rfl rfl ?_
      refine v_guard_off rfl rfl rfl ?_
      refine v_guard_off rfl rfl rfl ?_
      refine v_guard_off rfl rfl rfl ?_
      refine v_guard_off rfl rfl rfl ?_
      refine v_pick_f (v := .v (.bool false)) rfl rfl ?_
      refine v_move rfl ?_
      refine v_guard_off rfl rfl rfl ?_
      refine v_guard_off rfl rfl rfl ?_
      refine v_guard_off rfl rfl rfl ?_
      refine v_guard_off rfl rfl rfl ?_
      refine v_guard_off rfl rfl rfl ?_
      refine v_pick_f (v := .v (.bool false)) rfl rfl ?_
      refine v_move rfl ?_
      refine v_guard_off rfl rfl rfl ?_
      refine v_guard_off rfl rfl rfl ?_
      refine v_guard_off rfl rfl rfl ?_
      refine v_guard_off rfl rfl rfl ?_
      refine v_guard_off rfl rfl rfl ?_
      refine v_pick_f (v := .v (.bool false)) rfl rfl ?_
      refine v_move rfl ?_
      refine v_guard_off rfl rfl rfl ?_
      refine v_guard_off rfl rfl rfl ?_
      refine v_guard_off rfl rfl rfl ?_
      refine v_guard_off rfl rfl rfl ?_
      refine v_guard_off rfl rfl rfl ?_
      refine v_pick_f (v := .v (.bool false)) rfl rfl ?_
      refine v_assign rfl ?_
      refine v_nil ?_
      refine q_n ?_
      refine w_ret ?_
      refine r_r rfl ?_
      exact a_b ⟨fun h => (by cases h), fun h => absurd h.2.1 h2⟩
  · skip
    refine v_move rfl ?_
    refine v_guard_off rfl rfl rfl ?_
    refine v_guard_off rfl rfl rfl ?_
    refine v_guard_off rfl rfl rfl ?_
    refine v_guard_off rfl rfl rfl ?_
    refine v_guard_off rfl rfl rfl ?_
    refine v_pick_f (v := .v (.bool false)) rfl rfl ?_
    refine v_move rfl ?_
    refine v_guard_off rfl rfl rfl ?_
    refine v_guard_off rfl rfl rfl ?_
    refine v_guard_off rfl rfl rfl ?_
    refine v_guard_off rfl rfl rfl ?_
    refine v_guard_off rfl rfl rfl ?_
    refine v_pick_f (v := .v (.bool false)) rfl rfl ?_
    refine v_move rfl ?_
    refine v_guard_off rfl rfl rfl ?_
    refine v_guard_off rfl rfl rfl ?_
    refine v_guard_off rfl rfl rfl ?_
    refine v_guard_off rfl rfl rfl ?_
    refine v_guard_off rfl rfl rfl ?_
    refine v_pick_f (v := .v (.bool false)) rfl rfl ?_
    refine v_move rfl ?_
    refine v_guard_off rfl rfl rfl ?_
    refine v_guard_off rfl rfl rfl ?_
    refine v_guard_off rfl rfl rfl ?_
    refine v_guard_off rfl rfl rfl ?_
    refine v_guard_off rfl rfl rfl ?_
    refine v_pick_f (v := .v (.bool false)) rfl rfl ?_
    refine v_move rfl ?_
    refine v_guard_off rfl rfl rfl ?_
    refine v_guard_off rfl rfl rfl ?_
    refine v_guard_off rfl rfl rfl ?_
    refine v_guard_off rfl rfl rfl ?_
    refine v_guard_off rfl rfl rfl ?_
    refine v_pick_f (v := .v (.bool false)) rfl rfl ?_
    refine v_assign rfl ?_
    refine v_nil ?_
    refine q_n ?_
    refine w_ret ?_
    refine r_r rfl ?_
    exact a_b ⟨fun h => (by cases h), fun h => absurd h.1 h1⟩

/-- A double as a count. -/
def countW (p : Nat) : Int := if (ford .f64 (some p) (fOf .f64 4674736138332667904) == some .gt) = true then 32767 else if (ford .f64 (some p) (fOf .f64 13898108450065350656) == some .lt) = true then -32768 else ((FloatKind.f64.decode p).toInt .zero).getD 0
/-- A single as a count. -/
def countOf (x : Option Nat) : Int := match rte (wide x) with
  | none => 0
  | some p => countW p
theorem countW_in {p : Nat} (hp : okF .f64 (some p)) (h1 : (ford .f64 (some p) (fOf .f64 4674736138332667904) == some .gt) = false) (h2 : (ford .f64 (some p) (fOf .f64 13898108450065350656) == some .lt) = false) : ∃ n : Int, (FloatKind.f64.decode p).toInt .zero = some n ∧ (-32768 ≤ n ∧ n ≤ 32767) ∧ countW p = n := by
  obtain ⟨n, h3, h4⟩ := toInt_within (A := 32767) (B := 32768) (qa := 38) (qb := 37) hp (by rfl) (by rfl) h1 h2
  refine ⟨n, h3, h4, ?_⟩
  unfold countW
  rw [if_neg (by rw [h1]; decide), if_neg (by rw [h2]; decide), h3]; rfl
theorem countW_hi {p : Nat} (h1 : (ford .f64 (some p) (fOf .f64 4674736138332667904) == some .gt) = true) : countW p = 32767 := by unfold countW; rw [if_pos h1]
theorem countW_lo {p : Nat} (h1 : (ford .f64 (some p) (fOf .f64 4674736138332667904) == some .gt) = false) (h2 : (ford .f64 (some p) (fOf .f64 13898108450065350656) == some .lt) = true) : countW p = -32768 := by
  unfold countW
  rw [if_neg (by rw [h1]; decide), if_pos h2]
theorem a_16 {H : List Ob} {a b : Int} (h : a = b) : TrV H [] (.c (.v (.int .i16 a))) (.c (.v (.int .i16 b))) := by rw [h]; exact tr_v
theorem c105 {x : Option Nat} (h : okF .f64 x) : PureC X 105 [.c (.f .f64 x)] (.c (.f .f64 (rte x))) := pure_rte_any Go.Proofs.Try.func105 (by kernel_rfl) rfl (by kernel_rfl) (by kernel_rfl) h

theorem c63s (b w p : Nat) (hx : okF .f32 (some b)) (hw : convF .f32 .f64 (some b) = some (some w)) (h105 : PureC X 105 [.c (.f .f64 (some w))] (.c (.f .f64 (some p)))) (hp : okF .f64 (some p)) : PureC X 63 [.c (.f .f32 (some b))] (.c (.v (.int .i16 (countW p)))) := by
  refine PureC.of_body (drawD_ok X) (fun _ _ => Go.Proofs.Try.call63 _ _) Go.Proofs.Try.func63 rfl (n := 16) rfl ?_
  refine w_seq ?_
  refine w_reg rfl ?_
  refine v_assign (c := .v (.int .i16 0)) rfl ?_
  refine v_nil ?_
  refine q_n ?_
  refine w_seq ?_
  refine w_seq ?_
  refine w_reg rfl ?_
  refine v_move rfl ?_
  refine v_move rfl ?_
  refine v_binb lay22 rfl rfl rfl (fun h1 => ?_) (fun h1 => ?_)
  · skip
    exact absurd h1 (by rw [ford_self hx]; decide)
  · skip
    refine v_nil ?_
    refine q_n ?_
    refine w_f rfl ?_
    refine w_skip ?_
    refine q_n ?_
    refine w_seq ?_
    refine w_reg rfl ?_
    refine v_move rfl ?_
    refine v_conv_ff _ lay22 lay85 rfl (hw) ?_
    refine v_call (h105) rfl rfl rfl (.cons vw_f .nil) ?_
    refine v_assign rfl ?_
    refine v_nil ?_
    refine q_n ?_
    refine w_seq ?_
    refine w_seq ?_
    refine w_reg rfl ?_
    refine v_move rfl ?_
    refine v_binb lay85 rfl rfl rfl (fun h2 => ?_) (fun h2 => ?_)
    · skip
      refine v_nil ?_
      refine q_n ?_
      refine w_t rfl ?_
      refine w_seq ?_
      refine w_reg rfl ?_
      refine v_assign (c := .v (.int .i16 32767)) rfl ?_
      refine v_nil ?_
      refine q_n ?_
      refine w_ret (q_r ?_)
      refine r_r rfl ?_
      exact a_16 (countW_hi h2).symm
    · skip
      refine v_nil ?_
      refine q_n ?_
      refine w_f rfl ?_
      refine w_skip ?_
      refine q_n ?_
      refine w_seq ?_
      refine w_seq ?_
      refine w_reg rfl ?_
      refine v_move rfl ?_
      refine v_binb lay85 rfl rfl rfl (fun h3 => ?_) (fun h3 => ?_)
      · skip
        refine v_nil ?_
        refine q_n ?_
        refine w_t rfl ?_
        refine w_seq ?_
        refine w_reg rfl ?_
        refine v_assign (c := .v (.int .i16 (-32768))) rfl ?_
        refine v_nil ?_
        refine q_n ?_
        refine w_ret (q_r ?_)
        refine r_r rfl ?_
        exact a_16 (countW_lo h2 h3).symm
      · skip
        refine v_nil ?_
        refine q_n ?_
        refine w_f rfl ?_
        refine w_skip ?_
        refine q_n ?_
        refine w_seq ?_
        refine w_reg rfl ?_
        refine v_move rfl ?_
        obtain ⟨n, hn, hr, hcw⟩ := countW_in hp h2 h3
        refine v_conv_fi n lay85 lay23 rfl hn hr ?_
        refine v_assign rfl ?_
        refine v_nil ?_
        refine q_n ?_
        refine w_ret ?_
        refine r_r rfl ?_
        exact a_16 hcw.symm

theorem c63n : PureC X 63 [.c (.f .f32 none)] (.c (.v (.int .i16 0))) := by
  refine PureC.of_body (drawD_ok X) (fun _ _ => Go.Proofs.Try.call63 _ _) Go.Proofs.Try.func63 rfl (n := 16) rfl ?_
  refine w_seq ?_
  refine w_reg rfl ?_
  refine v_assign (c := .v (.int .i16 0)) rfl ?_
  refine v_nil ?_
  refine q_n ?_
  refine w_seq ?_
  refine w_seq ?_
  refine w_reg rfl ?_
  refine v_move rfl ?_
  refine v_move rfl ?_
  refine v_binb lay22 rfl rfl rfl (fun h1 => ?_) (fun h1 => ?_)
  · skip
    refine v_nil ?_
    refine q_n ?_
    refine w_t rfl ?_
    refine w_seq ?_
    refine w_reg rfl ?_
    refine v_assign (c := .v (.int .i16 0)) rfl ?_
    refine v_nil ?_
    refine q_n ?_
    refine w_ret (q_r ?_)
    refine r_r rfl ?_
    exact a_16 rfl
  · skip
    exact absurd h1 (by decide)

theorem c68s (b w p : Nat) (hx : okF .f32 (some b)) (hw : convF .f32 .f64 (some b) = some (some w)) (h105 : PureC X 105 [.c (.f .f64 (some w))] (.c (.f .f64 (some p)))) (hp : okF .f64 (some p)) : PureC X 68 [.c (.f .f32 (some b))] (.c (.v (.int .i16 (countW p)))) := by
  refine PureC.of_body (drawD_ok X) (fun _ _ => Go.Proofs.Try.call68 _ _) Go.Proofs.Try.func68 rfl (n := 19) rfl ?_
  refine w_seq ?_
  refine w_reg rfl ?_
  refine v_assign (c := .v (.int .i16 0)) rfl ?_
  refine v_nil ?_
  refine q_n ?_
  refine w_seq ?_
  refine w_reg rfl ?_
  refine v_move rfl ?_
  refine v_conv_ff _ lay22 lay85 rfl (hw) ?_
  refine v_call (h105) rfl rfl rfl (.cons vw_f .nil) ?_
  refine v_assign rfl ?_
  refine v_nil ?_
  refine q_n ?_
  refine w_seq ?_
  refine w_block ?_
  refine w_seq ?_
  refine w_reg rfl ?_
  refine v_move rfl ?_
  refine v_move rfl ?_
  refine v_binb lay85 rfl rfl rfl (fun h1 => ?_) (fun h1 => ?_)
  · skip
    exact absurd h1 (by rw [ford_self hp]; decide)
  · skip
    refine v_assign rfl ?_
    refine v_nil ?_
    refine q_n ?_
    refine w_f rfl ?_
    refine w_seq ?_
    refine w_reg rfl ?_
    refine v_move rfl ?_
    refine v_binb lay85 rfl rfl rfl (fun h2 => ?_) (fun h2 => ?_)
    · skip
      refine v_assign rfl ?_
      refine v_nil ?_
      refine q_n ?_
      refine w_t rfl ?_
      refine w_seq ?_
      refine w_reg rfl ?_
      refine v_assign (c := .v (.int .i16 32767)) rfl ?_
      refine v_nil ?_
      refine q_n ?_
      refine w_ret (q_br (q_r ?_))
      refine r_r rfl ?_
      exact a_16 (countW_hi h2).symm
    · skip
      refine v_assign rfl ?_
      refine v_nil ?_
      refine q_n ?_
      refine w_f rfl ?_
      refine w_seq ?_
      refine w_reg rfl ?_
      refine v_move rfl ?_
      refine v_binb lay85 rfl rfl rfl (fun h3 => ?_) (fun h3 => ?_)
      · skip
        refine v_assign rfl ?_
        refine v_nil ?_
        refine q_n ?_
        refine w_t rfl ?_
        refine w_seq ?_
        refine w_reg rfl ?_
        refine v_assign (c := .v (.int .i16 (-32768))) rfl ?_
        refine v_nil ?_
        refine q_n ?_
        refine w_ret (q_br (q_r ?_))
        refine r_r rfl ?_
        exact a_16 (countW_lo h2 h3).symm
      · skip
        refine v_assign rfl ?_
        refine v_nil ?_
        refine q_n ?_
        refine w_f rfl ?_
        refine w_skip ?_
        refine q_bn ?_
        refine q_n ?_
        refine w_seq ?_
        refine w_reg rfl ?_
        refine v_move rfl ?_
        obtain ⟨n, hn, hr, hcw⟩ := countW_in hp h2 h3
        refine v_conv_fi n lay85 lay23 rfl hn hr ?_
        refine v_assign rfl ?_
        refine v_nil ?_
        refine q_n ?_
        refine w_ret ?_
        refine r_r rfl ?_
        exact a_16 hcw.symm

theorem c68n : PureC X 68 [.c (.f .f32 none)] (.c (.v (.int .i16 0))) := by
  refine PureC.of_body (drawD_ok X) (fun _ _ => Go.Proofs.Try.call68 _ _) Go.Proofs.Try.func68 rfl (n := 19) rfl ?_
  refine w_seq ?_
  refine w_reg rfl ?_
  refine v_assign (c := .v (.int .i16 0)) rfl ?_
  refine v_nil ?_
  refine q_n ?_
  refine w_seq ?_
  refine w_reg rfl ?_
  refine v_move rfl ?_
  refine v_conv_ff _ lay22 lay85 rfl (rfl) ?_
  refine v_call (c105 okF_none) rfl rfl rfl (.cons vw_f .nil) ?_
  refine v_assign rfl ?_
  refine v_nil ?_
  refine q_n ?_
  refine w_seq ?_
  refine w_block ?_
  refine w_seq ?_
  refine w_reg rfl ?_
  refine v_move rfl ?_
  refine v_move rfl ?_
  refine v_binb lay85 rfl rfl rfl (fun h1 => ?_) (fun h1 => ?_)
  · skip
    refine v_assign rfl ?_
    refine v_nil ?_
    refine q_n ?_
    refine w_t rfl ?_
    refine w_seq ?_
    refine w_reg rfl ?_
    refine v_assign (c := .v (.int .i16 0)) rfl ?_
    refine v_nil ?_
    refine q_n ?_
    refine w_ret (q_br (q_r ?_))
    refine r_r rfl ?_
    exact a_16 rfl
  · skip
    exact absurd h1 (by decide)

theorem c63 (x : Option Nat) (hx : okF .f32 x) : PureC X 63 [.c (.f .f32 x)] (.c (.v (.int .i16 (countOf x)))) := by
  cases x with
  | none => exact c63n
  | some b =>
    obtain ⟨w, hw, hok⟩ := wide_some hx
    have hwd : wide (some b) = some w := by unfold wide; rw [hw]; rfl
    have hr : countOf (some b) = countW (FloatKind.f64.encode ((FloatKind.f64.decode w).integral .even)) := by unfold countOf; rw [hwd]; rfl
    rw [hr]
    exact c63s b w _ hx hw (c105 hok) (rte_ok hok)

theorem c68 (x : Option Nat) (hx : okF .f32 x) : PureC X 68 [.c (.f .f32 x)] (.c (.v (.int .i16 (countOf x)))) := by
  cases x with
  | none => exact c68n
  | some b =>
    obtain ⟨w, hw, hok⟩ := wide_some hx
    have hwd : wide (some b) = some w := by unfold wide; rw [hw]; rfl
    have hr : countOf (some b) = countW (FloatKind.f64.encode ((FloatKind.f64.decode w).integral .even)) := by unfold countOf; rw [hwd]; rfl
    rw [hr]
    exact c68s b w _ hx hw (c105 hok) (rte_ok hok)

theorem c69s (b : Nat) (hx : okF .f64 (some b)) : PureC X 69 [.c (.f .f64 (some b)), .c (.f .f64 (some b))] (cB (decide True)) := by
  refine PureC.of_body (drawD_ok X) (fun _ _ => Go.Proofs.Try.call69 _ _) Go.Proofs.Try.func69 rfl (n := 37) rfl ?_
  refine w_seq ?_
  refine w_reg rfl ?_
  refine v_assign (c := .v (.bool false)) rfl ?_
  refine v_nil ?_
  refine q_n ?_
  refine w_seq ?_
  refine w_seq ?_
  refine w_reg rfl ?_
  refine v_move rfl ?_
  refine v_move rfl ?_
  refine v_binb lay85 rfl rfl rfl (fun h1 => ?_) (fun h1 => ?_)
  · skip
    exact absurd h1 (by rw [ford_self hx]; decide)
  · skip
    refine v_move rfl ?_
    refine v_guard_on rfl rfl ?_
    refine v_move rfl ?_
    refine v_guard_on rfl rfl ?_
    refine v_move rfl ?_
    refine v_guard_on rfl rfl ?_
    refine v_binb lay85 rfl rfl rfl (fun h2 => ?_) (fun h2 => ?_)
    · skip
      exact absurd h2 (by rw [ford_self hx]; decide)
    · skip
      refine v_pick_f rfl rfl ?_
      refine v_nil ?_
      refine q_n ?_
      refine w_f rfl ?_
      refine w_skip ?_
      refine q_n ?_
      refine w_seq ?_
      refine w_seq ?_
      refine w_reg rfl ?_
      refine v_move rfl ?_
      refine v_binb lay85 rfl rfl rfl (fun h3 => ?_) (fun h3 => ?_)
      · skip
        refine v_move rfl ?_
        refine v_guard_on rfl rfl ?_
        refine v_move rfl ?_
        refine v_guard_on rfl rfl ?_
        refine v_binb lay85 rfl rfl rfl (fun h4 => ?_) (fun h4 => ?_)
        · skip
          refine v_pick_t rfl rfl ?_
          refine v_nil ?_
          refine q_n ?_
          refine w_t rfl ?_
          refine w_seq ?_
          refine w_reg rfl ?_
          refine v_move rfl ?_
          refine v_bin (c := .f _ _) lay85 rfl rfl rfl ?_
          refine v_binb lay85 rfl rfl rfl (fun h5 => ?_) (fun h5 => ?_)
          · skip
            refine v_move rfl ?_
            refine v_bin (c := .f _ _) lay85 rfl rfl rfl ?_
            refine v_binb lay85 rfl rfl rfl (fun h6 => ?_) (fun h6 => ?_)
            · skip
              refine v_bin (c := .v (.bool true)) lay4 rfl rfl rfl ?_
              refine v_assign rfl ?_
              refine v_nil ?_
              refine q_n ?_
              refine w_ret (q_r ?_)
              refine r_r rfl ?_
              exact a_b ⟨fun _ => trivial, fun _ => rfl⟩
            · skip
              exact absurd (h5.symm.trans h6) (by decide)
          · skip
            refine v_move rfl ?_
            refine v_bin (c := .f _ _) lay85 rfl rfl rfl ?_
            refine v_binb lay85 rfl rfl rfl (fun h7 => ?_) (fun h7 => ?_)
            · skip
              exact absurd (h7.symm.trans h5) (by decide)
            · skip
              refine v_bin (c := .v (.bool true)) lay4 rfl rfl rfl ?_
              refine v_assign rfl ?_
              refine v_nil ?_
              refine q_n ?_
              refine w_ret (q_r ?_)
              refine r_r rfl ?_
              exact a_b ⟨fun _ => trivial, fun _ => rfl⟩
        · skip
          exact absurd (h3.symm.trans h4) (by decide)
      · skip
        refine v_move rfl ?_
        refine v_guard_off rfl rfl rfl ?_
        refine v_guard_off rfl rfl rfl ?_
        refine v_pick_f (v := .v (.bool false)) rfl rfl ?_
        refine v_nil ?_
        refine q_n ?_
        refine w_f rfl ?_
        refine w_skip ?_
        refine q_n ?_
        refine w_seq ?_
        refine w_reg rfl ?_
        refine v_move rfl ?_
        refine v_move rfl ?_
        refine v_binb lay85 rfl rfl rfl (fun h8 => ?_) (fun h8 => ?_)
        · skip
          refine v_assign rfl ?_
          refine v_nil ?_
          refine q_n ?_
          refine w_ret ?_
          refine r_r rfl ?_
          exact a_b ⟨fun _ => trivial, fun _ => rfl⟩
        · skip
          exact absurd h8 (by rw [ford_self hx]; decide)

theorem c69n : PureC X 69 [.c (.f .f64 none), .c (.f .f64 none)] (cB (decide True)) := by
  refine PureC.of_body (drawD_ok X) (fun _ _ => Go.Proofs.Try.call69 _ _) Go.Proofs.Try.func69 rfl (n := 37) rfl ?_
  refine w_seq ?_
  refine w_reg rfl ?_
  refine v_assign (c := .v (.bool false)) rfl ?_
  refine v_nil ?_
  refine q_n ?_
  refine w_seq ?_
  refine w_seq ?_
  refine w_reg rfl ?_
  refine v_move rfl ?_
  refine v_move rfl ?_
  refine v_binb lay85 rfl rfl rfl (fun h1 => ?_) (fun h1 => ?_)
  · skip
    refine v_move rfl ?_
    refine v_guard_off rfl rfl rfl ?_
    refine v_guard_off rfl rfl rfl ?_
    refine v_guard_off rfl rfl rfl ?_
    refine v_pick_t (v := .v (.bool true)) rfl rfl ?_
    refine v_nil ?_
    refine q_n ?_
    refine w_t rfl ?_
    refine w_seq ?_
    refine w_reg rfl ?_
    refine v_move rfl ?_
    refine v_move rfl ?_
    refine v_binb lay85 rfl rfl rfl (fun h2 => ?_) (fun h2 => ?_)
    · skip
      refine v_move rfl ?_
      refine v_guard_on rfl rfl ?_
      refine v_move rfl ?_
      refine v_guard_on rfl rfl ?_
      refine v_move rfl ?_
      refine v_guard_on rfl rfl ?_
      refine v_binb lay85 rfl rfl rfl (fun h3 => ?_) (fun h3 => ?_)
      · skip
        refine v_pick_t rfl rfl ?_
        refine v_assign rfl ?_
        refine v_nil ?_
        refine q_n ?_
        refine w_ret (q_r ?_)
        refine r_r rfl ?_
        exact a_b ⟨fun _ => trivial, fun _ => rfl⟩
      · skip
        exact absurd h3 (by decide)
    · skip
      exact absurd h2 (by decide)
  · skip
    exact absurd h1 (by decide)

theorem c69 (x : Option Nat) (hx : okF .f64 x) : PureC X 69 [.c (.f .f64 x), .c (.f .f64 x)] (cB (decide True)) := by
  cases x with
  | none => exact c69n
  | some b => exact c69s b hx
theorem fop_ok {op : BinOp} {k : FloatKind} {x y : Option Nat} : okF k (fop op k x y) := fun c h => by
  cases x with
  | none => cases h
  | some a => cases y with
    | none => cases h
    | some b => exact fbin_num (op := op) (a := a) (b := b) (by cases op <;> first | exact h | cases h)
theorem okF_ite {p : Prop} [Decidable p] {x : Option Nat} (h : okF .f32 x) : okF .f32 (if p then x else some 0) := by
  split
  · exact h
  · exact okF_fOf 0
theorem okF_zero : okF .f32 (some 0) := okF_fOf 0

theorem c19 (cell count ticks : Int) (carry full : Option Nat) (hc : okF .f32 carry) (hf : okF .f32 full) : PureC X 19 [.agg (det cell carry count full ticks), .agg (det cell carry count full ticks)] (cB (decide True)) := by
  refine PureC.of_body (drawD_ok X) (fun _ _ => Go.Proofs.Try.call19 _ _) Go.Proofs.Try.func19 rfl (n := 36) rfl ?_
  refine w_seq ?_
  refine w_reg rfl ?_
  refine v_box (m := 0) (H' := [_]) lay28 rfl rfl rfl ?_
  refine v_box (m := 1) (H' := [_, _]) lay28 rfl rfl rfl ?_
  refine v_assign (c := .v (.bool false)) rfl ?_
  refine v_nil ?_
  refine q_n ?_
  refine w_seq ?_
  refine w_seq ?_
  refine w_reg rfl ?_
  refine v_fa_pt (off' := 0) lay28 rfl rfl rfl ?_
  refine v_load_pt (.c _) lay2 rfl rfl rfl rfl ?_
  refine v_fa_pt (off' := 0) lay28 rfl rfl rfl ?_
  refine v_load_pt (.c _) lay2 rfl rfl rfl rfl ?_
  refine v_neq lay2 rfl rfl (fun h1 => ?_) (fun h1 => ?_)
  · skip
    exact absurd rfl h1
  · skip
    refine v_nil ?_
    refine q_n ?_
    refine w_f rfl ?_
    refine w_skip ?_
    refine q_n ?_
    refine w_seq ?_
    refine w_seq ?_
    refine w_reg rfl ?_
    refine v_fa_pt (off' := 1) lay28 rfl rfl rfl ?_
    refine v_load_pt (.c _) lay22 rfl rfl rfl rfl ?_
    refine v_conv_ff _ lay22 lay85 rfl (convF_single (by assumption)) ?_
    refine v_fa_pt (off' := 1) lay28 rfl rfl rfl ?_
    refine v_load_pt (.c _) lay22 rfl rfl rfl rfl ?_
    refine v_conv_ff _ lay22 lay85 rfl (convF_single (by assumption)) ?_
    refine v_callb (c69 _ (wide_ok (by assumption))) rfl rfl (.cons vw_f (.cons vw_f .nil)) (fun h2 => ?_) (fun h2 => ?_)
    · skip
      refine v_not false rfl rfl ?_
      refine v_nil ?_
      refine q_n ?_
      refine w_f rfl ?_
      refine w_skip ?_
      refine q_n ?_
      refine w_seq ?_
      refine w_seq ?_
      refine w_reg rfl ?_
      refine v_fa_pt (off' := 2) lay28 rfl rfl rfl ?_
      refine v_load_pt (.c _) lay23 rfl rfl rfl rfl ?_
      refine v_fa_pt (off' := 2) lay28 rfl rfl rfl ?_
      refine v_load_pt (.c _) lay23 rfl rfl rfl rfl ?_
      refine v_neq lay23 rfl rfl (fun h3 => ?_) (fun h3 => ?_)
      · skip
        exact absurd rfl h3
      · skip
        refine v_nil ?_
        refine q_n ?_
        refine w_f rfl ?_
        refine w_skip ?_
        refine q_n ?_
        refine w_seq ?_
        refine w_seq ?_
        refine w_reg rfl ?_
        refine v_fa_pt (off' := 3) lay28 rfl rfl rfl ?_
        refine v_load_pt (.c _) lay22 rfl rfl rfl rfl ?_
        refine v_conv_ff _ lay22 lay85 rfl (convF_single (by assumption)) ?_
        refine v_fa_pt (off' := 3) lay28 rfl rfl rfl ?_
        refine v_load_pt (.c _) lay22 rfl rfl rfl rfl ?_
        refine v_conv_ff _ lay22 lay85 rfl (convF_single (by assumption)) ?_
        refine v_callb (c69 _ (wide_ok (by assumption))) rfl rfl (.cons vw_f (.cons vw_f .nil)) (fun h4 => ?_) (fun h4 => ?_)
        · skip
          refine v_not false rfl rfl ?_
          refine v_nil ?_
          refine q_n ?_
          refine w_f rfl ?_
          refine w_skip ?_
          refine q_n ?_
          refine w_seq ?_
          refine w_seq ?_
          refine w_reg rfl ?_
          refine v_fa_pt (off' := 4) lay28 rfl rfl rfl ?_
          refine v_load_pt (.c _) lay2 rfl rfl rfl rfl ?_
          refine v_fa_pt (off' := 4) lay28 rfl rfl rfl ?_
          refine v_load_pt (.c _) lay2 rfl rfl rfl rfl ?_
          refine v_neq lay2 rfl rfl (fun h5 => ?_) (fun h5 => ?_)
          · skip
            exact absurd rfl h5
          · skip
            refine v_nil ?_
            refine q_n ?_
            refine w_f rfl ?_
            refine w_skip ?_
            refine q_n ?_
            refine w_seq ?_
            refine w_reg rfl ?_
            refine v_assign (c := .v (.bool true)) rfl ?_
            refine v_nil ?_
            refine q_n ?_
            refine w_ret ?_
            refine r_r rfl ?_
            exact a_b ⟨fun _ => trivial, fun _ => rfl⟩
        · skip
          exact absurd trivial h4
    · skip
      exact absurd trivial h2

def ticksOf (n : Int) : Option Nat := some (FloatKind.f32.nearest n)
/-- How full a cell was, in thousandths. -/
def fullOf (full : Option Nat) (ticks : Int) : Int := if 0 < ticks then countOf (fop .mul .f32 (fOf .f32 1148846080) (fop .quo .f32 full (ticksOf ticks))) else 0
/-- What is read off. -/
def roV (cell count ticks turn : Int) (carry full : Option Nat) : V :=
  .tup [.agg (tal (if dOk cell carry count full ticks ∧ 0 ≤ turn ∧ turn ≤ 65535 then turn else 0) (if dOk cell carry count full ticks ∧ 0 ≤ turn ∧ turn ≤ 65535 then count else 0) (if dOk cell carry count full ticks ∧ 0 ≤ turn ∧ turn ≤ 65535 then fullOf full ticks else 0)),
    .agg (det (if dOk cell carry count full ticks ∧ 0 ≤ turn ∧ turn ≤ 65535 then cell else 0) (if dOk cell carry count full ticks ∧ 0 ≤ turn ∧ turn ≤ 65535 then carry else some 0) 0 (some 0) 0),
    cI (if dOk cell carry count full ticks then if 0 ≤ turn ∧ turn ≤ 65535 then 0 else 2 else 1)]
section
variable {cell count ticks turn : Int} {carry full : Option Nat}
theorem roV_1 (h1 : ¬ dOk cell carry count full ticks) : roV cell count ticks turn carry full = .tup [.agg (tal 0 0 0), .agg (det 0 (some 0) 0 (some 0) 0), cI 1] := by
  unfold roV
  have h : ¬ (dOk cell carry count full ticks ∧ 0 ≤ turn ∧ turn ≤ 65535) := fun h => h1 h.1
  simp only [if_neg h, if_neg h1]
theorem roV_2 (h1 : dOk cell carry count full ticks) (h2 : ¬ (0 ≤ turn ∧ turn ≤ 65535)) : roV cell count ticks turn carry full = .tup [.agg (tal 0 0 0), .agg (det 0 (some 0) 0 (some 0) 0), cI 2] := by
  unfold roV
  have h : ¬ (dOk cell carry count full ticks ∧ 0 ≤ turn ∧ turn ≤ 65535) := fun h => h2 h.2
  simp only [if_neg h, if_pos h1, if_neg h2]
theorem roV_0 (h1 : dOk cell carry count full ticks) (h2 : 0 ≤ turn ∧ turn ≤ 65535) {f : Int} (hf : fullOf full ticks = f) : roV cell count ticks turn carry full = .tup [.agg (tal turn count f), .agg (det cell carry 0 (some 0) 0), cI 0] := by
  subst hf
  unfold roV
  have h : dOk cell carry count full ticks ∧ 0 ≤ turn ∧ turn ≤ 65535 := ⟨h1, h2⟩
  simp only [if_pos h, if_pos h1, if_pos h2]
end
theorem full_pos {full : Option Nat} {ticks : Int} (h : 0 < ticks) : fullOf full ticks = countOf (fop .mul .f32 (fOf .f32 1148846080) (fop .quo .f32 full (ticksOf ticks))) := if_pos h
theorem full_no {full : Option Nat} {ticks : Int} (h : ¬ 0 < ticks) : fullOf full ticks = 0 := if_neg h
theorem a_ro {H : List Ob} {t c f cell count ticks e : Int} {carry full : Option Nat} {v : V} (h : v = .tup [.agg (tal t c f), .agg (det cell carry count full ticks), cI e]) : TrV H [] (.tup [.agg (tal t c f), .agg (det cell carry count full ticks), cI e]) v := by
  rw [h]
  exact a_tup (.cons (a_agg (.cons tr_v (.cons tr_v (.cons tr_v .nil)))) (.cons (a_agg (.cons tr_v (.cons tr_f (.cons tr_v (.cons tr_f (.cons tr_v .nil)))))) (.cons tr_v .nil)))

theorem c15 (cell count ticks turn : Int) (carry full : Option Nat) : PureC X 15 [.agg (det cell carry count full ticks), cI turn] (roV cell count ticks turn carry full) := by
  refine PureC.of_body (drawD_ok X) (fun _ _ => Go.Proofs.Try.call15 _ _) Go.Proofs.Try.func15 rfl (n := 39) rfl ?_
  refine w_seq ?_
  refine w_reg rfl ?_
  refine v_box (m := 0) (H' := [_]) lay28 rfl rfl rfl ?_
  refine v_alloc (m := 1) (H' := [_, ⟨[.v _, .v _, .v _], 27, true⟩]) lay27 rfl rfl ?_
  refine v_alloc (m := 2) (H' := [_, _, ⟨[.v _, .f _ _, .v _, .f _ _, .v _], 28, true⟩]) lay28 rfl rfl ?_
  refine v_assign (c := .v (.int .i64 0)) rfl ?_
  refine v_nil ?_
  refine q_n ?_
  refine w_seq ?_
  refine w_seq ?_
  refine w_reg rfl ?_
  refine v_callb (c61 _ _ _ _ _) rfl rfl (.cons (vw_pt rfl (.cons .v (.cons .f (.cons .v (.cons .f (.cons .v .nil)))))) .nil) (fun h1 => ?_) (fun h1 => ?_)
  · skip
    refine v_not false rfl rfl ?_
    refine v_nil ?_
    refine q_n ?_
    refine w_f rfl ?_
    refine w_skip ?_
    refine q_n ?_
    refine w_seq ?_
    refine w_seq ?_
    refine w_reg rfl ?_
    refine v_move rfl ?_
    refine v_callb (c62 _) rfl rfl (.cons vw_v .nil) (fun h2 => ?_) (fun h2 => ?_)
    · skip
      refine v_not false rfl rfl ?_
      refine v_nil ?_
      refine q_n ?_
      refine w_f rfl ?_
      refine w_skip ?_
      refine q_n ?_
      refine w_seq ?_
      refine w_reg rfl ?_
      refine v_move rfl ?_
      refine v_fa_pt (off' := 2) lay28 rfl rfl rfl ?_
      refine v_load_pt (.c _) lay23 rfl rfl rfl rfl ?_
      refine v_build [(0, 1), (1, 1), (2, 1)] [.v _, .v _, .v _] lay27 rfl rfl ?_
      refine v_alloc (m := 3) (H' := [_, _, _, ⟨[.v _, .v _, .v _], 27, true⟩]) lay27 rfl rfl ?_
      refine v_store (H' := [_, _, _, ⟨[_, _, _], 27, true⟩]) lay27 rfl rfl rfl rfl rfl rfl ?_
      refine v_nil ?_
      refine q_n ?_
      refine w_seq ?_
      refine w_seq ?_
      refine w_reg rfl ?_
      refine v_fa_pt (off' := 4) lay28 rfl rfl rfl ?_
      refine v_load_pt (.c _) lay2 rfl rfl rfl rfl ?_
      refine v_gtr lay2 rfl rfl (fun h3 => ?_) (fun h3 => ?_)
      · skip
        refine v_nil ?_
        refine q_n ?_
        refine w_t rfl ?_
        refine w_reg rfl ?_
        refine v_fa_pt (off' := 3) lay28 rfl rfl rfl ?_
        refine v_load_pt (.c _) lay22 rfl rfl rfl rfl ?_
        refine v_fa_pt (off' := 4) lay28 rfl rfl rfl ?_
        refine v_load_pt (.c _) lay2 rfl rfl rfl rfl ?_
        refine v_conv_if lay2 lay22 rfl ?_
        refine v_bin (c := .f _ _) lay22 rfl rfl rfl ?_
        refine v_bin (c := .f _ _) lay22 rfl rfl rfl ?_
        refine v_call (c63 _ fop_ok) rfl rfl rfl (.cons vw_f .nil) ?_
        refine v_fa_pt (off' := 2) lay27 rfl rfl rfl ?_
        refine v_store (H' := [_, _, _, ⟨[_, _, _], 27, true⟩]) lay23 rfl rfl rfl rfl rfl rfl ?_
        refine v_nil ?_
        refine q_n ?_
        refine w_seq ?_
        refine w_draw [0, 0, 2, 0, 8, 30, 1, 127, 255] [⟨0, 0, []⟩, ⟨1, 0, []⟩, ⟨2, 0, []⟩, ⟨3, 0, []⟩, ⟨4, 0, []⟩, ⟨5, 0, []⟩, ⟨6, 1, [2, 4]⟩, ⟨7, 1, []⟩, ⟨8, 0, []⟩] rfl rfl ?_
        refine d_q rfl rfl rfl rfl rfl ?_
        refine v_load_pt (.agg [_, _, _]) lay27 rfl rfl rfl rfl ?_
        refine v_nil ?_
        refine d_q rfl rfl rfl rfl rfl ?_
        refine v_fa_pt (off' := 0) lay28 rfl rfl rfl ?_
        refine v_nil ?_
        refine d_q rfl rfl rfl rfl rfl ?_
        refine v_load_pt (.c _) lay2 rfl rfl rfl rfl ?_
        refine v_nil ?_
        refine d_q rfl rfl rfl rfl rfl ?_
        refine v_fa_pt (off' := 1) lay28 rfl rfl rfl ?_
        refine v_nil ?_
        refine d_q rfl rfl rfl rfl rfl ?_
        refine v_load_pt (.c _) lay22 rfl rfl rfl rfl ?_
        refine v_nil ?_
        refine d_q rfl rfl rfl rfl rfl ?_
        refine v_build [(0, 1), (1, 1), (2, 1), (3, 1), (4, 1)] [.v _, .f _ _, .v _, .f _ _, .v _] lay28 rfl rfl ?_
        refine v_nil ?_
        refine d_e rfl rfl rfl ?_
        refine v_store (H' := [_, ⟨[_, _, _], 27, true⟩, _, _]) lay27 rfl rfl rfl rfl rfl rfl ?_
        refine v_nil ⟨⟨rfl, ⟨rfl, ⟨trivial, trivial⟩⟩⟩, ?_⟩
        refine d_e rfl rfl rfl ?_
        refine v_store (H' := [_, _, ⟨[_, _, _, _, _], 28, true⟩, _]) lay28 rfl rfl rfl rfl rfl rfl ?_
        refine v_nil ⟨again_nil, ?_⟩
        refine d_q rfl rfl rfl rfl rfl ?_
        refine v_assign (c := .v (.int .i64 0)) rfl ?_
        refine v_nil ?_
        refine d_nil ?_
        refine q_n ?_
        refine w_ret ?_
        refine r_r rfl ?_
        exact a_ro (roV_0 h1 (of_in h2) (full_pos h3))
      · skip
        refine v_nil ?_
        refine q_n ?_
        refine w_f rfl ?_
        refine w_skip ?_
        refine q_n ?_
        refine w_seq ?_
        refine w_draw [0, 0, 2, 0, 8, 30, 1, 127, 255] [⟨0, 0, []⟩, ⟨1, 0, []⟩, ⟨2, 0, []⟩, ⟨3, 0, []⟩, ⟨4, 0, []⟩, ⟨5, 0, []⟩, ⟨6, 1, [2, 4]⟩, ⟨7, 1, []⟩, ⟨8, 0, []⟩] rfl rfl ?_
        refine d_q rfl rfl rfl rfl rfl ?_
        refine v_load_pt (.agg [_, _, _]) lay27 rfl rfl rfl rfl ?_
        refine v_nil ?_
        refine d_q rfl rfl rfl rfl rfl ?_
        refine v_fa_pt (off' := 0) lay28 rfl rfl rfl ?_
        refine v_nil ?_
        refine d_q rfl rfl rfl rfl rfl ?_
        refine v_load_pt (.c _) lay2 rfl rfl rfl rfl ?_
        refine v_nil ?_
        refine d_q rfl rfl rfl rfl rfl ?_
        refine v_fa_pt (off' := 1) lay28 rfl rfl rfl ?_
        refine v_nil ?_
        refine d_q rfl rfl rfl rfl rfl ?_
        refine v_load_pt (.c _) lay22 rfl rfl rfl rfl ?_
        refine v_nil ?_
        refine d_q rfl rfl rfl rfl rfl ?_
        refine v_build [(0, 1), (1, 1), (2, 1), (3, 1), (4, 1)] [.v _, .f _ _, .v _, .f _ _, .v _] lay28 rfl rfl ?_
        refine v_nil ?_
        refine d_e rfl rfl rfl ?_
        refine v_store (H' := [_, ⟨[_, _, _], 27, true⟩, _, _]) lay27 rfl rfl rfl rfl rfl rfl ?_
        refine v_nil ⟨⟨rfl, ⟨rfl, ⟨trivial, trivial⟩⟩⟩, ?_⟩
        refine d_e rfl rfl rfl ?_
        refine v_store (H' := [_, _, ⟨[_, _, _, _, _], 28, true⟩, _]) lay28 rfl rfl rfl rfl rfl rfl ?_
        refine v_nil ⟨again_nil, ?_⟩
        refine d_q rfl rfl rfl rfl rfl ?_
        refine v_assign (c := .v (.int .i64 0)) rfl ?_
        refine v_nil ?_
        refine d_nil ?_
        refine q_n ?_
        refine w_ret ?_
        refine r_r rfl ?_
        exact a_ro (roV_0 h1 (of_in h2) (full_no h3))
    · skip
      refine v_not true rfl rfl ?_
      refine v_nil ?_
      refine q_n ?_
      refine w_t rfl ?_
      refine w_seq ?_
      refine w_reg rfl ?_
      refine v_build [(0, 1), (1, 1), (2, 1)] [.v _, .v _, .v _] lay27 rfl rfl ?_
      refine v_build [(0, 1), (1, 1), (2, 1), (3, 1), (4, 1)] [.v _, .f _ _, .v _, .f _ _, .v _] lay28 rfl rfl ?_
      refine v_store (H' := [_, ⟨[_, _, _], 27, true⟩, _]) lay27 rfl rfl rfl rfl rfl rfl ?_
      refine v_store (H' := [_, _, ⟨[_, _, _, _, _], 28, true⟩]) lay28 rfl rfl rfl rfl rfl rfl ?_
      refine v_assign (c := .v (.int .i64 2)) rfl ?_
      refine v_nil ?_
      refine q_n ?_
      refine w_ret (q_r ?_)
      refine r_r rfl ?_
      exact a_ro (roV_2 h1 h2)
  · skip
    refine v_not true rfl rfl ?_
    refine v_nil ?_
    refine q_n ?_
    refine w_t rfl ?_
    refine w_seq ?_
    refine w_reg rfl ?_
    refine v_build [(0, 1), (1, 1), (2, 1)] [.v _, .v _, .v _] lay27 rfl rfl ?_
    refine v_build [(0, 1), (1, 1), (2, 1), (3, 1), (4, 1)] [.v _, .f _ _, .v _, .f _ _, .v _] lay28 rfl rfl ?_
    refine v_store (H' := [_, ⟨[_, _, _], 27, true⟩, _]) lay27 rfl rfl rfl rfl rfl rfl ?_
    refine v_store (H' := [_, _, ⟨[_, _, _, _, _], 28, true⟩]) lay28 rfl rfl rfl rfl rfl rfl ?_
    refine v_assign (c := .v (.int .i64 1)) rfl ?_
    refine v_nil ?_
    refine q_n ?_
    refine w_ret (q_r ?_)
    refine r_r rfl ?_
    exact a_ro (roV_1 h1)

theorem c17 (cell count ticks turn : Int) (carry full : Option Nat) (hc : Sg carry) (hf : Sg full) : PureC X 17 [.agg (det cell carry count full ticks), cI turn] (roV cell count ticks turn carry full) := by
  refine PureC.of_body (drawD_ok X) (fun _ _ => Go.Proofs.Try.call17 _ _) Go.Proofs.Try.func17 rfl (n := 46) rfl ?_
  refine w_seq ?_
  refine w_reg rfl ?_
  refine v_box (m := 0) (H' := [_]) lay28 rfl rfl rfl ?_
  refine v_alloc (m := 1) (H' := [_, ⟨[.v _, .v _, .v _], 27, true⟩]) lay27 rfl rfl ?_
  refine v_alloc (m := 2) (H' := [_, _, ⟨[.v _, .f _ _, .v _, .f _ _, .v _], 28, true⟩]) lay28 rfl rfl ?_
  refine v_assign (c := .v (.int .i64 0)) rfl ?_
  refine v_nil ?_
  refine q_n ?_
  refine w_seq ?_
  refine w_seq ?_
  refine w_reg rfl ?_
  refine v_load_pt (.agg [_, _, _, _, _]) lay28 rfl rfl rfl rfl ?_
  refine v_callb (c66 _ _ _ _ _ (by assumption) (by assumption)) rfl rfl (.cons (vw_agg (.cons vw_v (.cons vw_f (.cons vw_v (.cons vw_f (.cons vw_v .nil)))))) .nil) (fun h1 => ?_) (fun h1 => ?_)
  · skip
    refine v_not false rfl rfl ?_
    refine v_call (c65 _ _) rfl rfl rfl (.cons vw_v (.cons vw_v .nil)) ?_
    refine v_move rfl ?_
    refine v_callb (c67 _ _ _) rfl rfl (.cons vw_v (.cons vw_v (.cons vw_v .nil))) (fun h2 => ?_) (fun h2 => ?_)
    · skip
      refine v_not false rfl rfl ?_
      refine v_call (c65 _ _) rfl rfl rfl (.cons vw_v (.cons vw_v .nil)) ?_
      refine v_lit (flat int [_, _]) (H' := [_, _, _, _]) lay118 lay2 rfl rfl ⟨by decide, by decide⟩ rfl rfl ?_
      refine v_call (c64 [_, _] (Nat.le_of_ble_eq_true rfl)) rfl rfl rfl (.cons (vw_mu int_sc int_len rfl rfl) .nil) ?_
      refine v_assign rfl ?_
      refine v_nil ?_
      refine q_n ?_
      refine w_seq ?_
      refine w_reg rfl ?_
      refine v_move rfl ?_
      refine v_neq lay2 rfl rfl (fun h3 => ?_) (fun h3 => ?_)
      · skip
        exact absurd (by decide) h3
      · skip
        refine v_nil ?_
        refine q_n ?_
        refine w_f rfl ?_
        refine w_skip ?_
        refine q_n ?_
        refine w_seq ?_
        refine w_reg rfl ?_
        refine v_move rfl ?_
        refine v_fa_pt (off' := 2) lay28 rfl rfl rfl ?_
        refine v_load_pt (.c _) lay23 rfl rfl rfl rfl ?_
        refine v_build [(0, 1), (1, 1), (2, 1)] [.v _, .v _, .v _] lay27 rfl rfl ?_
        refine v_alloc (m := 4) (H' := [_, _, _, _, ⟨[.v _, .v _, .v _], 27, true⟩]) lay27 rfl rfl ?_
        refine v_store (H' := [_, _, _, _, ⟨[_, _, _], 27, true⟩]) lay27 rfl rfl rfl rfl rfl rfl ?_
        refine v_nil ?_
        refine q_n ?_
        refine w_seq ?_
        refine w_seq ?_
        refine w_reg rfl ?_
        refine v_fa_pt (off' := 4) lay28 rfl rfl rfl ?_
        refine v_load_pt (.c _) lay2 rfl rfl rfl rfl ?_
        refine v_gtr lay2 rfl rfl (fun h4 => ?_) (fun h4 => ?_)
        · skip
          refine v_nil ?_
          refine q_n ?_
          refine w_t rfl ?_
          refine w_reg rfl ?_
          refine v_fa_pt (off' := 3) lay28 rfl rfl rfl ?_
          refine v_load_pt (.c _) lay22 rfl rfl rfl rfl ?_
          refine v_fa_pt (off' := 4) lay28 rfl rfl rfl ?_
          refine v_load_pt (.c _) lay2 rfl rfl rfl rfl ?_
          refine v_conv_if lay2 lay22 rfl ?_
          refine v_bin (c := .f _ _) lay22 rfl rfl rfl ?_
          refine v_bin (c := .f _ _) lay22 rfl rfl rfl ?_
          refine v_call (c68 _ fop_ok) rfl rfl rfl (.cons vw_f .nil) ?_
          refine v_fa_pt (off' := 2) lay27 rfl rfl rfl ?_
          refine v_store (H' := [_, _, _, _, ⟨[_, _, _], 27, true⟩]) lay23 rfl rfl rfl rfl rfl rfl ?_
          refine v_nil ?_
          refine q_n ?_
          refine w_seq ?_
          refine w_draw [0, 0, 2, 0, 8, 30, 1, 127, 255] [⟨0, 0, []⟩, ⟨1, 0, []⟩, ⟨2, 0, []⟩, ⟨3, 0, []⟩, ⟨4, 0, []⟩, ⟨5, 0, []⟩, ⟨6, 1, [2, 4]⟩, ⟨7, 1, []⟩, ⟨8, 0, []⟩] rfl rfl ?_
          refine d_q rfl rfl rfl rfl rfl ?_
          refine v_load_pt (.agg [_, _, _]) lay27 rfl rfl rfl rfl ?_
          refine v_nil ?_
          refine d_q rfl rfl rfl rfl rfl ?_
          refine v_fa_pt (off' := 0) lay28 rfl rfl rfl ?_
          refine v_nil ?_
          refine d_q rfl rfl rfl rfl rfl ?_
          refine v_load_pt (.c _) lay2 rfl rfl rfl rfl ?_
          refine v_nil ?_
          refine d_q rfl rfl rfl rfl rfl ?_
          refine v_fa_pt (off' := 1) lay28 rfl rfl rfl ?_
          refine v_nil ?_
          refine d_q rfl rfl rfl rfl rfl ?_
          refine v_load_pt (.c _) lay22 rfl rfl rfl rfl ?_
          refine v_nil ?_
          refine d_q rfl rfl rfl rfl rfl ?_
          refine v_build [(0, 1), (1, 1), (2, 1), (3, 1), (4, 1)] [.v _, .f _ _, .v _, .f _ _, .v _] lay28 rfl rfl ?_
          refine v_nil ?_
          refine d_e rfl rfl rfl ?_
          refine v_store (H' := [_, ⟨[_, _, _], 27, true⟩, _, _, _]) lay27 rfl rfl rfl rfl rfl rfl ?_
          refine v_nil ⟨⟨rfl, ⟨rfl, ⟨trivial, trivial⟩⟩⟩, ?_⟩
          refine d_e rfl rfl rfl ?_
          refine v_store (H' := [_, _, ⟨[_, _, _, _, _], 28, true⟩, _, _]) lay28 rfl rfl rfl rfl rfl rfl ?_
          refine v_nil ⟨again_nil, ?_⟩
          refine d_q rfl rfl rfl rfl rfl ?_
          refine v_assign (c := .v (.int .i64 0)) rfl ?_
          refine v_nil ?_
          refine d_nil ?_
          refine q_n ?_
          refine w_ret ?_
          refine r_r rfl ?_
          exact a_ro (roV_0 h1 (of_in h2) (full_pos h4))
        · skip
          refine v_nil ?_
          refine q_n ?_
          refine w_f rfl ?_
          refine w_skip ?_
          refine q_n ?_
          refine w_seq ?_
          refine w_draw [0, 0, 2, 0, 8, 30, 1, 127, 255] [⟨0, 0, []⟩, ⟨1, 0, []⟩, ⟨2, 0, []⟩, ⟨3, 0, []⟩, ⟨4, 0, []⟩, ⟨5, 0, []⟩, ⟨6, 1, [2, 4]⟩, ⟨7, 1, []⟩, ⟨8, 0, []⟩] rfl rfl ?_
          refine d_q rfl rfl rfl rfl rfl ?_
          refine v_load_pt (.agg [_, _, _]) lay27 rfl rfl rfl rfl ?_
          refine v_nil ?_
          refine d_q rfl rfl rfl rfl rfl ?_
          refine v_fa_pt (off' := 0) lay28 rfl rfl rfl ?_
          refine v_nil ?_
          refine d_q rfl rfl rfl rfl rfl ?_
          refine v_load_pt (.c _) lay2 rfl rfl rfl rfl ?_
          refine v_nil ?_
          refine d_q rfl rfl rfl rfl rfl ?_
          refine v_fa_pt (off' := 1) lay28 rfl rfl rfl ?_
          refine v_nil ?_
          refine d_q rfl rfl rfl rfl rfl ?_
          refine v_load_pt (.c _) lay22 rfl rfl rfl rfl ?_
          refine v_nil ?_
          refine d_q rfl rfl rfl rfl rfl ?_
          refine v_build [(0, 1), (1, 1), (2, 1), (3, 1), (4, 1)] [.v _, .f _ _, .v _, .f _ _, .v _] lay28 rfl rfl ?_
          refine v_nil ?_
          refine d_e rfl rfl rfl ?_
          refine v_store (H' := [_, ⟨[_, _, _], 27, true⟩, _, _, _]) lay27 rfl rfl rfl rfl rfl rfl ?_
          refine v_nil ⟨⟨rfl, ⟨rfl, ⟨trivial, trivial⟩⟩⟩, ?_⟩
          refine d_e rfl rfl rfl ?_
          refine v_store (H' := [_, _, ⟨[_, _, _, _, _], 28, true⟩, _, _]) lay28 rfl rfl rfl rfl rfl rfl ?_
          refine v_nil ⟨again_nil, ?_⟩
          refine d_q rfl rfl rfl rfl rfl ?_
          refine v_assign (c := .v (.int .i64 0)) rfl ?_
          refine v_nil ?_
          refine d_nil ?_
          refine q_n ?_
          refine w_ret ?_
          refine r_r rfl ?_
          exact a_ro (roV_0 h1 (of_in h2) (full_no h4))
    · skip
      refine v_not true rfl rfl ?_
      refine v_call (c65 _ _) rfl rfl rfl (.cons vw_v (.cons vw_v .nil)) ?_
      refine v_lit (flat int [_, _]) (H' := [_, _, _, _]) lay118 lay2 rfl rfl ⟨by decide, by decide⟩ rfl rfl ?_
      refine v_call (c64 [_, _] (Nat.le_of_ble_eq_true rfl)) rfl rfl rfl (.cons (vw_mu int_sc int_len rfl rfl) .nil) ?_
      refine v_assign rfl ?_
      refine v_nil ?_
      refine q_n ?_
      refine w_seq ?_
      refine w_reg rfl ?_
      refine v_move rfl ?_
      refine v_neq lay2 rfl rfl (fun h5 => ?_) (fun h5 => ?_)
      · skip
        refine v_nil ?_
        refine q_n ?_
        refine w_t rfl ?_
        refine w_seq ?_
        refine w_reg rfl ?_
        refine v_build [(0, 1), (1, 1), (2, 1)] [.v _, .v _, .v _] lay27 rfl rfl ?_
        refine v_build [(0, 1), (1, 1), (2, 1), (3, 1), (4, 1)] [.v _, .f _ _, .v _, .f _ _, .v _] lay28 rfl rfl ?_
        refine v_move rfl ?_
        refine v_store (H' := [_, ⟨[_, _, _], 27, true⟩, _, _]) lay27 rfl rfl rfl rfl rfl rfl ?_
        refine v_store (H' := [_, _, ⟨[_, _, _, _, _], 28, true⟩, _]) lay28 rfl rfl rfl rfl rfl rfl ?_
        refine v_assign rfl ?_
        refine v_nil ?_
        refine q_n ?_
        refine w_ret (q_r ?_)
        refine r_r rfl ?_
        exact a_ro (roV_2 h1 h2)
      · skip
        exact absurd h5 (by decide)
  · skip
    refine v_not true rfl rfl ?_
    refine v_call (c65 _ _) rfl rfl rfl (.cons vw_v (.cons vw_v .nil)) ?_
    refine v_move rfl ?_
    refine v_callb (c67 _ _ _) rfl rfl (.cons vw_v (.cons vw_v (.cons vw_v .nil))) (fun h6 => ?_) (fun h6 => ?_)
    · skip
      refine v_not false rfl rfl ?_
      refine v_call (c65 _ _) rfl rfl rfl (.cons vw_v (.cons vw_v .nil)) ?_
      refine v_lit (flat int [_, _]) (H' := [_, _, _, _]) lay118 lay2 rfl rfl ⟨by decide, by decide⟩ rfl rfl ?_
      refine v_call (c64 [_, _] (Nat.le_of_ble_eq_true rfl)) rfl rfl rfl (.cons (vw_mu int_sc int_len rfl rfl) .nil) ?_
      refine v_assign rfl ?_
      refine v_nil ?_
      refine q_n ?_
      refine w_seq ?_
      refine w_reg rfl ?_
      refine v_move rfl ?_
      refine v_neq lay2 rfl rfl (fun h7 => ?_) (fun h7 => ?_)
      · skip
        refine v_nil ?_
        refine q_n ?_
        refine w_t rfl ?_
        refine w_seq ?_
        refine w_reg rfl ?_
        refine v_build [(0, 1), (1, 1), (2, 1)] [.v _, .v _, .v _] lay27 rfl rfl ?_
        refine v_build [(0, 1), (1, 1), (2, 1), (3, 1), (4, 1)] [.v _, .f _ _, .v _, .f _ _, .v _] lay28 rfl rfl ?_
        refine v_move rfl ?_
        refine v_store (H' := [_, ⟨[_, _, _], 27, true⟩, _, _]) lay27 rfl rfl rfl rfl rfl rfl ?_
        refine v_store (H' := [_, _, ⟨[_, _, _, _, _], 28, true⟩, _]) lay28 rfl rfl rfl rfl rfl rfl ?_
        refine v_assign rfl ?_
        refine v_nil ?_
        refine q_n ?_
        refine w_ret (q_r ?_)
        refine r_r rfl ?_
        exact a_ro (roV_1 h1)
      · skip
        exact absurd h7 (by decide)
    · skip
      refine v_not true rfl rfl ?_
      refine v_call (c65 _ _) rfl rfl rfl (.cons vw_v (.cons vw_v .nil)) ?_
      refine v_lit (flat int [_, _]) (H' := [_, _, _, _]) lay118 lay2 rfl rfl ⟨by decide, by decide⟩ rfl rfl ?_
      refine v_call (c64 [_, _] (Nat.le_of_ble_eq_true rfl)) rfl rfl rfl (.cons (vw_mu int_sc int_len rfl rfl) .nil) ?_
      refine v_assign rfl ?_
      refine v_nil ?_
      refine q_n ?_
      refine w_seq ?_
      refine w_reg rfl ?_
      refine v_move rfl ?_
      refine v_neq lay2 rfl rfl (fun h8 => ?_) (fun h8 => ?_)
      · skip
        refine v_nil ?_
        refine q_n ?_
        refine w_t rfl ?_
        refine w_seq ?_
        refine w_reg rfl ?_
        refine v_build [(0, 1), (1, 1), (2, 1)] [.v _, .v _, .v _] lay27 rfl rfl ?_
        refine v_build [(0, 1), (1, 1), (2, 1), (3, 1), (4, 1)] [.v _, .f _ _, .v _, .f _ _, .v _] lay28 rfl rfl ?_
        refine v_move rfl ?_
        refine v_store (H' := [_, ⟨[_, _, _], 27, true⟩, _, _]) lay27 rfl rfl rfl rfl rfl rfl ?_
        refine v_store (H' := [_, _, ⟨[_, _, _, _, _], 28, true⟩, _]) lay28 rfl rfl rfl rfl rfl rfl ?_
        refine v_assign rfl ?_
        refine v_nil ?_
        refine q_n ?_
        refine w_ret (q_r ?_)
        refine r_r rfl ?_
        exact a_ro (roV_1 h1)
      · skip
        exact absurd h8 (by decide)

theorem c3 (cell count ticks turn : Int) (carry full : Option Nat) (hc : Sg carry) (hf : Sg full) (hok : okF .f32 carry) : PureC X 3 [.agg (det cell carry count full ticks), cI turn] (cB true) := by
  refine PureC.of_body (drawD_ok X) (fun _ _ => Go.Proofs.Try.call3 _ _) Go.Proofs.Try.func3 rfl (n := 42) rfl ?_
  refine w_seq ?_
  refine w_reg rfl ?_
  refine v_box (m := 0) (H' := [_]) lay25 rfl rfl rfl ?_
  refine v_assign (c := .v (.bool false)) rfl ?_
  refine v_nil ?_
  refine q_n ?_
  refine w_seq ?_
  refine w_reg rfl ?_
  refine v_load_pt (.agg [_, _, _, _, _]) lay25 rfl rfl rfl rfl ?_
  refine v_call (c16 _ _ _ _ _) rfl rfl rfl (.cons (vw_agg (.cons vw_v (.cons vw_f (.cons vw_v (.cons vw_f (.cons vw_v .nil)))))) .nil) ?_
  refine v_move rfl ?_
  refine v_call (c15 _ _ _ _ _ _) rfl rfl rfl (.cons (vw_agg (.cons vw_v (.cons vw_f (.cons vw_v (.cons vw_f (.cons vw_v .nil)))))) (.cons vw_v .nil)) ?_
  refine v_move_t rfl ?_
  refine v_extract_a rfl rfl ?_
  refine v_extract_a rfl rfl ?_
  refine v_extract_c rfl rfl ?_
  refine v_alloc (m := 1) (H' := [_, ⟨[.v _, .v _, .v _], 27, true⟩]) lay27 rfl rfl ?_
  refine v_alloc (m := 2) (H' := [_, _, ⟨[.v _, .f _ _, .v _, .f _ _, .v _], 28, true⟩]) lay28 rfl rfl ?_
  refine v_store (H' := [_, ⟨[_, _, _], 27, true⟩, _]) lay27 rfl rfl rfl rfl rfl rfl ?_
  refine v_store (H' := [_, _, ⟨[_, _, _, _, _], 28, true⟩]) lay28 rfl rfl rfl rfl rfl rfl ?_
  refine v_assign rfl ?_
  refine v_nil ?_
  refine q_n ?_
  refine w_seq ?_
  refine w_reg rfl ?_
  refine v_load_pt (.agg [_, _, _, _, _]) lay25 rfl rfl rfl rfl ?_
  refine v_call (c16 _ _ _ _ _) rfl rfl rfl (.cons (vw_agg (.cons vw_v (.cons vw_f (.cons vw_v (.cons vw_f (.cons vw_v .nil)))))) .nil) ?_
  refine v_move rfl ?_
  refine v_call (c17 _ _ _ _ _ _ (by assumption) (by assumption)) rfl rfl rfl (.cons (vw_agg (.cons vw_v (.cons vw_f (.cons vw_v (.cons vw_f (.cons vw_v .nil)))))) (.cons vw_v .nil)) ?_
  refine v_move_t rfl ?_
  refine v_extract_a rfl rfl ?_
  refine v_extract_a rfl rfl ?_
  refine v_extract_c rfl rfl ?_
  refine v_alloc (m := 3) (H' := [_, _, _, ⟨[.v _, .v _, .v _], 27, true⟩]) lay27 rfl rfl ?_
  refine v_alloc (m := 4) (H' := [_, _, _, _, ⟨[.v _, .f _ _, .v _, .f _ _, .v _], 28, true⟩]) lay28 rfl rfl ?_
  refine v_store (H' := [_, _, _, ⟨[_, _, _], 27, true⟩, _]) lay27 rfl rfl rfl rfl rfl rfl ?_
  refine v_store (H' := [_, _, _, _, ⟨[_, _, _, _, _], 28, true⟩]) lay28 rfl rfl rfl rfl rfl rfl ?_
  refine v_assign rfl ?_
  refine v_nil ?_
  refine q_n ?_
  refine w_seq ?_
  refine w_seq ?_
  refine w_reg rfl ?_
  refine v_load_pt (.agg [_, _, _]) lay27 rfl rfl rfl rfl ?_
  refine v_load_pt (.agg [_, _, _]) lay27 rfl rfl rfl rfl ?_
  refine v_callb (c18 _ _ _ _ _ _) rfl rfl (.cons (vw_agg (.cons vw_v (.cons vw_v (.cons vw_v .nil)))) (.cons (vw_agg (.cons vw_v (.cons vw_v (.cons vw_v .nil)))) .nil)) (fun h1 => ?_) (fun h1 => ?_)
  · skip
    refine v_not false rfl rfl ?_
    refine v_move rfl ?_
    refine v_guard_on rfl rfl ?_
    refine v_load_pt (.agg [_, _, _, _, _]) lay28 rfl rfl rfl rfl ?_
    refine v_guard_on rfl rfl ?_
    refine v_load_pt (.agg [_, _, _, _, _]) lay28 rfl rfl rfl rfl ?_
    refine v_guard_on rfl rfl ?_
    refine v_callb (c19 _ _ _ _ _ (okF_ite (by assumption)) okF_zero) rfl rfl (.cons (vw_agg (.cons vw_v (.cons vw_f (.cons vw_v (.cons vw_f (.cons vw_v .nil)))))) (.cons (vw_agg (.cons vw_v (.cons vw_f (.cons vw_v (.cons vw_f (.cons vw_v .nil)))))) .nil)) (fun h2 => ?_) (fun h2 => ?_)
    · skip
      refine v_guard_on rfl rfl ?_
      refine v_not false rfl rfl ?_
      refine v_pick_f rfl rfl ?_
      refine v_move rfl ?_
      refine v_guard_on rfl rfl ?_
      refine v_move rfl ?_
      refine v_guard_on rfl rfl ?_
      refine v_move rfl ?_
      refine v_guard_on rfl rfl ?_
      refine v_neq lay2 rfl rfl (fun h3 => ?_) (fun h3 => ?_)
      · skip
        exact absurd rfl h3
      · skip
        refine v_pick_f rfl rfl ?_
        refine v_nil ?_
        refine q_n ?_
        refine w_f rfl ?_
        refine w_skip ?_
        refine q_n ?_
        refine w_seq ?_
        refine w_reg rfl ?_
        refine v_assign (c := .v (.bool true)) rfl ?_
        refine v_nil ?_
        refine q_n ?_
        refine w_ret ?_
        refine r_r rfl ?_
        exact tr_v
    · skip
      exact absurd trivial h2
  · skip
    exact absurd ⟨rfl, rfl, rfl⟩ h1
end Go.VL
namespace Go.VL
open Go.RowKit
set_option maxRecDepth 20000
abbrev Tal := Int × Int × Int
def te (t : Tal) : List C := tal t.1 t.2.1 t.2.2
theorem te_len (t : Tal) : (te t).length = 3 := rfl
theorem te_sc (t : Tal) : (te t).all sc = true := rfl
abbrev tals (o : Bool) (xs : List Tal) : C := .sl o xs.length 3 (flat te xs)
def szr (n : Nat) (l : Int) : Int := if l - n < 0 then -1 else l - n
theorem szr_in {n : Nat} {l : Int} (h : ¬ szr n l < 0) : szr n l = l - n ∧ 0 ≤ l - n := by
  unfold szr at *
  split at h
  · exact absurd (by decide) h
  · rename_i h1
    rw [if_neg h1]; exact ⟨rfl, by omega⟩
theorem tal_ext {a b : Tal} (h : a.1 = b.1 ∧ a.2.1 = b.2.1 ∧ a.2.2 = b.2.2) : a = b := by
  obtain ⟨a1, a2, a3⟩ := a
  obtain ⟨b1, b2, b3⟩ := b
  obtain ⟨h1, h2, h3⟩ := h
  simp only at h1 h2 h3
  rw [h1, h2, h3]
/-- Numbers of sixteen bits. -/
def T16 (xs : List Tal) : Prop := ∀ t ∈ xs, (-32768 ≤ t.2.1 ∧ t.2.1 ≤ 32767) ∧ -32768 ≤ t.2.2 ∧ t.2.2 ≤ 32767
/-- A tally that is right where it stands. -/
def okAt (xs : List Tal) (i : Nat) (hi : i < xs.length) : Prop := (0 ≤ xs[i].1 ∧ xs[i].1 ≤ 65535) ∧ 0 ≤ xs[i].2.1 ∧ 0 ≤ xs[i].2.2 ∧ xs[i].2.2 ≤ 1000 ∧ ∀ q (hq : q < xs.length), i = q + 1 → xs[q].1 < xs[i].1
/-- A list of tallies that is valid. -/
def okL (xs : List Tal) : Prop := xs.length ≤ 96 ∧ ∀ i (hi : i < xs.length), okAt xs i hi
theorem tr_fn0 {H : List Ob} {gg : List (Option Nat)} {g : FuncId} : TrV H gg (.c (.fn g [])) (.c (.fn g [])) := .c (.fn rfl (fun j c c' h => by simp at h))
def cmp3 (a b : Int) : Int := if a < b then -1 else if b < a then 1 else 0
theorem cmp3_lt {a b : Int} : cmp3 a b < 0 ↔ a < b := by
  unfold cmp3
  split
  · simp [*]
  · split <;> simp [*]
theorem cmp3_eq {a b : Int} : cmp3 a b = 0 ↔ a = b := by
  unfold cmp3
  split
  · simp; omega
  · split <;> simp <;> omega
/-- The first tally of a turn: where it stands, or -1. -/
def fnd (ys : List Tal) (t : Int) : Int := match ys.findIdx? (fun y => decide (y.1 = t)) with
  | some i => (i : Int)
  | none => -1
theorem fnd_none {xs : List Tal} {t : Int} (h : ∀ x ∈ xs, ¬ x.1 = t) : fnd xs t = -1 := by
  unfold fnd
  rw [List.findIdx?_eq_none_iff.2 (by simpa using h)]
theorem fnd_hit {xs : List Tal} {t : Int} {i : Nat} (hi : i < xs.length) (h : ∀ x ∈ xs.take i, ¬ x.1 = t) (h1 : xs[i].1 = t) : fnd xs t = i := by
  unfold fnd
  rw [List.findIdx?_eq_some_iff_getElem.2 ⟨hi, by simpa using h1, fun j hj => by
    simpa using h xs[j] (by rw [List.mem_take_iff_getElem]; exact ⟨j, by omega, rfl⟩)⟩]
theorem fnd_ge {xs : List Tal} {t : Int} : 0 ≤ fnd xs t ↔ ∃ x ∈ xs, x.1 = t := by
  unfold fnd
  cases h : xs.findIdx? (fun x => decide (x.1 = t)) with
  | none =>
    have := List.findIdx?_eq_none_iff.1 h
    simp only [decide_eq_false_iff_not] at this
    constructor
    · intro h; exact absurd (show (0 : Int) ≤ -1 from h) (by decide)
    · rintro ⟨x, h1, h2⟩; exact absurd h2 (this x h1)
  | some i =>
    obtain ⟨h1, h2, -⟩ := List.findIdx?_eq_some_iff_getElem.1 h
    exact ⟨fun _ => ⟨_, List.getElem_mem h1, by simpa using h2⟩, fun _ => by simp only []; omega⟩
theorem fnd_at {xs : List Tal} {t : Int} (h : 0 ≤ fnd xs t) : ∃ (q : Nat) (hq : q < xs.length), fnd xs t = q ∧ xs[q].1 = t := by
  unfold fnd at h ⊢
  cases hf : xs.findIdx? (fun x => decide (x.1 = t)) with
  | none => rw [hf] at h; exact absurd h (by decide)
  | some i =>
    obtain ⟨h1, h2, -⟩ := List.findIdx?_eq_some_iff_getElem.1 hf
    exact ⟨i, h1, rfl, by simpa using h2⟩
theorem fnd_lt {xs : List Tal} {t : Int} (h : 0 ≤ fnd xs t) : fnd xs t < xs.length := by
  obtain ⟨q, hq, he, -⟩ := fnd_at h
  omega
/-- Turns that grow. -/
def srt (ys : List Tal) : Prop := ∀ (a b : Nat) (hb : b < ys.length) (hab : a < b), (ys[a]'(by omega)).1 < ys[b].1
theorem srt_lt {ys : List Tal} (hs : srt ys) {q : Nat} (hq : q < ys.length) {t : Int} (h : ys[q].1 < t) {a : Nat} (ha : a ≤ q) : (ys[a]'(by omega)).1 < t := by
  rcases Nat.lt_or_eq_of_le ha with h1 | rfl
  · have := hs a q hq h1; omega
  · exact h
theorem srt_ge {ys : List Tal} (hs : srt ys) {q : Nat} (hq : q < ys.length) {t : Int} (h : ¬ ys[q].1 < t) {a : Nat} (ha : a < ys.length) (hqa : q ≤ a) : t ≤ ys[a].1 := by
  rcases Nat.lt_or_eq_of_le hqa with h1 | rfl
  · have := hs q a ha h1; omega
  · omega
theorem srt_no {ys : List Tal} (hs : srt ys) {q : Nat} (hq : q < ys.length) {t : Int} (h1 : ∀ a (ha : a < ys.length), a < q → ys[a].1 < t) (h2 : t ≤ ys[q].1) (h3 : ¬ ys[q].1 = t) : ¬ ∃ y ∈ ys, y.1 = t := fun ⟨y, hy, he⟩ => by
  obtain ⟨a, ha, rfl⟩ := List.getElem_of_mem hy
  rcases Nat.lt_trichotomy a q with h | rfl | h
  · have := h1 a ha h; omega
  · exact h3 he
  · have := hs q a ha h; omega
def lowb (ys : List Tal) (t : Int) : Nat := ys.findIdx (fun y => decide (t ≤ y.1))
theorem lowb_eq {ys : List Tal} {t : Int} {i : Nat} (hi : i ≤ ys.length) (h1 : ∀ a (ha : a < ys.length), a < i → ys[a].1 < t) (h2 : ∀ ha : i < ys.length, t ≤ ys[i].1) : lowb ys t = i := by
  unfold lowb
  rcases Nat.lt_or_eq_of_le hi with h | rfl
  · exact (List.findIdx_eq h).2 ⟨by simpa using h2 h, fun j hj => by simpa using h1 j (by omega) hj⟩
  · refine List.findIdx_eq_length.2 fun y hy => ?_
    obtain ⟨a, ha, rfl⟩ := List.getElem_of_mem hy
    simpa using h1 a ha ha
theorem lowb_fnd {ys : List Tal} {t : Int} (hs : srt ys) (h : 0 ≤ fnd ys t) : ((lowb ys t : Nat) : Int) = fnd ys t := by
  obtain ⟨q, hq, he, ht⟩ := fnd_at h
  rw [lowb_eq (t := t) (Nat.le_of_lt hq) (fun a ha hlt => by have := hs a q hq hlt; omega) (fun _ => by omega), he]
noncomputable instance (xs : List Tal) : Decidable (okL xs) := Classical.propDecidable _
theorem ok_step {xs : List Tal} {i : Nat} {hi : i < xs.length} (hp : ∀ j (hj : j < xs.length), j < i → okAt xs j hj) (h : okAt xs i hi) : ∀ j (hj : j < xs.length), j < i + 1 → okAt xs j hj := fun j hj hlt => by
  by_cases he : j = i
  · subst he; exact h
  · exact hp j hj (by omega)
theorem c20 (xs : List Tal) (l : Int) (hl : 0 ≤ l ∧ l ≤ 2 ^ 20) (hx : xs.length ≤ maxLen) : PureC X 20 [.c (tals false xs), cI l] (cI (szr xs.length l)) := by
  refine PureC.of_body (drawD_ok X) (fun _ _ => Go.Proofs.Try.call20 _ _) Go.Proofs.Try.func20 rfl (n := 12) rfl ?_
  refine w_seq ?_
  refine w_reg rfl ?_
  refine v_assign (c := .v (.int .i64 0)) rfl ?_
  refine v_nil ?_
  refine q_n ?_
  refine w_seq ?_
  refine w_reg rfl ?_
  refine v_move rfl ?_
  refine v_move rfl ?_
  refine v_len_sl lay35 rfl ?_
  refine v_sub lay3 rfl rfl (i64r (by unfold maxLen at hx; omega)) ?_
  refine v_assign rfl ?_
  refine v_nil ?_
  refine q_n ?_
  refine w_seq ?_
  refine w_seq ?_
  refine w_reg rfl ?_
  refine v_move rfl ?_
  refine v_lss lay3 rfl rfl (fun h1 => ?_) (fun h1 => ?_)
  · skip
    refine v_nil ?_
    refine q_n ?_
    refine w_t rfl ?_
    refine w_seq ?_
    refine w_reg rfl ?_
    refine v_assign (c := .v (.int .i64 (-1))) rfl ?_
    refine v_nil ?_
    refine q_n ?_
    refine w_ret (q_r ?_)
    refine r_r rfl ?_
    exact a_i (by unfold szr; rw [if_pos h1])
  · skip
    refine v_nil ?_
    refine q_n ?_
    refine w_f rfl ?_
    refine w_skip ?_
    refine q_n ?_
    refine w_seq ?_
    refine w_reg rfl ?_
    refine v_move rfl ?_
    refine v_assign rfl ?_
    refine v_nil ?_
    refine q_n ?_
    refine w_ret ?_
    refine r_r rfl ?_
    exact a_i (by unfold szr; rw [if_neg h1])

theorem c72 (t c f : Int) : PureC X 72 [.agg (tal t c f)] (.agg (tal t c f)) := by
  refine PureC.of_body (drawD_ok X) (fun _ _ => Go.Proofs.Try.call72 _ _) Go.Proofs.Try.func72 rfl (n := 14) rfl ?_
  refine w_seq ?_
  refine w_reg rfl ?_
  refine v_box (m := 0) (H' := [_]) lay88 rfl rfl rfl ?_
  refine v_alloc (m := 1) (H' := [_, ⟨[.v _, .v _, .v _], 27, true⟩]) lay27 rfl rfl ?_
  refine v_nil ?_
  refine q_n ?_
  refine w_seq ?_
  refine w_reg rfl ?_
  refine v_alloc (m := 2) (H' := [_, _, ⟨[.v _, .v _, .v _], 27, true⟩]) lay27 rfl rfl ?_
  refine v_nil ?_
  refine q_n ?_
  refine w_seq ?_
  refine w_reg rfl ?_
  refine v_fa_pt (off' := 0) lay88 rfl rfl rfl ?_
  refine v_load_pt (.c _) lay2 rfl rfl rfl rfl ?_
  refine v_fa_pt (off' := 0) lay27 rfl rfl rfl ?_
  refine v_store (H' := [_, _, ⟨[_, _, _], 27, true⟩]) lay2 rfl rfl rfl rfl rfl rfl ?_
  refine v_nil ?_
  refine q_n ?_
  refine w_seq ?_
  refine w_reg rfl ?_
  refine v_fa_pt (off' := 1) lay88 rfl rfl rfl ?_
  refine v_load_pt (.c _) lay23 rfl rfl rfl rfl ?_
  refine v_fa_pt (off' := 1) lay27 rfl rfl rfl ?_
  refine v_store (H' := [_, _, ⟨[_, _, _], 27, true⟩]) lay23 rfl rfl rfl rfl rfl rfl ?_
  refine v_nil ?_
  refine q_n ?_
  refine w_seq ?_
  refine w_reg rfl ?_
  refine v_fa_pt (off' := 2) lay88 rfl rfl rfl ?_
  refine v_load_pt (.c _) lay23 rfl rfl rfl rfl ?_
  refine v_fa_pt (off' := 2) lay27 rfl rfl rfl ?_
  refine v_store (H' := [_, _, ⟨[_, _, _], 27, true⟩]) lay23 rfl rfl rfl rfl rfl rfl ?_
  refine v_nil ?_
  refine q_n ?_
  refine w_seq ?_
  refine w_reg rfl ?_
  refine v_load_pt (.agg [_, _, _]) lay27 rfl rfl rfl rfl ?_
  refine v_store (H' := [_, ⟨[_, _, _], 27, true⟩, _]) lay27 rfl rfl rfl rfl rfl rfl ?_
  refine v_nil ?_
  refine q_n ?_
  refine w_ret ?_
  refine r_r rfl ?_
  exact a_agg (.cons tr_v (.cons tr_v (.cons tr_v .nil)))

theorem c22 (xs : List Tal) (hx : xs.length ≤ 2 ^ 40) : PureC X 22 [.c (tals false xs)] (.c (tals true xs)) := by
  refine PureC.of_body (drawD_ok X) (fun _ _ => Go.Proofs.Try.call22 _ _) Go.Proofs.Try.func22 rfl (n := 23) rfl ?_
  refine w_seq ?_
  refine w_reg rfl ?_
  refine v_assign rfl ?_
  refine v_nil ?_
  refine q_n ?_
  refine w_seq ?_
  refine w_reg rfl ?_
  refine v_move rfl ?_
  refine v_len_sl lay35 rfl ?_
  refine v_make (enc := te) (a0 := ((0, 0, 0) : Tal)) (m := 0) (H' := [_]) rfl lay40 lay27 rfl rfl rfl rfl (xs.length) (rfl) (by unfold maxLen; simp only []; omega) rfl rfl ?_
  refine v_assign rfl ?_
  refine v_nil ?_
  refine q_n ?_
  refine w_seq ?_
  refine w_seq ?_
  refine w_reg rfl ?_
  refine v_assign (c := .v (.int .i64 0)) rfl ?_
  refine v_nil ?_
  refine q_n ?_
  refine w_block ?_
  refine w_loop (fun k sl H => ∃ i : Nat, k = xs.length - i ∧ i ≤ xs.length ∧ sl = sls [(0, .c (tals false xs)), (3, .c (.mu 0 0 xs.length 3)), (4, cI i)] ∧ H = [⟨flat te (xs.take i ++ List.replicate (xs.length - i) (0, 0, 0)), 27, true⟩]) ?_ ?_
  · refine ⟨_, _, _, ?_, 0, rfl, Nat.zero_le _, rfl, rfl⟩
    exact turn [some 0] rfl rfl rfl ⟨⟨_, rfl, .stay (stays_flat te_sc _)⟩, trivial⟩ ⟨tr_sl, tr_mu rfl, tr_v, trivial⟩
  · rintro k sl H ⟨i, rfl, hi, rfl, rfl⟩
    refine w_seq ?_
    refine w_seq ?_
    refine w_reg rfl ?_
    refine v_move rfl ?_
    refine v_move rfl ?_
    refine v_len_sl lay35 rfl ?_
    refine v_lss lay3 rfl rfl (fun h1 => ?_) (fun h1 => ?_)
    · skip
      refine v_nil ?_
      refine q_n ?_
      refine w_t rfl ?_
      refine w_skip ?_
      refine q_n ?_
      refine w_seq ?_
      refine w_block ?_
      refine w_reg rfl ?_
      refine v_move rfl ?_
      refine v_move rfl ?_
      refine v_move rfl ?_
      refine v_move rfl ?_
      refine v_idx (k := 3) te_len lay35 lay88 rfl rfl rfl rfl rfl (by omega) (fun q2 hq2 e2 => ?_)
      obtain rfl : i = q2 := by omega
      refine v_load_vw (.agg [.v _, .v _, .v _]) lay88 rfl rfl rfl ?_
      refine v_call (c72 _ _ _) rfl rfl rfl (.cons (vw_agg (.cons vw_v (.cons vw_v (.cons vw_v .nil)))) .nil) ?_
      refine v_idx_mu (k := 3) (off := 0) lay40 lay27 rfl rfl rfl (by omega) (fun q3 hq3 e3 => ?_)
      obtain rfl : i = q3 := by omega
      refine v_store_flat (H' := [_]) i 0 (xs[i]) te_len lay27 rfl rfl rfl (by omega) (by simp; omega) rfl rfl rfl rfl ?_
      refine v_nil ?_
      refine q_bn ?_
      refine q_n ?_
      refine w_reg rfl ?_
      refine v_move rfl ?_
      refine v_add lay3 rfl rfl (i64r (by omega)) ?_
      refine v_assign rfl ?_
      refine v_nil ?_
      refine q_n ?_
      refine ⟨_, _, _, ?_, ⟨i + 1, rfl, by omega, rfl, rfl⟩, by omega⟩
      exact turn [some 0] rfl rfl rfl ⟨⟨_, rfl, by rw [fill_step hq2]; exact .stay (stays_flat te_sc _)⟩, trivial⟩ ⟨tr_sl, tr_mu rfl, tr_v, trivial⟩
    · skip
      refine v_nil ?_
      refine q_n ?_
      refine w_f rfl ?_
      refine w_exit ?_
      refine q_e ?_
      refine q_e ?_
      refine q_hit ?_
      refine q_n ?_
      refine w_seq ?_
      refine w_reg rfl ?_
      refine v_move rfl ?_
      refine v_assign rfl ?_
      refine v_nil ?_
      refine q_n ?_
      refine w_ret ?_
      refine r_r rfl ?_
      obtain rfl : i = xs.length := by omega
      exact a_flat (t := 27) te_sc te_len (by simp) rfl

theorem c25 (xs ys : List Tal) (hx : xs.length ≤ 2 ^ 40) : PureC X 25 [.c (tals false xs), .c (tals false ys)] (cB (decide (xs = ys))) := by
  refine PureC.of_body (drawD_ok X) (fun _ _ => Go.Proofs.Try.call25 _ _) Go.Proofs.Try.func25 rfl (n := 27) rfl ?_
  refine w_seq ?_
  refine w_reg rfl ?_
  refine v_assign (c := .v (.bool false)) rfl ?_
  refine v_nil ?_
  refine q_n ?_
  refine w_seq ?_
  refine w_seq ?_
  refine w_reg rfl ?_
  refine v_move rfl ?_
  refine v_len_sl lay40 rfl ?_
  refine v_move rfl ?_
  refine v_len_sl lay40 rfl ?_
  refine v_neq lay3 rfl rfl (fun h1 => ?_) (fun h1 => ?_)
  · skip
    refine v_nil ?_
    refine q_n ?_
    refine w_t rfl ?_
    refine w_seq ?_
    refine w_reg rfl ?_
    refine v_assign (c := .v (.bool false)) rfl ?_
    refine v_nil ?_
    refine q_n ?_
    refine w_ret (q_r ?_)
    refine r_r rfl ?_
    exact a_b (by simp only [Bool.false_eq_true, false_iff]; rintro rfl; exact h1 rfl)
  · skip
    refine v_nil ?_
    refine q_n ?_
    refine w_f rfl ?_
    refine w_skip ?_
    refine q_n ?_
    refine w_seq ?_
    refine w_seq ?_
    refine w_reg rfl ?_
    refine v_assign (c := .v (.int .i64 0)) rfl ?_
    refine v_nil ?_
    refine q_n ?_
    refine w_block ?_
    refine w_loop (fun k sl H => ∃ i : Nat, k = xs.length - i ∧ i ≤ xs.length ∧ xs.take i = ys.take i ∧ sl = sls [(0, .c (tals false xs)), (1, .c (tals false ys)), (5, cI i)] ∧ H = []) ?_ ?_
    · refine ⟨_, _, _, ?_, 0, rfl, Nat.zero_le _, rfl, rfl, rfl⟩
      exact turn0 ⟨tr_sl, tr_sl, tr_v, trivial⟩
    · rintro k sl H ⟨i, rfl, hi, hp, rfl, rfl⟩
      refine w_seq ?_
      refine w_seq ?_
      refine w_reg rfl ?_
      refine v_move rfl ?_
      refine v_move rfl ?_
      refine v_len_sl lay40 rfl ?_
      refine v_lss lay3 rfl rfl (fun h2 => ?_) (fun h2 => ?_)
      · skip
        refine v_nil ?_
        refine q_n ?_
        refine w_t rfl ?_
        refine w_skip ?_
        refine q_n ?_
        refine w_seq ?_
        refine w_block ?_
        refine w_seq ?_
        refine w_draw [0, 0, 3, 7, 0, 0, 48, 112, 255, 511] [⟨0, 0, []⟩, ⟨1, 0, []⟩, ⟨2, 0, []⟩, ⟨3, 0, []⟩, ⟨4, 0, []⟩, ⟨5, 0, []⟩, ⟨6, 0, []⟩, ⟨7, 0, []⟩, ⟨8, 0, []⟩, ⟨9, 0, []⟩] rfl rfl ?_
        refine d_q rfl rfl rfl rfl rfl ?_
        refine v_move rfl ?_
        refine v_nil ?_
        refine d_q rfl rfl rfl rfl rfl ?_
        refine v_move rfl ?_
        refine v_nil ?_
        refine d_q rfl rfl rfl rfl rfl ?_
        refine v_idx (k := 3) te_len lay40 lay27 rfl rfl rfl rfl rfl (by omega) (fun q3 hq3 e3 => ?_)
        obtain rfl : i = q3 := by omega
        refine v_nil ?_
        refine d_q rfl rfl rfl rfl rfl ?_
        refine v_load_vw (.agg [.v _, .v _, .v _]) lay27 rfl rfl rfl ?_
        refine v_nil ?_
        refine d_q rfl rfl rfl rfl rfl ?_
        refine v_move rfl ?_
        refine v_nil ?_
        refine d_q rfl rfl rfl rfl rfl ?_
        refine v_move rfl ?_
        refine v_nil ?_
        refine d_q rfl rfl rfl rfl rfl ?_
        refine v_idx (k := 3) te_len lay40 lay27 rfl rfl rfl rfl rfl (by omega) (fun q4 hq4 e4 => ?_)
        obtain rfl : i = q4 := by omega
        refine v_nil ?_
        refine d_q rfl rfl rfl rfl rfl ?_
        refine v_load_vw (.agg [.v _, .v _, .v _]) lay27 rfl rfl rfl ?_
        refine v_nil ?_
        refine d_callb (c18 _ _ _ _ _ _) rfl rfl rfl rfl (.cons (vw_agg (.cons vw_v (.cons vw_v (.cons vw_v .nil)))) (.cons (vw_agg (.cons vw_v (.cons vw_v (.cons vw_v .nil)))) .nil)) (fun h5 => ?_) (fun h5 => ?_)
        · skip
          refine d_q rfl rfl rfl rfl rfl ?_
          refine v_not false rfl rfl ?_
          refine v_nil ?_
          refine d_nil ?_
          refine q_n ?_
          refine w_f rfl ?_
          refine w_skip ?_
          refine q_bn ?_
          refine q_n ?_
          refine w_reg rfl ?_
          refine v_move rfl ?_
          refine v_add lay3 rfl rfl (i64r (by omega)) ?_
          refine v_assign rfl ?_
          refine v_nil ?_
          refine q_n ?_
          refine ⟨_, _, _, ?_, ⟨i + 1, rfl, by omega, ?_, rfl, rfl⟩, by omega⟩
          · exact turn0 ⟨tr_sl, tr_sl, tr_v, trivial⟩
          · rw [List.take_succ_eq_append_getElem hq3, List.take_succ_eq_append_getElem hq4, hp, tal_ext h5]
        · skip
          refine d_q rfl rfl rfl rfl rfl ?_
          refine v_not true rfl rfl ?_
          refine v_nil ?_
          refine d_nil ?_
          refine q_n ?_
          refine w_t rfl ?_
          refine w_seq ?_
          refine w_reg rfl ?_
          refine v_assign (c := .v (.bool false)) rfl ?_
          refine v_nil ?_
          refine q_n ?_
          refine w_ret (q_br (q_r (q_r (q_br (q_r ?_)))))
          refine r_r rfl ?_
          exact a_b (by simp only [Bool.false_eq_true, false_iff]; rintro rfl; exact h5 ⟨rfl, rfl, rfl⟩)
      · skip
        refine v_nil ?_
        refine q_n ?_
        refine w_f rfl ?_
        refine w_exit ?_
        refine q_e ?_
        refine q_e ?_
        refine q_hit ?_
        refine q_n ?_
        refine w_seq ?_
        refine w_reg rfl ?_
        refine v_assign (c := .v (.bool true)) rfl ?_
        refine v_nil ?_
        refine q_n ?_
        refine w_ret ?_
        refine r_r rfl ?_
        have he : i = xs.length := by omega
        have hl : ys.length = xs.length := by omega
        rw [he, List.take_length, ← hl, List.take_length] at hp
        exact a_b (by simp only [true_iff]; exact hp)

theorem c70 (xs : List Tal) (hx : xs.length ≤ 2 ^ 40) : PureC X 70 [.c (tals false xs)] (cB (decide (okL xs))) := by
  refine PureC.of_body (drawD_ok X) (fun _ _ => Go.Proofs.Try.call70 _ _) Go.Proofs.Try.func70 rfl (n := 61) rfl ?_
  refine w_seq ?_
  refine w_reg rfl ?_
  refine v_assign (c := .v (.bool false)) rfl ?_
  refine v_nil ?_
  refine q_n ?_
  refine w_seq ?_
  refine w_seq ?_
  refine w_reg rfl ?_
  refine v_assign (c := .v (.int .i64 0)) rfl ?_
  refine v_nil ?_
  refine q_n ?_
  refine w_block ?_
  refine w_loop (fun k sl H => ∃ i : Nat, k = xs.length - i ∧ i ≤ xs.length ∧ (∀ j (hj : j < xs.length), j < i → okAt xs j hj) ∧ sl = sls [(0, .c (tals false xs)), (3, cI i)] ∧ H = []) ?_ ?_
  · refine ⟨_, _, _, ?_, 0, rfl, Nat.zero_le _, fun j hj h => absurd h (Nat.not_lt_zero _), rfl, rfl⟩
    exact turn0 ⟨tr_sl, tr_v, trivial⟩
  · rintro k sl H ⟨i, rfl, hi, hp, rfl, rfl⟩
    refine w_seq ?_
    refine w_seq ?_
    refine w_reg rfl ?_
    refine v_move rfl ?_
    refine v_move rfl ?_
    refine v_len_sl lay40 rfl ?_
    refine v_lss lay3 rfl rfl (fun h1 => ?_) (fun h1 => ?_)
    · skip
      refine v_nil ?_
      refine q_n ?_
      refine w_t rfl ?_
      refine w_skip ?_
      refine q_n ?_
      refine w_seq ?_
      refine w_block ?_
      refine w_seq ?_
      refine w_reg rfl ?_
      refine v_move rfl ?_
      refine v_move rfl ?_
      refine v_idx (k := 3) te_len lay40 lay27 rfl rfl rfl rfl rfl (by omega) (fun q2 hq2 e2 => ?_)
      obtain rfl : i = q2 := by omega
      refine v_assign rfl ?_
      refine v_nil ?_
      refine q_n ?_
      refine w_seq ?_
      refine w_draw [0, 1, 3, 7, 15, 31, 63, 127, 255, 511, 1023, 2047, 4095, 8191, 16383, 32767, 65535, 131071, 262143, 524287, 1048575, 2097151, 4194303, 8388607, 16777215, 33554431, 67108863, 134217727, 268435455, 536870911, 1073741823, 2147483647, 2147483647, 6442450943, 17179869183, 34359738367, 68719476735, 2147483647, 139586437119, 414464344063, 964220157951, 2199023255551, 4398046511103, 8796093022207] [⟨0, 0, []⟩, ⟨1, 0, []⟩, ⟨2, 0, []⟩, ⟨3, 0, []⟩, ⟨4, 0, []⟩, ⟨5, 0, []⟩, ⟨6, 0, []⟩, ⟨7, 0, []⟩, ⟨8, 0, []⟩, ⟨9, 0, []⟩, ⟨10, 0, []⟩, ⟨11, 0, []⟩, ⟨12, 0, []⟩, ⟨13, 0, []⟩, ⟨14, 0, []⟩, ⟨15, 0, []⟩, ⟨16, 0, []⟩, ⟨17, 0, []⟩, ⟨18, 0, []⟩, ⟨19, 0, []⟩, ⟨20, 0, []⟩, ⟨21, 0, []⟩, ⟨22, 0, []⟩, ⟨23, 0, []⟩, ⟨24, 0, []⟩, ⟨25, 0, []⟩, ⟨26, 0, []⟩, ⟨27, 0, []⟩, ⟨28, 0, []⟩, ⟨29, 0, []⟩, ⟨30, 0, []⟩, ⟨31, 0, []⟩, ⟨32, 0, []⟩, ⟨33, 0, []⟩, ⟨34, 0, []⟩, ⟨35, 0, []⟩, ⟨36, 0, []⟩, ⟨37, 0, []⟩, ⟨38, 0, []⟩, ⟨39, 0, []⟩, ⟨40, 0, []⟩, ⟨41, 0, []⟩, ⟨42, 0, []⟩, ⟨43, 0, []⟩] rfl rfl ?_
      refine d_q rfl rfl rfl rfl rfl ?_
      refine v_move rfl ?_
      refine v_nil ?_
      refine d_q rfl rfl rfl rfl rfl ?_
      refine v_nil_vw rfl ?_
      refine v_nil ?_
      refine d_q rfl rfl rfl rfl rfl ?_
      refine v_fa_vw (off' := 0) lay27 rfl rfl rfl ?_
      refine v_nil ?_
      refine d_q rfl rfl rfl rfl rfl ?_
      refine v_load_vw (.c (.v _)) lay2 rfl rfl rfl ?_
      refine v_nil ?_
      refine d_callb (c62 _) rfl rfl rfl rfl (.cons vw_v .nil) (fun h3 => ?_) (fun h3 => ?_)
      · skip
        refine d_q rfl rfl rfl rfl rfl ?_
        refine v_not false rfl rfl ?_
        refine v_nil ?_
        refine d_q rfl rfl rfl rfl rfl ?_
        refine v_move rfl ?_
        refine v_nil ?_
        refine d_q rfl rfl rfl rfl rfl ?_
        refine v_move rfl ?_
        refine v_nil ?_
        refine d_q rfl rfl rfl rfl rfl ?_
        refine v_nil_vw rfl ?_
        refine v_nil ?_
        refine d_q rfl rfl rfl rfl rfl ?_
        refine v_fa_vw (off' := 1) lay27 rfl rfl rfl ?_
        refine v_nil ?_
        refine d_q rfl rfl rfl rfl rfl ?_
        refine v_load_vw (.c (.v _)) lay23 rfl rfl rfl ?_
        refine v_nil ?_
        refine d_q rfl rfl rfl rfl rfl ?_
        refine v_lss lay23 rfl rfl (fun h4 => ?_) (fun h4 => ?_)
        · skip
          refine v_nil ?_
          refine d_q rfl rfl rfl rfl rfl ?_
          refine v_pick_f rfl rfl ?_
          refine v_nil ?_
          refine d_q rfl rfl rfl rfl rfl ?_
          refine v_move rfl ?_
          refine v_nil ?_
          refine d_off rfl rfl ?_
          refine d_off rfl rfl ?_
          refine d_off rfl rfl ?_
          refine d_off rfl rfl ?_
          refine d_off rfl rfl ?_
          refine d_q rfl rfl rfl rfl rfl ?_
          refine v_pick_t (v := .v (.bool true)) rfl rfl ?_
          refine v_nil ?_
          refine d_q rfl rfl rfl rfl rfl ?_
          refine v_move rfl ?_
          refine v_nil ?_
          refine d_off rfl rfl ?_
          refine d_off rfl rfl ?_
          refine d_off rfl rfl ?_
          refine d_off rfl rfl ?_
          refine d_off rfl rfl ?_
          refine d_q rfl rfl rfl rfl rfl ?_
          refine v_pick_t (v := .v (.bool true)) rfl rfl ?_
          refine v_nil ?_
          refine d_q rfl rfl rfl rfl rfl ?_
          refine v_move rfl ?_
          refine v_nil ?_
          refine d_off rfl rfl ?_
          refine d_off rfl rfl ?_
          refine d_off rfl rfl ?_
          refine d_off rfl rfl ?_
          refine d_off rfl rfl ?_
          refine d_off rfl rfl ?_
          refine d_off rfl rfl ?_
          refine d_off rfl rfl ?_
          refine d_off rfl rfl ?_
          refine d_off rfl rfl ?_
          refine d_off rfl rfl ?_
          refine d_off rfl rfl ?_
          refine d_off rfl rfl ?_
          refine d_off rfl rfl ?_
          refine d_off rfl rfl ?_
          refine d_q rfl rfl rfl rfl rfl ?_
          refine v_pick_t (v := .v (.bool true)) rfl rfl ?_
          refine v_nil ?_
          refine d_nil ?_
          refine q_n ?_
          refine w_t rfl ?_
          refine w_seq ?_
          refine w_reg rfl ?_
          refine v_assign (c := .v (.bool false)) rfl ?_
          refine v_nil ?_
          refine q_n ?_
          refine w_ret (q_br (q_r (q_r (q_br (q_r ?_)))))
          refine r_r rfl ?_
          exact a_b (by simp only [Bool.false_eq_true, false_iff]; exact fun h => by have h := h.2 i hq2; have := h.2.1; omega)
        · skip
          refine v_nil ?_
          refine d_q rfl rfl rfl rfl rfl ?_
          refine v_pick_f rfl rfl ?_
          refine v_nil ?_
          refine d_q rfl rfl rfl rfl rfl ?_
          refine v_move rfl ?_
          refine v_nil ?_
          refine d_q rfl rfl rfl rfl rfl ?_
          refine v_move rfl ?_
          refine v_nil ?_
          refine d_q rfl rfl rfl rfl rfl ?_
          refine v_nil_vw rfl ?_
          refine v_nil ?_
          refine d_q rfl rfl rfl rfl rfl ?_
          refine v_fa_vw (off' := 2) lay27 rfl rfl rfl ?_
          refine v_nil ?_
          refine d_q rfl rfl rfl rfl rfl ?_
          refine v_load_vw (.c (.v _)) lay23 rfl rfl rfl ?_
          refine v_nil ?_
          refine d_q rfl rfl rfl rfl rfl ?_
          refine v_lss lay23 rfl rfl (fun h5 => ?_) (fun h5 => ?_)
          · skip
            refine v_nil ?_
            refine d_q rfl rfl rfl rfl rfl ?_
            refine v_pick_f rfl rfl ?_
            refine v_nil ?_
            refine d_q rfl rfl rfl rfl rfl ?_
            refine v_move rfl ?_
            refine v_nil ?_
            refine d_off rfl rfl ?_
            refine d_off rfl rfl ?_
            refine d_off rfl rfl ?_
            refine d_off rfl rfl ?_
            refine d_off rfl rfl ?_
            refine d_q rfl rfl rfl rfl rfl ?_
            refine v_pick_t (v := .v (.bool true)) rfl rfl ?_
            refine v_nil ?_
            refine d_q rfl rfl rfl rfl rfl ?_
            refine v_move rfl ?_
            refine v_nil ?_
            refine d_off rfl rfl ?_
            refine d_off rfl rfl ?_
            refine d_off rfl rfl ?_
            refine d_off rfl rfl ?_
            refine d_off rfl rfl ?_
            refine d_off rfl rfl ?_
            refine d_off rfl rfl ?_
            refine d_off rfl rfl ?_
            refine d_off rfl rfl ?_
            refine d_off rfl rfl ?_
            refine d_off rfl rfl ?_
            refine d_off rfl rfl ?_
            refine d_off rfl rfl ?_
            refine d_off rfl rfl ?_
            refine d_off rfl rfl ?_
            refine d_q rfl rfl rfl rfl rfl ?_
            refine v_pick_t (v := .v (.bool true)) rfl rfl ?_
            refine v_nil ?_
            refine d_nil ?_
            refine q_n ?_
            refine w_t rfl ?_
            refine w_seq ?_
            refine w_reg rfl ?_
            refine v_assign (c := .v (.bool false)) rfl ?_
            refine v_nil ?_
            refine q_n ?_
            refine w_ret (q_br (q_r (q_r (q_br (q_r ?_)))))
            refine r_r rfl ?_
            exact a_b (by simp only [Bool.false_eq_true, false_iff]; exact fun h => by have h := h.2 i hq2; have := h.2.2.1; omega)
          · skip
            refine v_nil ?_
            refine d_q rfl rfl rfl rfl rfl ?_
            refine v_pick_f rfl rfl ?_
            refine v_nil ?_
            refine d_q rfl rfl rfl rfl rfl ?_
            refine v_move rfl ?_
            refine v_nil ?_
            refine d_q rfl rfl rfl rfl rfl ?_
            refine v_move rfl ?_
            refine v_nil ?_
            refine d_q rfl rfl rfl rfl rfl ?_
            refine v_nil_vw rfl ?_
            refine v_nil ?_
            refine d_q rfl rfl rfl rfl rfl ?_
            refine v_fa_vw (off' := 2) lay27 rfl rfl rfl ?_
            refine v_nil ?_
            refine d_q rfl rfl rfl rfl rfl ?_
            refine v_load_vw (.c (.v _)) lay23 rfl rfl rfl ?_
            refine v_nil ?_
            refine d_q rfl rfl rfl rfl rfl ?_
            refine v_gtr lay23 rfl rfl (fun h6 => ?_) (fun h6 => ?_)
            · skip
              refine v_nil ?_
              refine d_q rfl rfl rfl rfl rfl ?_
              refine v_pick_f rfl rfl ?_
              refine v_nil ?_
              refine d_q rfl rfl rfl rfl rfl ?_
              refine v_move rfl ?_
              refine v_nil ?_
              refine d_off rfl rfl ?_
              refine d_off rfl rfl ?_
              refine d_off rfl rfl ?_
              refine d_off rfl rfl ?_
              refine d_off rfl rfl ?_
              refine d_off rfl rfl ?_
              refine d_off rfl rfl ?_
              refine d_off rfl rfl ?_
              refine d_off rfl rfl ?_
              refine d_off rfl rfl ?_
              refine d_off rfl rfl ?_
              refine d_off rfl rfl ?_
              refine d_off rfl rfl ?_
              refine d_off rfl rfl ?_
              refine d_off rfl rfl ?_
              refine d_q rfl rfl rfl rfl rfl ?_
              refine v_pick_t (v := .v (.bool true)) rfl rfl ?_
              refine v_nil ?_
              refine d_nil ?_
              refine q_n ?_
              refine w_t rfl ?_
              refine w_seq ?_
              refine w_reg rfl ?_
              refine v_assign (c := .v (.bool false)) rfl ?_
              refine v_nil ?_
              refine q_n ?_
              refine w_ret (q_br (q_r (q_r (q_br (q_r ?_)))))
              refine r_r rfl ?_
              exact a_b (by simp only [Bool.false_eq_true, false_iff]; exact fun h => by have h := h.2 i hq2; have := h.2.2.2.1; omega)
            · skip
              refine v_nil ?_
              refine d_q rfl rfl rfl rfl rfl ?_
              refine v_pick_f rfl rfl ?_
              refine v_nil ?_
              refine d_q rfl rfl rfl rfl rfl ?_
              refine v_move rfl ?_
              refine v_nil ?_
              refine d_q rfl rfl rfl rfl rfl ?_
              refine v_move rfl ?_
              refine v_nil ?_
              refine d_q rfl rfl rfl rfl rfl ?_
              refine v_gtr lay3 rfl rfl (fun h7 => ?_) (fun h7 => ?_)
              · skip
                refine v_nil ?_
                refine d_q rfl rfl rfl rfl rfl ?_
                refine v_move rfl ?_
                refine v_nil ?_
                refine d_q rfl rfl rfl rfl rfl ?_
                refine v_move rfl ?_
                refine v_nil ?_
                refine d_q rfl rfl rfl rfl rfl ?_
                refine v_move rfl ?_
                refine v_nil ?_
                refine d_q rfl rfl rfl rfl rfl ?_
                refine v_sub lay3 rfl rfl (i64r (by omega)) ?_
                refine v_nil ?_
                refine d_q rfl rfl rfl rfl rfl ?_
                refine v_idx (k := 3) te_len lay40 lay27 rfl rfl rfl rfl rfl (by omega) (fun q8 hq8 e8 => ?_)
                refine v_nil ?_
                refine d_q rfl rfl rfl rfl rfl ?_
                refine v_fa_vw (off' := 0) lay27 rfl rfl rfl ?_
                refine v_nil ?_
                refine d_q rfl rfl rfl rfl rfl ?_
                refine v_load_vw (.c (.v _)) lay2 rfl rfl rfl ?_
                refine v_nil ?_
                refine d_q rfl rfl rfl rfl rfl ?_
                refine v_move rfl ?_
                refine v_nil ?_
                refine d_q rfl rfl rfl rfl rfl ?_
                refine v_nil_vw rfl ?_
                refine v_nil ?_
                refine d_q rfl rfl rfl rfl rfl ?_
                refine v_fa_vw (off' := 0) lay27 rfl rfl rfl ?_
                refine v_nil ?_
                refine d_q rfl rfl rfl rfl rfl ?_
                refine v_load_vw (.c (.v _)) lay2 rfl rfl rfl ?_
                refine v_nil ?_
                refine d_q rfl rfl rfl rfl rfl ?_
                refine v_geq lay2 rfl rfl (fun h9 => ?_) (fun h9 => ?_)
                · skip
                  refine v_nil ?_
                  refine d_q rfl rfl rfl rfl rfl ?_
                  refine v_pick_t rfl rfl ?_
                  refine v_nil ?_
                  refine d_q rfl rfl rfl rfl rfl ?_
                  refine v_pick_f rfl rfl ?_
                  refine v_nil ?_
                  refine d_nil ?_
                  refine q_n ?_
                  refine w_t rfl ?_
                  refine w_seq ?_
                  refine w_reg rfl ?_
                  refine v_assign (c := .v (.bool false)) rfl ?_
                  refine v_nil ?_
                  refine q_n ?_
                  refine w_ret (q_br (q_r (q_r (q_br (q_r ?_)))))
                  refine r_r rfl ?_
                  exact a_b (by simp only [Bool.false_eq_true, false_iff]; exact fun h => by have h := h.2 i hq2; have := h.2.2.2.2 q8 hq8 (by omega); omega)
                · skip
                  refine v_nil ?_
                  refine d_q rfl rfl rfl rfl rfl ?_
                  refine v_pick_t rfl rfl ?_
                  refine v_nil ?_
                  refine d_q rfl rfl rfl rfl rfl ?_
                  refine v_pick_f rfl rfl ?_
                  refine v_nil ?_
                  refine d_nil ?_
                  refine q_n ?_
                  refine w_f rfl ?_
                  refine w_skip ?_
                  refine q_bn ?_
                  refine q_n ?_
                  refine w_reg rfl ?_
                  refine v_move rfl ?_
                  refine v_add lay3 rfl rfl (i64r (by omega)) ?_
                  refine v_assign rfl ?_
                  refine v_nil ?_
                  refine q_n ?_
                  refine ⟨_, _, _, ?_, ⟨i + 1, rfl, by omega, ok_step hp ⟨h3, by omega, by omega, by omega, fun p hp2 he => by
                      obtain rfl : p = q8 := by omega
                      omega⟩, rfl, rfl⟩, by omega⟩
                  exact turn0 ⟨tr_sl, tr_v, trivial⟩
              · skip
                refine v_nil ?_
                refine d_q rfl rfl rfl rfl rfl ?_
                refine v_move rfl ?_
                refine v_nil ?_
                refine d_off rfl rfl ?_
                refine d_off rfl rfl ?_
                refine d_off rfl rfl ?_
                refine d_off rfl rfl ?_
                refine d_off rfl rfl ?_
                refine d_off rfl rfl ?_
                refine d_off rfl rfl ?_
                refine d_off rfl rfl ?_
                refine d_off rfl rfl ?_
                refine d_off rfl rfl ?_
                refine d_off rfl rfl ?_
                refine d_q rfl rfl rfl rfl rfl ?_
                refine v_pick_f (v := .v (.bool false)) rfl rfl ?_
                refine v_nil ?_
                refine d_q rfl rfl rfl rfl rfl ?_
                refine v_pick_f rfl rfl ?_
                refine v_nil ?_
                refine d_nil ?_
                refine q_n ?_
                refine w_f rfl ?_
                refine w_skip ?_
                refine q_bn ?_
                refine q_n ?_
                refine w_reg rfl ?_
                refine v_move rfl ?_
                refine v_add lay3 rfl rfl (i64r (by omega)) ?_
                refine v_assign rfl ?_
                refine v_nil ?_
                refine q_n ?_
                refine ⟨_, _, _, ?_, ⟨i + 1, rfl, by omega, ok_step hp ⟨h3, by omega, by omega, by omega, fun p hp2 he => absurd he (by omega)⟩, rfl, rfl⟩, by omega⟩
                exact turn0 ⟨tr_sl, tr_v, trivial⟩
      · skip
        refine d_q rfl rfl rfl rfl rfl ?_
        refine v_not true rfl rfl ?_
        refine v_nil ?_
        refine d_q rfl rfl rfl rfl rfl ?_
        refine v_move rfl ?_
        refine v_nil ?_
        refine d_off rfl rfl ?_
        refine d_off rfl rfl ?_
        refine d_off rfl rfl ?_
        refine d_off rfl rfl ?_
        refine d_off rfl rfl ?_
        refine d_q rfl rfl rfl rfl rfl ?_
        refine v_pick_t (v := .v (.bool true)) rfl rfl ?_
        refine v_nil ?_
        refine d_q rfl rfl rfl rfl rfl ?_
        refine v_move rfl ?_
        refine v_nil ?_
        refine d_off rfl rfl ?_
        refine d_off rfl rfl ?_
        refine d_off rfl rfl ?_
        refine d_off rfl rfl ?_
        refine d_off rfl rfl ?_
        refine d_q rfl rfl rfl rfl rfl ?_
        refine v_pick_t (v := .v (.bool true)) rfl rfl ?_
        refine v_nil ?_
        refine d_q rfl rfl rfl rfl rfl ?_
        refine v_move rfl ?_
        refine v_nil ?_
        refine d_off rfl rfl ?_
        refine d_off rfl rfl ?_
        refine d_off rfl rfl ?_
        refine d_off rfl rfl ?_
        refine d_off rfl rfl ?_
        refine d_q rfl rfl rfl rfl rfl ?_
        refine v_pick_t (v := .v (.bool true)) rfl rfl ?_
        refine v_nil ?_
        refine d_q rfl rfl rfl rfl rfl ?_
        refine v_move rfl ?_
        refine v_nil ?_
        refine d_off rfl rfl ?_
        refine d_off rfl rfl ?_
        refine d_off rfl rfl ?_
        refine d_off rfl rfl ?_
        refine d_off rfl rfl ?_
        refine d_off rfl rfl ?_
        refine d_off rfl rfl ?_
        refine d_off rfl rfl ?_
        refine d_off rfl rfl ?_
        refine d_off rfl rfl ?_
        refine d_off rfl rfl ?_
        refine d_off rfl rfl ?_
        refine d_off rfl rfl ?_
        refine d_off rfl rfl ?_
        refine d_off rfl rfl ?_
        refine d_q rfl rfl rfl rfl rfl ?_
        refine v_pick_t (v := .v (.bool true)) rfl rfl ?_
        refine v_nil ?_
        refine d_nil ?_
        refine q_n ?_
        refine w_t rfl ?_
        refine w_seq ?_
        refine w_reg rfl ?_
        refine v_assign (c := .v (.bool false)) rfl ?_
        refine v_nil ?_
        refine q_n ?_
        refine w_ret (q_br (q_r (q_r (q_br (q_r ?_)))))
        refine r_r rfl ?_
        exact a_b (by simp only [Bool.false_eq_true, false_iff]; exact fun h => by have h := h.2 i hq2; exact absurd h.1 h3)
    · skip
      refine v_nil ?_
      refine q_n ?_
      refine w_f rfl ?_
      refine w_exit ?_
      refine q_e ?_
      refine q_e ?_
      refine q_hit ?_
      refine q_n ?_
      refine w_seq ?_
      refine w_reg rfl ?_
      refine v_move rfl ?_
      refine v_len_sl lay40 rfl ?_
      refine v_leq lay3 rfl rfl (fun h10 => ?_) (fun h10 => ?_)
      · skip
        refine v_assign rfl ?_
        refine v_nil ?_
        refine q_n ?_
        refine w_ret ?_
        refine r_r rfl ?_
        have he : i = xs.length := by omega
        exact a_b (by simp only [true_iff]; exact ⟨by omega, fun j hj => hp j hj (by omega)⟩)
      · skip
        refine v_assign rfl ?_
        refine v_nil ?_
        refine q_n ?_
        refine w_ret ?_
        refine r_r rfl ?_
        exact a_b (by simp only [Bool.false_eq_true, false_iff]; exact fun h => by have := h.1; omega)

theorem c58 (xs : List Tal) (hx : xs.length ≤ 2 ^ 40) (hb : T16 xs) : PureC X 58 [.c (tals false xs)] (cB (decide (okL xs))) := by
  refine PureC.of_body (drawD_ok X) (fun _ _ => Go.Proofs.Try.call58 _ _) Go.Proofs.Try.func58 rfl (n := 47) rfl ?_
  refine w_seq ?_
  refine w_reg rfl ?_
  refine v_assign (c := .v (.bool false)) rfl ?_
  refine v_nil ?_
  refine q_n ?_
  refine w_seq ?_
  refine w_seq ?_
  refine w_reg rfl ?_
  refine v_move rfl ?_
  refine v_len_sl lay40 rfl ?_
  refine v_move (c := .v (.int .i64 0)) rfl ?_
  refine v_nil ?_
  refine q_n ?_
  refine w_block ?_
  refine w_loop (fun k sl H => ∃ i : Nat, k = xs.length - i ∧ i ≤ xs.length ∧ (∀ j (hj : j < xs.length), j < i → okAt xs j hj) ∧ sl = sls [(0, .c (tals false xs)), (5, .c (tals false xs)), (6, cI xs.length), (7, cI i)] ∧ H = []) ?_ ?_
  · refine ⟨_, _, _, ?_, 0, rfl, Nat.zero_le _, fun j hj h => absurd h (Nat.not_lt_zero _), rfl, rfl⟩
    exact turn0 ⟨tr_sl, tr_sl, tr_v, tr_v, trivial⟩
  · rintro k sl H ⟨i, rfl, hi, hp, rfl, rfl⟩
    refine w_seq ?_
    refine w_reg rfl ?_
    refine v_lss lay3 rfl rfl (fun h1 => ?_) (fun h1 => ?_)
    · skip
      refine v_nil ?_
      refine q_n ?_
      refine w_seq ?_
      refine w_t rfl ?_
      refine w_skip ?_
      refine q_n ?_
      refine w_seq ?_
      refine w_block ?_
      refine w_seq ?_
      refine w_reg rfl ?_
      refine v_move rfl ?_
      refine v_idx (k := 3) te_len lay40 lay27 rfl rfl rfl rfl rfl (by omega) (fun q2 hq2 e2 => ?_)
      obtain rfl : i = q2 := by omega
      refine v_load_vw (.agg [.v _, .v _, .v _]) lay27 rfl rfl rfl ?_
      refine v_alloc (m := 0) (H' := [⟨[.v _, .v _, .v _], 27, true⟩]) lay27 rfl rfl ?_
      refine v_assign rfl ?_
      refine v_store (H' := [⟨[_, _, _], 27, true⟩]) lay27 rfl rfl rfl rfl rfl rfl ?_
      refine v_nil ?_
      refine q_n ?_
      refine w_seq ?_
      refine w_draw [0, 1, 3, 7, 15, 31, 63, 127, 255, 255, 767, 2047, 4095, 8191, 255, 16639, 65535, 131071, 262143, 524287, 1048575, 2097151, 4194303, 8388607, 16777215, 33554431, 67108863, 134217727, 268435455, 536870911, 1073741823] [⟨0, 0, []⟩, ⟨1, 0, []⟩, ⟨2, 0, []⟩, ⟨3, 0, []⟩, ⟨4, 0, []⟩, ⟨5, 0, []⟩, ⟨6, 0, []⟩, ⟨7, 0, []⟩, ⟨8, 0, []⟩, ⟨9, 0, []⟩, ⟨10, 0, []⟩, ⟨11, 0, []⟩, ⟨12, 0, []⟩, ⟨13, 0, []⟩, ⟨14, 0, []⟩, ⟨15, 0, []⟩, ⟨16, 0, []⟩, ⟨17, 0, []⟩, ⟨18, 0, []⟩, ⟨19, 0, []⟩, ⟨20, 0, []⟩, ⟨21, 0, []⟩, ⟨22, 0, []⟩, ⟨23, 0, []⟩, ⟨24, 0, []⟩, ⟨25, 0, []⟩, ⟨26, 0, []⟩, ⟨27, 0, []⟩, ⟨28, 0, []⟩, ⟨29, 0, []⟩, ⟨30, 0, []⟩] rfl rfl ?_
      refine d_q rfl rfl rfl rfl rfl ?_
      refine v_fa_pt (off' := 0) lay27 rfl rfl rfl ?_
      refine v_nil ?_
      refine d_q rfl rfl rfl rfl rfl ?_
      refine v_load_pt (.c _) lay2 rfl rfl rfl rfl ?_
      refine v_nil ?_
      refine d_callb (c67 _ _ _) rfl rfl rfl rfl (.cons vw_v (.cons vw_v (.cons vw_v .nil))) (fun h3 => ?_) (fun h3 => ?_)
      · skip
        refine d_q rfl rfl rfl rfl rfl ?_
        refine v_not false rfl rfl ?_
        refine v_nil ?_
        refine d_q rfl rfl rfl rfl rfl ?_
        refine v_move rfl ?_
        refine v_nil ?_
        refine d_q rfl rfl rfl rfl rfl ?_
        refine v_move rfl ?_
        refine v_nil ?_
        refine d_q rfl rfl rfl rfl rfl ?_
        refine v_gtr lay3 rfl rfl (fun h4 => ?_) (fun h4 => ?_)
        · skip
          refine v_nil ?_
          refine d_q rfl rfl rfl rfl rfl ?_
          refine v_move rfl ?_
          refine v_nil ?_
          refine d_q rfl rfl rfl rfl rfl ?_
          refine v_move rfl ?_
          refine v_nil ?_
          refine d_q rfl rfl rfl rfl rfl ?_
          refine v_move rfl ?_
          refine v_nil ?_
          refine d_q rfl rfl rfl rfl rfl ?_
          refine v_sub lay3 rfl rfl (i64r (by omega)) ?_
          refine v_nil ?_
          refine d_q rfl rfl rfl rfl rfl ?_
          refine v_idx (k := 3) te_len lay40 lay27 rfl rfl rfl rfl rfl (by omega) (fun q5 hq5 e5 => ?_)
          refine v_nil ?_
          refine d_q rfl rfl rfl rfl rfl ?_
          refine v_fa_vw (off' := 0) lay27 rfl rfl rfl ?_
          refine v_nil ?_
          refine d_q rfl rfl rfl rfl rfl ?_
          refine v_load_vw (.c (.v _)) lay2 rfl rfl rfl ?_
          refine v_nil ?_
          refine d_q rfl rfl rfl rfl rfl ?_
          refine v_fa_pt (off' := 0) lay27 rfl rfl rfl ?_
          refine v_nil ?_
          refine d_q rfl rfl rfl rfl rfl ?_
          refine v_load_pt (.c _) lay2 rfl rfl rfl rfl ?_
          refine v_nil ?_
          refine d_q rfl rfl rfl rfl rfl ?_
          refine v_geq lay2 rfl rfl (fun h6 => ?_) (fun h6 => ?_)
          · skip
            refine v_nil ?_
            refine d_q rfl rfl rfl rfl rfl ?_
            refine v_pick_t rfl rfl ?_
            refine v_nil ?_
            refine d_q rfl rfl rfl rfl rfl ?_
            refine v_pick_f rfl rfl ?_
            refine v_nil ?_
            refine d_q rfl rfl rfl rfl rfl ?_
            refine v_move rfl ?_
            refine v_nil ?_
            refine d_off rfl rfl ?_
            refine d_off rfl rfl ?_
            refine d_off rfl rfl ?_
            refine d_q rfl rfl rfl rfl rfl ?_
            refine v_pick_t (v := .v (.bool true)) rfl rfl ?_
            refine v_nil ?_
            refine d_q rfl rfl rfl rfl rfl ?_
            refine v_move rfl ?_
            refine v_nil ?_
            refine d_off rfl rfl ?_
            refine d_off rfl rfl ?_
            refine d_off rfl rfl ?_
            refine d_off rfl rfl ?_
            refine d_off rfl rfl ?_
            refine d_q rfl rfl rfl rfl rfl ?_
            refine v_pick_t (v := .v (.bool true)) rfl rfl ?_
            refine v_nil ?_
            refine d_nil ?_
            refine q_n ?_
            refine w_t rfl ?_
            refine w_seq ?_
            refine w_reg rfl ?_
            refine v_assign (c := .v (.bool false)) rfl ?_
            refine v_nil ?_
            refine q_n ?_
            refine w_ret (q_br (q_r (q_r (q_br (q_r ?_)))))
            refine r_r rfl ?_
            exact a_b (by simp only [Bool.false_eq_true, false_iff]; exact fun h => by have h := h.2 i hq2; have := h.2.2.2.2 q5 hq5 (by omega); omega)
          · skip
            refine v_nil ?_
            refine d_q rfl rfl rfl rfl rfl ?_
            refine v_pick_t rfl rfl ?_
            refine v_nil ?_
            refine d_q rfl rfl rfl rfl rfl ?_
            refine v_pick_f rfl rfl ?_
            refine v_nil ?_
            refine d_q rfl rfl rfl rfl rfl ?_
            refine v_move rfl ?_
            refine v_nil ?_
            refine d_q rfl rfl rfl rfl rfl ?_
            refine v_fa_pt (off' := 1) lay27 rfl rfl rfl ?_
            refine v_nil ?_
            refine d_q rfl rfl rfl rfl rfl ?_
            refine v_load_pt (.c _) lay23 rfl rfl rfl rfl ?_
            refine v_nil ?_
            refine d_q rfl rfl rfl rfl rfl ?_
            refine v_lss lay23 rfl rfl (fun h7 => ?_) (fun h7 => ?_)
            · skip
              refine v_nil ?_
              refine d_q rfl rfl rfl rfl rfl ?_
              refine v_pick_f rfl rfl ?_
              refine v_nil ?_
              refine d_q rfl rfl rfl rfl rfl ?_
              refine v_move rfl ?_
              refine v_nil ?_
              refine d_off rfl rfl ?_
              refine d_off rfl rfl ?_
              refine d_off rfl rfl ?_
              refine d_off rfl rfl ?_
              refine d_off rfl rfl ?_
              refine d_q rfl rfl rfl rfl rfl ?_
              refine v_pick_t (v := .v (.bool true)) rfl rfl ?_
              refine v_nil ?_
              refine d_nil ?_
              refine q_n ?_
              refine w_t rfl ?_
              refine w_seq ?_
              refine w_reg rfl ?_
              refine v_assign (c := .v (.bool false)) rfl ?_
              refine v_nil ?_
              refine q_n ?_
              refine w_ret (q_br (q_r (q_r (q_br (q_r ?_)))))
              refine r_r rfl ?_
              exact a_b (by simp only [Bool.false_eq_true, false_iff]; exact fun h => by have h := h.2 i hq2; have := h.2.1; omega)
            · skip
              refine v_nil ?_
              refine d_q rfl rfl rfl rfl rfl ?_
              refine v_pick_f rfl rfl ?_
              refine v_nil ?_
              refine d_q rfl rfl rfl rfl rfl ?_
              refine v_move rfl ?_
              refine v_nil ?_
              refine d_q rfl rfl rfl rfl rfl ?_
              refine v_fa_pt (off' := 2) lay27 rfl rfl rfl ?_
              refine v_nil ?_
              refine d_q rfl rfl rfl rfl rfl ?_
              refine v_load_pt (.c _) lay23 rfl rfl rfl rfl ?_
              refine v_nil ?_
              refine d_q rfl rfl rfl rfl rfl ?_
              refine v_conv_ii lay23 lay2 rfl (i64r (by have := hb _ (List.getElem_mem hq2); omega)) ?_
              refine v_nil ?_
              refine d_callb (c67 _ _ _) rfl rfl rfl rfl (.cons vw_v (.cons vw_v (.cons vw_v .nil))) (fun h8 => ?_) (fun h8 => ?_)
              · skip
                refine d_q rfl rfl rfl rfl rfl ?_
                refine v_not false rfl rfl ?_
                refine v_nil ?_
                refine d_q rfl rfl rfl rfl rfl ?_
                refine v_pick_f rfl rfl ?_
                refine v_nil ?_
                refine d_nil ?_
                refine q_n ?_
                refine w_f rfl ?_
                refine w_skip ?_
                refine q_bn ?_
                refine q_n ?_
                refine w_reg rfl ?_
                refine v_add lay3 rfl rfl (i64r (by omega)) ?_
                refine v_move rfl ?_
                refine v_nil ?_
                refine q_n ?_
                refine ⟨_, _, _, ?_, ⟨i + 1, rfl, by omega, ok_step hp ⟨h3, by omega, h8.1, h8.2, fun p hp2 he => by
                    obtain rfl : p = q5 := by omega
                    omega⟩, rfl, rfl⟩, by omega⟩
                exact turn0 ⟨tr_sl, tr_sl, tr_v, tr_v, trivial⟩
              · skip
                refine d_q rfl rfl rfl rfl rfl ?_
                refine v_not true rfl rfl ?_
                refine v_nil ?_
                refine d_q rfl rfl rfl rfl rfl ?_
                refine v_pick_f rfl rfl ?_
                refine v_nil ?_
                refine d_nil ?_
                refine q_n ?_
                refine w_t rfl ?_
                refine w_seq ?_
                refine w_reg rfl ?_
                refine v_assign (c := .v (.bool false)) rfl ?_
                refine v_nil ?_
                refine q_n ?_
                refine w_ret (q_br (q_r (q_r (q_br (q_r ?_)))))
                refine r_r rfl ?_
                exact a_b (by simp only [Bool.false_eq_true, false_iff]; exact fun h => by have h := h.2 i hq2; exact absurd ⟨h.2.2.1, h.2.2.2.1⟩ h8)
        · skip
          refine v_nil ?_
          refine d_q rfl rfl rfl rfl rfl ?_
          refine v_move rfl ?_
          refine v_nil ?_
          refine d_off rfl rfl ?_
          refine d_off rfl rfl ?_
          refine d_off rfl rfl ?_
          refine d_off rfl rfl ?_
          refine d_off rfl rfl ?_
          refine d_off rfl rfl ?_
          refine d_off rfl rfl ?_
          refine d_off rfl rfl ?_
          refine d_off rfl rfl ?_
          refine d_q rfl rfl rfl rfl rfl ?_
          refine v_pick_f (v := .v (.bool false)) rfl rfl ?_
          refine v_nil ?_
          refine d_q rfl rfl rfl rfl rfl ?_
          refine v_pick_f rfl rfl ?_
          refine v_nil ?_
          refine d_q rfl rfl rfl rfl rfl ?_
          refine v_move rfl ?_
          refine v_nil ?_
          refine d_q rfl rfl rfl rfl rfl ?_
          refine v_fa_pt (off' := 1) lay27 rfl rfl rfl ?_
          refine v_nil ?_
          refine d_q rfl rfl rfl rfl rfl ?_
          refine v_load_pt (.c _) lay23 rfl rfl rfl rfl ?_
          refine v_nil ?_
          refine d_q rfl rfl rfl rfl rfl ?_
          refine v_lss lay23 rfl rfl (fun h9 => ?_) (fun h9 => ?_)
          · skip
            refine v_nil ?_
            refine d_q rfl rfl rfl rfl rfl ?_
            refine v_pick_f rfl rfl ?_
            refine v_nil ?_
            refine d_q rfl rfl rfl rfl rfl ?_
            refine v_move rfl ?_
            refine v_nil ?_
            refine d_off rfl rfl ?_
            refine d_off rfl rfl ?_
            refine d_off rfl rfl ?_
            refine d_off rfl rfl ?_
            refine d_off rfl rfl ?_
            refine d_q rfl rfl rfl rfl rfl ?_
            refine v_pick_t (v := .v (.bool true)) rfl rfl ?_
            refine v_nil ?_
            refine d_nil ?_
            refine q_n ?_
            refine w_t rfl ?_
            refine w_seq ?_
            refine w_reg rfl ?_
            refine v_assign (c := .v (.bool false)) rfl ?_
            refine v_nil ?_
            refine q_n ?_
            refine w_ret (q_br (q_r (q_r (q_br (q_r ?_)))))
            refine r_r rfl ?_
            exact a_b (by simp only [Bool.false_eq_true, false_iff]; exact fun h => by have h := h.2 i hq2; have := h.2.1; omega)
          · skip
            refine v_nil ?_
            refine d_q rfl rfl rfl rfl rfl ?_
            refine v_pick_f rfl rfl ?_
            refine v_nil ?_
            refine d_q rfl rfl rfl rfl rfl ?_
            refine v_move rfl ?_
            refine v_nil ?_
            refine d_q rfl rfl rfl rfl rfl ?_
            refine v_fa_pt (off' := 2) lay27 rfl rfl rfl ?_
            refine v_nil ?_
            refine d_q rfl rfl rfl rfl rfl ?_
            refine v_load_pt (.c _) lay23 rfl rfl rfl rfl ?_
            refine v_nil ?_
            refine d_q rfl rfl rfl rfl rfl ?_
            refine v_conv_ii lay23 lay2 rfl (i64r (by have := hb _ (List.getElem_mem hq2); omega)) ?_
            refine v_nil ?_
            refine d_callb (c67 _ _ _) rfl rfl rfl rfl (.cons vw_v (.cons vw_v (.cons vw_v .nil))) (fun h10 => ?_) (fun h10 => ?_)
            · skip
              refine d_q rfl rfl rfl rfl rfl ?_
              refine v_not false rfl rfl ?_
              refine v_nil ?_
              refine d_q rfl rfl rfl rfl rfl ?_
              refine v_pick_f rfl rfl ?_
              refine v_nil ?_
              refine d_nil ?_
              refine q_n ?_
              refine w_f rfl ?_
              refine w_skip ?_
              refine q_bn ?_
              refine q_n ?_
              refine w_reg rfl ?_
              refine v_add lay3 rfl rfl (i64r (by omega)) ?_
              refine v_move rfl ?_
              refine v_nil ?_
              refine q_n ?_
              refine ⟨_, _, _, ?_, ⟨i + 1, rfl, by omega, ok_step hp ⟨h3, by omega, h10.1, h10.2, fun p hp2 he => absurd he (by omega)⟩, rfl, rfl⟩, by omega⟩
              exact turn0 ⟨tr_sl, tr_sl, tr_v, tr_v, trivial⟩
            · skip
              refine d_q rfl rfl rfl rfl rfl ?_
              refine v_not true rfl rfl ?_
              refine v_nil ?_
              refine d_q rfl rfl rfl rfl rfl ?_
              refine v_pick_f rfl rfl ?_
              refine v_nil ?_
              refine d_nil ?_
              refine q_n ?_
              refine w_t rfl ?_
              refine w_seq ?_
              refine w_reg rfl ?_
              refine v_assign (c := .v (.bool false)) rfl ?_
              refine v_nil ?_
              refine q_n ?_
              refine w_ret (q_br (q_r (q_r (q_br (q_r ?_)))))
              refine r_r rfl ?_
              exact a_b (by simp only [Bool.false_eq_true, false_iff]; exact fun h => by have h := h.2 i hq2; exact absurd ⟨h.2.2.1, h.2.2.2.1⟩ h10)
      · skip
        refine d_q rfl rfl rfl rfl rfl ?_
        refine v_not true rfl rfl ?_
        refine v_nil ?_
        refine d_q rfl rfl rfl rfl rfl ?_
        refine v_move rfl ?_
        refine v_nil ?_
        refine d_off rfl rfl ?_
        refine d_off rfl rfl ?_
        refine d_off rfl rfl ?_
        refine d_off rfl rfl ?_
        refine d_off rfl rfl ?_
        refine d_off rfl rfl ?_
        refine d_off rfl rfl ?_
        refine d_off rfl rfl ?_
        refine d_off rfl rfl ?_
        refine d_off rfl rfl ?_
        refine d_off rfl rfl ?_
        refine d_off rfl rfl ?_
        refine d_off rfl rfl ?_
        refine d_q rfl rfl rfl rfl rfl ?_
        refine v_pick_t (v := .v (.bool true)) rfl rfl ?_
        refine v_nil ?_
        refine d_q rfl rfl rfl rfl rfl ?_
        refine v_move rfl ?_
        refine v_nil ?_
        refine d_off rfl rfl ?_
        refine d_off rfl rfl ?_
        refine d_off rfl rfl ?_
        refine d_q rfl rfl rfl rfl rfl ?_
        refine v_pick_t (v := .v (.bool true)) rfl rfl ?_
        refine v_nil ?_
        refine d_q rfl rfl rfl rfl rfl ?_
        refine v_move rfl ?_
        refine v_nil ?_
        refine d_off rfl rfl ?_
        refine d_off rfl rfl ?_
        refine d_off rfl rfl ?_
        refine d_off rfl rfl ?_
        refine d_off rfl rfl ?_
        refine d_q rfl rfl rfl rfl rfl ?_
        refine v_pick_t (v := .v (.bool true)) rfl rfl ?_
        refine v_nil ?_
        refine d_nil ?_
        refine q_n ?_
        refine w_t rfl ?_
        refine w_seq ?_
        refine w_reg rfl ?_
        refine v_assign (c := .v (.bool false)) rfl ?_
        refine v_nil ?_
        refine q_n ?_
        refine w_ret (q_br (q_r (q_r (q_br (q_r ?_)))))
        refine r_r rfl ?_
        exact a_b (by simp only [Bool.false_eq_true, false_iff]; exact fun h => by have h := h.2 i hq2; exact absurd h.1 h3)
    · skip
      refine v_nil ?_
      refine q_n ?_
      refine w_seq ?_
      refine w_f rfl ?_
      refine w_exit ?_
      refine q_e ?_
      refine q_e ?_
      refine q_hit ?_
      refine q_n ?_
      refine w_seq ?_
      refine w_reg rfl ?_
      refine v_move rfl ?_
      refine v_len_sl lay40 rfl ?_
      refine v_leq lay3 rfl rfl (fun h11 => ?_) (fun h11 => ?_)
      · skip
        refine v_assign rfl ?_
        refine v_nil ?_
        refine q_n ?_
        refine w_ret ?_
        refine r_r rfl ?_
        have he : i = xs.length := by omega
        exact a_b (by simp only [true_iff]; exact ⟨by omega, fun j hj => hp j hj (by omega)⟩)
      · skip
        refine v_assign rfl ?_
        refine v_nil ?_
        refine q_n ?_
        refine w_ret ?_
        refine r_r rfl ?_
        exact a_b (by simp only [Bool.false_eq_true, false_iff]; exact fun h => by have := h.1; omega)

/-- A share: an amount that is not above one. -/
def shOk (x : Option Nat) : Prop := amtB x = true ∧ (ford .f32 x (fOf .f32 1065353216) == some .lt || ford .f32 x (fOf .f32 1065353216) == some .eq) = true
instance (x : Option Nat) : Decidable (shOk x) := by unfold shOk; infer_instance

theorem c71 (x : Option Nat) : PureC X 71 [.c (.f .f32 x)] (cB (decide (shOk x))) := by
  refine PureC.of_body (drawD_ok X) (fun _ _ => Go.Proofs.Try.call71 _ _) Go.Proofs.Try.func71 rfl (n := 9) rfl ?_
  refine w_seq ?_
  refine w_reg rfl ?_
  refine v_assign (c := .v (.bool false)) rfl ?_
  refine v_nil ?_
  refine q_n ?_
  refine w_seq ?_
  refine w_reg rfl ?_
  refine v_move rfl ?_
  refine v_callb (c77 _) rfl rfl (.cons vw_f .nil) (fun h1 => ?_) (fun h1 => ?_)
  · skip
    refine v_move rfl ?_
    refine v_guard_on rfl rfl ?_
    refine v_move rfl ?_
    refine v_guard_on rfl rfl ?_
    refine v_binb lay22 rfl rfl rfl (fun h2 => ?_) (fun h2 => ?_)
    · skip
      refine v_pick_t rfl rfl ?_
      refine v_assign rfl ?_
      refine v_nil ?_
      refine q_n ?_
      refine w_ret ?_
      refine r_r rfl ?_
      exact a_b ⟨fun _ => ⟨h1, h2⟩, fun _ => rfl⟩
    · skip
      refine v_pick_t rfl rfl ?_
      refine v_assign rfl ?_
      refine v_nil ?_
      refine q_n ?_
      refine w_ret ?_
      refine r_r rfl ?_
      exact a_b ⟨fun h => (by cases h), fun h => absurd (h2.symm.trans h.2) (by decide)⟩
  · skip
    refine v_move rfl ?_
    refine v_guard_off rfl rfl rfl ?_
    refine v_guard_off rfl rfl rfl ?_
    refine v_pick_f (v := .v (.bool false)) rfl rfl ?_
    refine v_assign rfl ?_
    refine v_nil ?_
    refine q_n ?_
    refine w_ret ?_
    refine r_r rfl ?_
    exact a_b ⟨fun h => (by cases h), fun h => absurd h.1 h1⟩

theorem c73 (x : Option Nat) (hx : Sg x) : PureC X 73 [.c (.f .f32 x)] (cB (decide (shOk x))) := by
  refine PureC.of_body (drawD_ok X) (fun _ _ => Go.Proofs.Try.call73 _ _) Go.Proofs.Try.func73 rfl (n := 9) rfl ?_
  refine w_seq ?_
  refine w_reg rfl ?_
  refine v_assign (c := .v (.bool false)) rfl ?_
  refine v_nil ?_
  refine q_n ?_
  refine w_seq ?_
  refine w_reg rfl ?_
  refine v_move rfl ?_
  refine v_callb (c80 _ (by assumption)) rfl rfl (.cons vw_f .nil) (fun h1 => ?_) (fun h1 => ?_)
  · skip
    refine v_move rfl ?_
    refine v_guard_on rfl rfl ?_
    refine v_move rfl ?_
    refine v_guard_on rfl rfl ?_
    refine v_binb lay22 rfl rfl rfl (fun h2 => ?_) (fun h2 => ?_)
    · skip
      refine v_pick_t rfl rfl ?_
      refine v_assign rfl ?_
      refine v_nil ?_
      refine q_n ?_
      refine w_ret ?_
      refine r_r rfl ?_
      exact a_b ⟨fun _ => ⟨h1, h2⟩, fun _ => rfl⟩
    · skip
      refine v_pick_t rfl rfl ?_
      refine v_assign rfl ?_
      refine v_nil ?_
      refine q_n ?_
      refine w_ret ?_
      refine r_r rfl ?_
      exact a_b ⟨fun h => (by cases h), fun h => absurd (h2.symm.trans h.2) (by decide)⟩
  · skip
    refine v_move rfl ?_
    refine v_guard_off rfl rfl rfl ?_
    refine v_guard_off rfl rfl rfl ?_
    refine v_pick_f (v := .v (.bool false)) rfl rfl ?_
    refine v_assign rfl ?_
    refine v_nil ?_
    refine q_n ?_
    refine w_ret ?_
    refine r_r rfl ?_
    exact a_b ⟨fun h => (by cases h), fun h => absurd h.1 h1⟩

theorem c78 (a : Int) : PureC X 78 [cI a] (cB (decide (1 ≤ a ∧ a ≤ 96))) := by
  refine PureC.of_body (drawD_ok X) (fun _ _ => Go.Proofs.Try.call78 _ _) Go.Proofs.Try.func78 rfl (n := 5) rfl ?_
  refine w_seq ?_
  refine w_reg rfl ?_
  refine v_assign (c := .v (.bool false)) rfl ?_
  refine v_nil ?_
  refine q_n ?_
  refine w_seq ?_
  refine w_reg rfl ?_
  refine v_move rfl ?_
  refine v_callb (c104 _ _ _) rfl rfl (.cons vw_v (.cons vw_v (.cons vw_v .nil))) (fun h1 => ?_) (fun h1 => ?_)
  · skip
    refine v_assign rfl ?_
    refine v_nil ?_
    refine q_n ?_
    refine w_ret ?_
    refine r_r rfl ?_
    exact a_b (by simp_all)
  · skip
    refine v_assign rfl ?_
    refine v_nil ?_
    refine q_n ?_
    refine w_ret ?_
    refine r_r rfl ?_
    exact a_b (by simp_all)

theorem c81 (a : Int) : PureC X 81 [cI a] (cB (decide (1 ≤ a ∧ a ≤ 96))) := by
  refine PureC.of_body (drawD_ok X) (fun _ _ => Go.Proofs.Try.call81 _ _) Go.Proofs.Try.func81 rfl (n := 5) rfl ?_
  refine w_seq ?_
  refine w_reg rfl ?_
  refine v_assign (c := .v (.bool false)) rfl ?_
  refine v_nil ?_
  refine q_n ?_
  refine w_seq ?_
  refine w_reg rfl ?_
  refine v_move rfl ?_
  refine v_callb (c67 _ _ _) rfl rfl (.cons vw_v (.cons vw_v (.cons vw_v .nil))) (fun h1 => ?_) (fun h1 => ?_)
  · skip
    refine v_assign rfl ?_
    refine v_nil ?_
    refine q_n ?_
    refine w_ret ?_
    refine r_r rfl ?_
    exact a_b (by simp_all)
  · skip
    refine v_assign rfl ?_
    refine v_nil ?_
    refine q_n ?_
    refine w_ret ?_
    refine r_r rfl ?_
    exact a_b (by simp_all)

theorem c127 (a : Int) : PureC X 127 [cI a] (cB (decide False)) := by
  refine PureC.of_body (drawD_ok X) (fun _ _ => Go.Proofs.Try.call127 _ _) Go.Proofs.Try.func127 rfl (n := 6) rfl ?_
  refine w_seq ?_
  refine w_reg rfl ?_
  refine v_assign (c := .v (.bool false)) rfl ?_
  refine v_nil ?_
  refine q_n ?_
  refine w_seq ?_
  refine w_reg rfl ?_
  refine v_move rfl ?_
  refine v_move rfl ?_
  refine v_neq lay2 rfl rfl (fun h1 => ?_) (fun h1 => ?_)
  · skip
    exact absurd rfl h1
  · skip
    refine v_assign rfl ?_
    refine v_nil ?_
    refine q_n ?_
    refine w_ret ?_
    refine r_r rfl ?_
    exact a_b ⟨fun h => (by cases h), False.elim⟩

theorem c115 (a b : Int) : PureC X 115 [cI a, cI b] (cI (cmp3 a b)) := by
  refine PureC.of_body (drawD_ok X) (fun _ _ => Go.Proofs.Try.call115 _ _) Go.Proofs.Try.func115 rfl (n := 20) rfl ?_
  refine w_seq ?_
  refine w_reg rfl ?_
  refine v_assign (c := .v (.int .i64 0)) rfl ?_
  refine v_nil ?_
  refine q_n ?_
  refine w_seq ?_
  refine w_reg rfl ?_
  refine v_move rfl ?_
  refine v_callb (c127 _) rfl rfl (.cons vw_v .nil) (fun h1 => ?_) (fun h1 => ?_)
  · skip
    exact h1.elim
  · skip
    refine v_assign rfl ?_
    refine v_nil ?_
    refine q_n ?_
    refine w_seq ?_
    refine w_reg rfl ?_
    refine v_move rfl ?_
    refine v_callb (c127 _) rfl rfl (.cons vw_v .nil) (fun h2 => ?_) (fun h2 => ?_)
    · skip
      exact h2.elim
    · skip
      refine v_assign rfl ?_
      refine v_nil ?_
      refine q_n ?_
      refine w_seq ?_
      refine w_seq ?_
      refine w_reg rfl ?_
      refine v_move rfl ?_
      refine v_nil ?_
      refine q_n ?_
      refine w_f rfl ?_
      refine w_skip ?_
      refine q_n ?_
      refine w_seq ?_
      refine w_seq ?_
      refine w_reg rfl ?_
      refine v_move rfl ?_
      refine v_nil ?_
      refine q_n ?_
      refine w_f rfl ?_
      refine w_skip ?_
      refine q_n ?_
      refine w_seq ?_
      refine w_seq ?_
      refine w_reg rfl ?_
      refine v_move rfl ?_
      refine v_move rfl ?_
      refine v_lss lay2 rfl rfl (fun h3 => ?_) (fun h3 => ?_)
      · skip
        refine v_nil ?_
        refine q_n ?_
        refine w_t rfl ?_
        refine w_seq ?_
        refine w_reg rfl ?_
        refine v_assign (c := .v (.int .i64 (-1))) rfl ?_
        refine v_nil ?_
        refine q_n ?_
        refine w_ret (q_r ?_)
        refine r_r rfl ?_
        exact a_i (by unfold cmp3; rw [if_pos h3])
      · skip
        refine v_nil ?_
        refine q_n ?_
        refine w_f rfl ?_
        refine w_skip ?_
        refine q_n ?_
        refine w_seq ?_
        refine w_seq ?_
        refine w_reg rfl ?_
        refine v_move rfl ?_
        refine v_move rfl ?_
        refine v_gtr lay2 rfl rfl (fun h4 => ?_) (fun h4 => ?_)
        · skip
          refine v_nil ?_
          refine q_n ?_
          refine w_t rfl ?_
          refine w_seq ?_
          refine w_reg rfl ?_
          refine v_assign (c := .v (.int .i64 1)) rfl ?_
          refine v_nil ?_
          refine q_n ?_
          refine w_ret (q_r ?_)
          refine r_r rfl ?_
          exact a_i (by unfold cmp3; rw [if_neg h3, if_pos (by omega)])
        · skip
          refine v_nil ?_
          refine q_n ?_
          refine w_f rfl ?_
          refine w_skip ?_
          refine q_n ?_
          refine w_seq ?_
          refine w_reg rfl ?_
          refine v_assign (c := .v (.int .i64 0)) rfl ?_
          refine v_nil ?_
          refine q_n ?_
          refine w_ret ?_
          refine r_r rfl ?_
          exact a_i (by unfold cmp3; rw [if_neg h3, if_neg (by omega)])

theorem c114 (t c f b : Int) : PureC X 114 [.agg (tal t c f), cI b] (cI (cmp3 t b)) := by
  refine PureC.of_body (drawD_ok X) (fun _ _ => Go.Proofs.Try.call114 _ _) Go.Proofs.Try.func114 rfl (n := 9) rfl ?_
  refine w_seq ?_
  refine w_reg rfl ?_
  refine v_box (m := 0) (H' := [_]) lay27 rfl rfl rfl ?_
  refine v_assign (c := .v (.int .i64 0)) rfl ?_
  refine v_nil ?_
  refine q_n ?_
  refine w_seq ?_
  refine w_reg rfl ?_
  refine v_fa_pt (off' := 0) lay27 rfl rfl rfl ?_
  refine v_load_pt (.c _) lay2 rfl rfl rfl rfl ?_
  refine v_move rfl ?_
  refine v_call (c115 _ _) rfl rfl rfl (.cons vw_v (.cons vw_v .nil)) ?_
  refine v_assign rfl ?_
  refine v_nil ?_
  refine q_n ?_
  refine w_ret ?_
  refine r_r rfl ?_
  exact a_i rfl

theorem c79 (xs : List Tal) (t : Int) (hx : xs.length ≤ 2 ^ 40) : PureC X 79 [.c (tals false xs), cI t] (cI (fnd xs t)) := by
  refine PureC.of_body (drawD_ok X) (fun _ _ => Go.Proofs.Try.call79 _ _) Go.Proofs.Try.func79 rfl (n := 20) rfl ?_
  refine w_seq ?_
  refine w_reg rfl ?_
  refine v_assign (c := .v (.int .i64 0)) rfl ?_
  refine v_nil ?_
  refine q_n ?_
  refine w_seq ?_
  refine w_seq ?_
  refine w_reg rfl ?_
  refine v_assign (c := .v (.int .i64 0)) rfl ?_
  refine v_nil ?_
  refine q_n ?_
  refine w_block ?_
  refine w_loop (fun k sl H => ∃ i : Nat, k = xs.length - i ∧ i ≤ xs.length ∧ (∀ x ∈ xs.take i, ¬ x.1 = t) ∧ sl = sls [(0, .c (tals false xs)), (1, cI t), (5, cI i)] ∧ H = []) ?_ ?_
  · refine ⟨_, _, _, ?_, 0, rfl, Nat.zero_le _, by simp, rfl, rfl⟩
    exact turn0 ⟨tr_sl, tr_v, tr_v, trivial⟩
  · rintro k sl H ⟨i, rfl, hi, hp, rfl, rfl⟩
    refine w_seq ?_
    refine w_seq ?_
    refine w_reg rfl ?_
    refine v_move rfl ?_
    refine v_move rfl ?_
    refine v_len_sl lay40 rfl ?_
    refine v_lss lay3 rfl rfl (fun h1 => ?_) (fun h1 => ?_)
    · skip
      refine v_nil ?_
      refine q_n ?_
      refine w_t rfl ?_
      refine w_skip ?_
      refine q_n ?_
      refine w_seq ?_
      refine w_block ?_
      refine w_seq ?_
      refine w_reg rfl ?_
      refine v_move rfl ?_
      refine v_move rfl ?_
      refine v_idx (k := 3) te_len lay40 lay27 rfl rfl rfl rfl rfl (by omega) (fun q2 hq2 e2 => ?_)
      obtain rfl : i = q2 := by omega
      refine v_fa_vw (off' := 0) lay27 rfl rfl rfl ?_
      refine v_load_vw (.c (.v _)) lay2 rfl rfl rfl ?_
      refine v_move rfl ?_
      refine v_eql lay2 rfl rfl (fun h3 => ?_) (fun h3 => ?_)
      · skip
        refine v_nil ?_
        refine q_n ?_
        refine w_t rfl ?_
        refine w_seq ?_
        refine w_reg rfl ?_
        refine v_move rfl ?_
        refine v_assign rfl ?_
        refine v_nil ?_
        refine q_n ?_
        refine w_ret (q_br (q_r (q_r (q_br (q_r ?_)))))
        refine r_r rfl ?_
        exact a_i (fnd_hit hq2 hp h3).symm
      · skip
        refine v_nil ?_
        refine q_n ?_
        refine w_f rfl ?_
        refine w_skip ?_
        refine q_bn ?_
        refine q_n ?_
        refine w_reg rfl ?_
        refine v_move rfl ?_
        refine v_add lay3 rfl rfl (i64r (by omega)) ?_
        refine v_assign rfl ?_
        refine v_nil ?_
        refine q_n ?_
        refine ⟨_, _, _, ?_, ⟨i + 1, rfl, by omega, all_step hq2 hp h3, rfl, rfl⟩, by omega⟩
        exact turn0 ⟨tr_sl, tr_v, tr_v, trivial⟩
    · skip
      refine v_nil ?_
      refine q_n ?_
      refine w_f rfl ?_
      refine w_exit ?_
      refine q_e ?_
      refine q_e ?_
      refine q_hit ?_
      refine q_n ?_
      refine w_seq ?_
      refine w_reg rfl ?_
      refine v_assign (c := .v (.int .i64 (-1))) rfl ?_
      refine v_nil ?_
      refine q_n ?_
      refine w_ret ?_
      refine r_r rfl ?_
      obtain rfl : i = xs.length := by omega
      rw [List.take_length] at hp
      exact a_i (fnd_none hp).symm

theorem c113 (ys : List Tal) (t : Int) (hx : ys.length ≤ 2 ^ 40) (hs : srt ys) : PureC X 113 [.c (tals false ys), cI t, .c (.fn 114 [])] (.tup [cI (lowb ys t), cB (decide (0 ≤ fnd ys t))]) := by
  refine PureC.of_body (drawD_ok X) (fun _ _ => Go.Proofs.Try.call113 _ _) Go.Proofs.Try.func113 rfl (n := 49) rfl ?_
  refine w_seq ?_
  refine w_reg rfl ?_
  refine v_assign (c := .v (.int .i64 0)) rfl ?_
  refine v_assign (c := .v (.bool false)) rfl ?_
  refine v_nil ?_
  refine q_n ?_
  refine w_seq ?_
  refine w_reg rfl ?_
  refine v_move rfl ?_
  refine v_len_sl lay40 rfl ?_
  refine v_assign rfl ?_
  refine v_nil ?_
  refine q_n ?_
  refine w_seq ?_
  refine w_reg rfl ?_
  refine v_move rfl ?_
  refine v_assign (c := .v (.int .i64 0)) rfl ?_
  refine v_assign rfl ?_
  refine v_nil ?_
  refine q_n ?_
  refine w_seq ?_
  refine w_block ?_
  refine w_loop (fun k sl H => ∃ i j : Nat, k = j - i ∧ i ≤ j ∧ j ≤ ys.length ∧ (∀ a (ha : a < ys.length), a < i → ys[a].1 < t) ∧ (∀ a (ha : a < ys.length), j ≤ a → t ≤ ys[a].1) ∧ sl = sls [(0, .c (tals false ys)), (1, cI t), (2, .c (.fn 114 [])), (8, cI ys.length), (9, cI i), (10, cI j)] ∧ H = []) ?_ ?_
  · refine ⟨_, _, _, ?_, 0, ys.length, rfl, Nat.zero_le _, Nat.le_refl _, fun a ha h => absurd h (Nat.not_lt_zero _), fun a ha h => absurd ha (by omega), rfl, rfl⟩
    exact turn0 ⟨tr_sl, tr_v, tr_fn0, tr_v, tr_v, tr_v, trivial⟩
  · rintro k sl H ⟨i, j, rfl, hij, hj, hlo, hhi, rfl, rfl⟩
    refine w_seq ?_
    refine w_seq ?_
    refine w_reg rfl ?_
    refine v_move rfl ?_
    refine v_move rfl ?_
    refine v_lss lay3 rfl rfl (fun h1 => ?_) (fun h1 => ?_)
    · skip
      refine v_nil ?_
      refine q_n ?_
      refine w_t rfl ?_
      refine w_skip ?_
      refine q_n ?_
      refine w_block ?_
      refine w_seq ?_
      refine w_reg rfl ?_
      refine v_move rfl ?_
      refine v_move rfl ?_
      refine v_add lay3 rfl rfl (i64r (by omega)) ?_
      refine v_conv_ii lay3 lay129 rfl (by first | exact i64r (by omega) | exact u64r (by omega)) ?_
      refine v_shr lay129 rfl rfl (shr1) (by decide) ?_
      refine v_conv_ii lay129 lay3 rfl (by first | exact i64r (by omega) | exact u64r (by omega)) ?_
      refine v_assign rfl ?_
      refine v_nil ?_
      refine q_n ?_
      refine w_seq ?_
      refine w_reg rfl ?_
      refine v_move rfl ?_
      refine v_move rfl ?_
      refine v_move rfl ?_
      refine v_idx (k := 3) te_len lay40 lay27 rfl rfl rfl rfl rfl (by omega) (fun q2 hq2 e2 => ?_)
      refine v_load_vw (.agg [.v _, .v _, .v _]) lay27 rfl rfl rfl ?_
      refine v_move rfl ?_
      refine v_call (c114 _ _ _ _) rfl rfl rfl (.cons (vw_agg (.cons vw_v (.cons vw_v (.cons vw_v .nil)))) (.cons vw_v .nil)) ?_
      refine v_lss lay3 rfl rfl (fun h3 => ?_) (fun h3 => ?_)
      · skip
        refine v_nil ?_
        refine q_n ?_
        refine w_t rfl ?_
        refine w_reg rfl ?_
        refine v_move rfl ?_
        refine v_add lay3 rfl rfl (i64r (by omega)) ?_
        refine v_assign rfl ?_
        refine v_nil ?_
        refine q_bn ?_
        refine q_n ?_
        refine ⟨_, _, _, ?_, ⟨q2 + 1, j, rfl, by omega, hj, fun a ha h => srt_lt hs hq2 (cmp3_lt.1 h3) (by omega), hhi, rfl, rfl⟩, by omega⟩
        exact turn0 ⟨tr_sl, tr_v, tr_fn0, tr_v, a_i (by omega), tr_v, trivial⟩
      · skip
        refine v_nil ?_
        refine q_n ?_
        refine w_f rfl ?_
        refine w_reg rfl ?_
        refine v_move rfl ?_
        refine v_assign rfl ?_
        refine v_nil ?_
        refine q_bn ?_
        refine q_n ?_
        refine ⟨_, _, _, ?_, ⟨i, q2, rfl, by omega, by omega, hlo, fun a ha h => srt_ge hs hq2 (fun hn => h3 (cmp3_lt.2 hn)) ha h, rfl, rfl⟩, by omega⟩
        exact turn0 ⟨tr_sl, tr_v, tr_fn0, tr_v, tr_v, a_i (by omega), trivial⟩
    · skip
      refine v_nil ?_
      refine q_n ?_
      refine w_f rfl ?_
      refine w_exit ?_
      refine q_e ?_
      refine q_e ?_
      refine q_hit ?_
      refine q_n ?_
      refine w_seq ?_
      refine w_reg rfl ?_
      refine v_move rfl ?_
      refine v_move rfl ?_
      refine v_move rfl ?_
      refine v_lss lay3 rfl rfl (fun h4 => ?_) (fun h4 => ?_)
      · skip
        refine v_move rfl ?_
        refine v_guard_on rfl rfl ?_
        refine v_move rfl ?_
        refine v_guard_on rfl rfl ?_
        refine v_move rfl ?_
        refine v_guard_on rfl rfl ?_
        refine v_move rfl ?_
        refine v_guard_on rfl rfl ?_
        refine v_idx (k := 3) te_len lay40 lay27 rfl rfl rfl rfl rfl (by omega) (fun q5 hq5 e5 => ?_)
        obtain rfl : i = q5 := by omega
        refine v_guard_on rfl rfl ?_
        refine v_load_vw (.agg [.v _, .v _, .v _]) lay27 rfl rfl rfl ?_
        refine v_guard_on rfl rfl ?_
        refine v_move rfl ?_
        refine v_guard_on rfl rfl ?_
        refine v_call (c114 _ _ _ _) rfl rfl rfl (.cons (vw_agg (.cons vw_v (.cons vw_v (.cons vw_v .nil)))) (.cons vw_v .nil)) ?_
        refine v_guard_on rfl rfl ?_
        refine v_eql lay3 rfl rfl (fun h6 => ?_) (fun h6 => ?_)
        · skip
          refine v_pick_t rfl rfl ?_
          refine v_assign rfl ?_
          refine v_assign rfl ?_
          refine v_nil ?_
          refine q_n ?_
          refine w_ret ?_
          refine r_r rfl ?_
          have hl := lowb_eq (t := t) (by omega) hlo (fun ha => hhi i ha (by omega))
          exact a_tup (.cons (a_i (by rw [hl])) (.cons (a_b ⟨fun _ => fnd_ge.2 ⟨_, List.getElem_mem hq5, cmp3_eq.1 h6⟩, fun _ => rfl⟩) .nil))
        · skip
          refine v_pick_t rfl rfl ?_
          refine v_assign rfl ?_
          refine v_assign rfl ?_
          refine v_nil ?_
          refine q_n ?_
          refine w_ret ?_
          refine r_r rfl ?_
          have hl := lowb_eq (t := t) (by omega) hlo (fun ha => hhi i ha (by omega))
          exact a_tup (.cons (a_i (by rw [hl])) (.cons (a_b ⟨fun h => (by cases h), fun h => absurd (fnd_ge.1 h) (srt_no hs hq5 hlo (hhi i hq5 (by omega)) (fun hn => h6 (cmp3_eq.2 hn)))⟩) .nil))
      · skip
        refine v_move rfl ?_
        refine v_guard_off rfl rfl rfl ?_
        refine v_guard_off rfl rfl rfl ?_
        refine v_guard_off rfl rfl rfl ?_
        refine v_guard_off rfl rfl rfl ?_
        refine v_guard_off rfl rfl rfl ?_
        refine v_guard_off rfl rfl rfl ?_
        refine v_guard_off rfl rfl rfl ?_
        refine v_guard_off rfl rfl rfl ?_
        refine v_pick_f (v := .v (.bool false)) rfl rfl ?_
        refine v_assign rfl ?_
        refine v_assign rfl ?_
        refine v_nil ?_
        refine q_n ?_
        refine w_ret ?_
        refine r_r rfl ?_
        have hl := lowb_eq (t := t) (by omega) hlo (fun ha => hhi i ha (by omega))
        exact a_tup (.cons (a_i (by rw [hl])) (.cons (a_b ⟨fun h => (by cases h), fun h => absurd (fnd_ge.1 h) (fun ⟨y, hy, he⟩ => by
          obtain ⟨a, ha, rfl⟩ := List.getElem_of_mem hy
          have := hlo a ha (by omega)
          omega)⟩) .nil))

theorem c82 (ys : List Tal) (t : Int) (hx : ys.length ≤ 2 ^ 40) (hs : srt ys) : PureC X 82 [.c (tals false ys), cI t] (.tup [cI (lowb ys t), cB (decide (0 ≤ fnd ys t))]) := by
  refine PureC.of_body (drawD_ok X) (fun _ _ => Go.Proofs.Try.call82 _ _) Go.Proofs.Try.func82 rfl (n := 11) rfl ?_
  refine w_seq ?_
  refine w_reg rfl ?_
  refine v_assign (c := .v (.int .i64 0)) rfl ?_
  refine v_assign (c := .v (.bool false)) rfl ?_
  refine v_nil ?_
  refine q_n ?_
  refine w_seq ?_
  refine w_reg rfl ?_
  refine v_move rfl ?_
  refine v_move rfl ?_
  refine v_call (c113 _ _ (by omega) (by assumption)) rfl rfl rfl (.cons vw_sl (.cons vw_v (.cons (vw_fn .nil) .nil))) ?_
  refine v_extract_c rfl rfl ?_
  refine v_extract_c rfl rfl ?_
  refine v_assign rfl ?_
  refine v_assign rfl ?_
  refine v_nil ?_
  refine q_n ?_
  refine w_ret ?_
  refine r_r rfl ?_
  exact a_tup (.cons tr_v (.cons tr_v .nil))

theorem c82t (ys : List Tal) (t : Int) (hx : ys.length ≤ 2 ^ 40) (hs : srt ys) (h : 0 ≤ fnd ys t) : PureC X 82 [.c (tals false ys), cI t] (.tup [cI (fnd ys t), cB true]) := by
  have h1 := c82 ys t hx hs
  rw [lowb_fnd hs h, show decide (0 ≤ fnd ys t) = true by simp [h]] at h1
  exact h1
theorem c82f (ys : List Tal) (t : Int) (hx : ys.length ≤ 2 ^ 40) (hs : srt ys) (h : ¬ 0 ≤ fnd ys t) : PureC X 82 [.c (tals false ys), cI t] (.tup [cI (lowb ys t), cB false]) := by
  have h1 := c82 ys t hx hs
  rw [show decide (0 ≤ fnd ys t) = false by simp [h]] at h1
  exact h1
end Go.VL
namespace Go.VL
open Go.RowKit
set_option maxRecDepth 20000
def fl2 (n : Int) : Option Nat := some (FloatKind.f32.nearest n)
def fe (x : Option Nat) : List C := [.f .f32 x]
theorem fe_len (x : Option Nat) : (fe x).length = 1 := rfl
theorem fe_sc (x : Option Nat) : (fe x).all sc = true := rfl
abbrev flo (o : Bool) (xs : List (Option Nat)) : C := .sl o xs.length 1 (flat fe xs)
theorem tr_i {H : List Ob} {g : List (Option Nat)} {a b : Int} (h : a = b) : TrV H g (cI a) (cI b) := by rw [h]; exact tr_v
theorem tr_mun {H : List Ob} {g : List (Option Nat)} {i id off n n' k : Nat} (h : g[i]? = some (some id)) (hn : n = n') : TrV H g (.c (.mu id off n k)) (.c (.mu i off n' k)) := by rw [hn]; exact tr_mu h
theorem snoc_eq {α : Type} {enc : α → List C} (f : Nat → α) (i : Nat) {x : α} (h : f i = x) : flat enc ((List.range i).map f ++ [x]) = flat enc ((List.range (i + 1)).map f) := by rw [range_step, h]
/-- The counts made smooth, one by one. -/
def smN (share : Option Nat) (xs : List Tal) : Nat → Option Nat
  | 0 => fl2 (xs.getD 0 (0, 0, 0)).2.1
  | i + 1 => fop .add .f32 (fop .mul .f32 (smN share xs i) (fop .sub .f32 (fOf .f32 1065353216) share)) (fop .mul .f32 (fl2 (xs.getD (i + 1) (0, 0, 0)).2.1) share)
theorem getD_at {xs : List Tal} {i : Nat} (hi : i < xs.length) : xs.getD i (0, 0, 0) = xs[i] := by
  rw [List.getD_eq_getElem?_getD, List.getElem?_eq_getElem hi, Option.getD_some]
theorem sm_first {share : Option Nat} {xs : List Tal} {i : Nat} (hi : i < xs.length) (h : ¬ (0 : Int) < i) : smN share xs i = fl2 xs[i].2.1 := by
  obtain rfl : i = 0 := by omega
  rw [← getD_at hi]; rfl
theorem sm_next {share : Option Nat} {xs : List Tal} {i q : Nat} (hi : i < xs.length) (e : (i : Int) - 1 = q) (hq : q < ((List.range i).map (smN share xs)).length) : smN share xs i = fop .add .f32 (fop .mul .f32 ((List.range i).map (smN share xs))[q] (fop .sub .f32 (fOf .f32 1065353216) share)) (fop .mul .f32 (fl2 xs[i].2.1) share) := by
  obtain rfl : i = q + 1 := by omega
  rw [← getD_at hi, List.getElem_map, List.getElem_range]; rfl
/-- What is answered for a list and a share. -/
noncomputable def smR (xs : List Tal) (share : Option Nat) : List (Option Nat) × Int := if okL xs then if shOk share then ((List.range xs.length).map (smN share xs), 0) else ([], 2) else ([], 1)
section
variable {xs : List Tal} {share : Option Nat}
theorem sm_0 (h1 : okL xs) (h2 : shOk share) : smR xs share = ((List.range xs.length).map (smN share xs), 0) := by unfold smR; rw [if_pos h1, if_pos h2]
theorem sm_2 (h1 : okL xs) (h2 : ¬ shOk share) : smR xs share = ([], 2) := by unfold smR; rw [if_pos h1, if_neg h2]
theorem sm_1 (h1 : ¬ okL xs) : smR xs share = ([], 1) := by unfold smR; rw [if_neg h1]
end
theorem smN_ok (share : Option Nat) (xs : List Tal) : ∀ i, okF .f32 (smN share xs i)
  | 0 => okF_near _
  | i + 1 => fop_ok
theorem sm_ok (xs : List Tal) (share : Option Nat) : ∀ x ∈ (smR xs share).1, okF .f32 x := by
  unfold smR
  split
  · split
    · intro x hx
      simp only [List.mem_map] at hx
      obtain ⟨i, -, rfl⟩ := hx
      exact smN_ok share xs i
    · intro x hx; cases hx
  · intro x hx; cases hx
theorem sm_len (xs : List Tal) (share : Option Nat) : (smR xs share).1.length ≤ xs.length := by
  unfold smR
  split
  · split <;> simp
  · simp
def fmark (a : Int) (j : Nat) : Option Nat := fl2 (a + j)
def tmark (a : Int) (j : Nat) : Tal := (a + 3 * j, IntKind.i16.wrap (a + 3 * j + 1), IntKind.i16.wrap (a + 3 * j + 1 + 1))
def set1 (X : Tal) (b : Int) : Tal := (b, X.2.1, X.2.2)
def set2 (X : Tal) (b : Int) : Tal := (X.1, b, X.2.2)
def set3 (X : Tal) (b : Int) : Tal := (X.1, X.2.1, b)
theorem te1 (X : Tal) (b : Int) : te (set1 X b) = setCells (te X) 0 [.v (.int .i64 b)] := rfl
theorem te2 (X : Tal) (b : Int) : te (set2 X b) = setCells (te X) 1 [.v (.int .i16 b)] := rfl
theorem te3 (X : Tal) (b : Int) : te (set3 X b) = setCells (te X) 2 [.v (.int .i16 b)] := rfl
theorem tmark_step {a : Int} {i : Nat} {xs : List Tal} (h : i < xs.length) {y1 y2 y3 : Tal} (h3 : y3 = tmark a i) : (((marks (tmark a) i xs).set i y1).set i y2).set i y3 = marks (tmark a) (i + 1) xs := by
  rw [List.set_set, List.set_set, h3]
  exact marks_step h
theorem held_eq {n i : Nat} {a : Int} (hq : i < ((List.range n).map (fmark a)).length) : (ford .f32 ((List.range n).map (fmark a))[i] (some (FloatKind.f32.nearest (a + i))) != some .eq) = false := by
  rw [List.getElem_map, List.getElem_range, show fmark a i = some (FloatKind.f32.nearest (a + i)) from rfl, ford_self (okF_near _)]
  rfl
theorem c22l (xs : List Tal) (hx : xs.length ≤ 2 ^ 40) : LiveC X 22 [.c (tals false xs)] (.c (.mu 0 0 xs.length 3)) [⟨flat te xs, 27, true⟩] := by
  refine LiveC.of_body (drawD_ok X) (fun _ _ => Go.Proofs.Try.call22 _ _) Go.Proofs.Try.func22 rfl (n := 23) rfl ?_
  refine w_seq ?_
  refine w_reg rfl ?_
  refine v_assign rfl ?_
  refine v_nil ?_
  refine q_n ?_
  refine w_seq ?_
  refine w_reg rfl ?_
  refine v_move rfl ?_
  refine v_len_sl lay35 rfl ?_
  refine v_make (enc := te) (a0 := ((0, 0, 0) : Tal)) (m := 0) (H' := [_]) rfl lay40 lay27 rfl rfl rfl rfl (xs.length) (rfl) (by unfold maxLen; simp only []; omega) rfl rfl ?_
  refine v_assign rfl ?_
  refine v_nil ?_
  refine q_n ?_
  refine w_seq ?_
  refine w_seq ?_
  refine w_reg rfl ?_
  refine v_assign (c := .v (.int .i64 0)) rfl ?_
  refine v_nil ?_
  refine q_n ?_
  refine w_block ?_
  refine w_loop (fun k sl H => ∃ i : Nat, k = xs.length - i ∧ i ≤ xs.length ∧ sl = sls [(0, .c (tals false xs)), (3, .c (.mu 0 0 xs.length 3)), (4, cI i)] ∧ H = [⟨flat te (xs.take i ++ List.replicate (xs.length - i) (0, 0, 0)), 27, true⟩]) ?_ ?_
  · refine ⟨_, _, _, ?_, 0, rfl, Nat.zero_le _, rfl, rfl⟩
    exact turn [some 0] rfl rfl rfl ⟨⟨_, rfl, .stay (stays_flat te_sc _)⟩, trivial⟩ ⟨tr_sl, tr_mu rfl, tr_v, trivial⟩
  · rintro k sl H ⟨i, rfl, hi, rfl, rfl⟩
    refine w_seq ?_
    refine w_seq ?_
    refine w_reg rfl ?_
    refine v_move rfl ?_
    refine v_move rfl ?_
    refine v_len_sl lay35 rfl ?_
    refine v_lss lay3 rfl rfl (fun h1 => ?_) (fun h1 => ?_)
    · skip
      refine v_nil ?_
      refine q_n ?_
      refine w_t rfl ?_
      refine w_skip ?_
      refine q_n ?_
      refine w_seq ?_
      refine w_block ?_
      refine w_reg rfl ?_
      refine v_move rfl ?_
      refine v_move rfl ?_
      refine v_move rfl ?_
      refine v_move rfl ?_
      refine v_idx (k := 3) te_len lay35 lay88 rfl rfl rfl (rfl) rfl (by omega) (fun q2 hq2 e2 => ?_)
      obtain rfl : i = q2 := by omega
      refine v_load_vw (.agg [.v _, .v _, .v _]) lay88 rfl rfl rfl ?_
      refine v_call (c72 _ _ _) rfl rfl rfl (.cons (vw_agg (.cons vw_v (.cons vw_v (.cons vw_v .nil)))) .nil) ?_
      refine v_idx_mu (k := 3) (off := 0) lay40 lay27 rfl rfl rfl (by omega) (fun q3 hq3 e3 => ?_)
      obtain rfl : i = q3 := by omega
      refine v_store_flat (H' := [_]) i 0 (xs[i]) te_len lay27 rfl rfl rfl (by omega) (by simp; omega) rfl rfl (rfl) rfl ?_
      refine v_nil ?_
      refine q_bn ?_
      refine q_n ?_
      refine w_reg rfl ?_
      refine v_move rfl ?_
      refine v_add lay3 rfl rfl (i64r (by omega)) ?_
      refine v_assign rfl ?_
      refine v_nil ?_
      refine q_n ?_
      refine ⟨_, _, _, ?_, ⟨i + 1, rfl, by omega, rfl, rfl⟩, by omega⟩
      exact turn [some 0] rfl rfl rfl ⟨⟨_, rfl, by rw [fill_step hq2]; exact .stay (stays_flat te_sc _)⟩, trivial⟩ ⟨tr_sl, tr_mu rfl, tr_v, trivial⟩
    · skip
      refine v_nil ?_
      refine q_n ?_
      refine w_f rfl ?_
      refine w_exit ?_
      refine q_e ?_
      refine q_e ?_
      refine q_hit ?_
      refine q_n ?_
      refine w_seq ?_
      refine w_reg rfl ?_
      refine v_move rfl ?_
      refine v_assign rfl ?_
      refine v_nil ?_
      refine q_n ?_
      refine w_ret ?_
      refine r_r rfl ?_
      obtain rfl : i = xs.length := by omega
      exact l_ans [some 0] rfl rfl ⟨⟨_, rfl, trc_flat te_sc (by simp)⟩, trivial⟩ (tr_mu rfl)

theorem c21 (xs : List Tal) (share : Option Nat) (hx : xs.length ≤ 2 ^ 40) : PureC X 21 [.c (tals false xs), .c (.f .f32 share)] (.tup [.c (flo true (smR xs share).1), cI (smR xs share).2]) := by
  refine PureC.of_body (drawD_ok X) (fun _ _ => Go.Proofs.Try.call21 _ _) Go.Proofs.Try.func21 rfl (n := 49) rfl ?_
  refine w_seq ?_
  refine w_reg rfl ?_
  refine v_assign rfl ?_
  refine v_assign (c := .v (.int .i64 0)) rfl ?_
  refine v_nil ?_
  refine q_n ?_
  refine w_seq ?_
  refine w_seq ?_
  refine w_reg rfl ?_
  refine v_move rfl ?_
  refine v_callb (c70 _ (by omega)) rfl rfl (.cons vw_sl .nil) (fun h1 => ?_) (fun h1 => ?_)
  · skip
    refine v_not false rfl rfl ?_
    refine v_nil ?_
    refine q_n ?_
    refine w_f rfl ?_
    refine w_skip ?_
    refine q_n ?_
    refine w_seq ?_
    refine w_seq ?_
    refine w_reg rfl ?_
    refine v_move rfl ?_
    refine v_callb (c71 _) rfl rfl (.cons vw_f .nil) (fun h2 => ?_) (fun h2 => ?_)
    · skip
      refine v_not false rfl rfl ?_
      refine v_nil ?_
      refine q_n ?_
      refine w_f rfl ?_
      refine w_skip ?_
      refine q_n ?_
      refine w_seq ?_
      refine w_reg rfl ?_
      refine v_lit (flat fe []) (H' := [_]) lay37 lay22 rfl rfl ⟨by decide, by decide⟩ rfl rfl ?_
      refine v_assign rfl ?_
      refine v_nil ?_
      refine q_n ?_
      refine w_seq ?_
      refine w_seq ?_
      refine w_reg rfl ?_
      refine v_assign (c := .v (.int .i64 0)) rfl ?_
      refine v_nil ?_
      refine q_n ?_
      refine w_block ?_
      refine w_loop (fun k sl H => ∃ i : Nat, k = xs.length - i ∧ i ≤ xs.length ∧ sl = sls [(0, .c (tals false xs)), (1, .c (.f .f32 share)), (6, .c (.mu 0 0 i 1)), (7, cI i)] ∧ H = [⟨flat fe ((List.range i).map (smN share xs)), 22, true⟩]) ?_ ?_
      · refine ⟨_, _, _, ?_, 0, rfl, Nat.zero_le _, rfl, rfl⟩
        exact turn [some 0] rfl rfl rfl ⟨⟨_, rfl, trc_flat fe_sc rfl⟩, trivial⟩ ⟨tr_sl, tr_f, tr_mu rfl, tr_v, trivial⟩
      · rintro k sl H ⟨i, rfl, hi, rfl, rfl⟩
        refine w_seq ?_
        refine w_seq ?_
        refine w_reg rfl ?_
        refine v_move rfl ?_
        refine v_move rfl ?_
        refine v_len_sl lay40 rfl ?_
        refine v_lss lay3 rfl rfl (fun h3 => ?_) (fun h3 => ?_)
        · skip
          refine v_nil ?_
          refine q_n ?_
          refine w_t rfl ?_
          refine w_skip ?_
          refine q_n ?_
          refine w_seq ?_
          refine w_block ?_
          refine w_seq ?_
          refine w_reg rfl ?_
          refine v_move rfl ?_
          refine v_move rfl ?_
          refine v_idx (k := 3) te_len lay40 lay27 rfl rfl rfl (rfl) rfl (by omega) (fun q4 hq4 e4 => ?_)
          obtain rfl : i = q4 := by omega
          refine v_fa_vw (off' := 1) lay27 rfl rfl rfl ?_
          refine v_load_vw (.c (.v _)) lay23 rfl rfl rfl ?_
          refine v_conv_if lay23 lay22 rfl ?_
          refine v_assign rfl ?_
          refine v_nil ?_
          refine q_n ?_
          refine w_seq ?_
          refine w_seq ?_
          refine w_reg rfl ?_
          refine v_move rfl ?_
          refine v_gtr lay3 rfl rfl (fun h5 => ?_) (fun h5 => ?_)
          · skip
            refine v_nil ?_
            refine q_n ?_
            refine w_t rfl ?_
            refine w_reg rfl ?_
            refine v_move rfl ?_
            refine v_move rfl ?_
            refine v_sub lay3 rfl rfl (i64r (by omega)) ?_
            refine v_idx_mu (k := 1) (off := 0) lay37 lay22 rfl rfl rfl (by omega) (fun q6 hq6 e6 => ?_)
            refine v_load_flat q6 0 (.c (.f _ _)) fe_len lay22 rfl rfl (by omega) (by simp; omega) rfl rfl ?_
            refine v_move rfl ?_
            refine v_bin (c := .f _ _) lay22 rfl rfl rfl ?_
            refine v_bin (c := .f _ _) lay22 rfl rfl rfl ?_
            refine v_move rfl ?_
            refine v_move rfl ?_
            refine v_bin (c := .f _ _) lay22 rfl rfl rfl ?_
            refine v_bin (c := .f _ _) lay22 rfl rfl rfl ?_
            refine v_assign rfl ?_
            refine v_nil ?_
            refine q_n ?_
            refine w_reg rfl ?_
            refine v_move rfl ?_
            refine v_move rfl ?_
            refine v_lit (flat fe [_]) (H' := [_, _]) lay37 lay22 rfl rfl ⟨by decide, by decide⟩ rfl rfl ?_
            refine v_app_flat (H' := [_, _, _]) fe_sc fe_len lay37 lay22 rfl rfl (by simp) rfl rfl (by simp) rfl rfl (by unfold maxLen; simp only []; omega) rfl rfl ?_
            refine v_assign rfl ?_
            refine v_nil ?_
            refine q_bn ?_
            refine q_n ?_
            refine w_reg rfl ?_
            refine v_move rfl ?_
            refine v_add lay3 rfl rfl (i64r (by omega)) ?_
            refine v_assign rfl ?_
            refine v_nil ?_
            refine q_n ?_
            refine ⟨_, _, _, ?_, ⟨i + 1, rfl, by omega, rfl, rfl⟩, by omega⟩
            exact turn [some 2] rfl rfl rfl ⟨⟨_, rfl, trc_flat fe_sc (snoc_eq _ i (sm_next hq4 e6 _))⟩, trivial⟩ ⟨tr_sl, tr_f, tr_mu rfl, tr_v, trivial⟩
          · skip
            refine v_nil ?_
            refine q_n ?_
            refine w_f rfl ?_
            refine w_skip ?_
            refine q_n ?_
            refine w_reg rfl ?_
            refine v_move rfl ?_
            refine v_move rfl ?_
            refine v_lit (flat fe [_]) (H' := [_, _]) lay37 lay22 rfl rfl ⟨by decide, by decide⟩ rfl rfl ?_
            refine v_app_flat (H' := [_, _, _]) fe_sc fe_len lay37 lay22 rfl rfl (by simp) rfl rfl (by simp) rfl rfl (by unfold maxLen; simp only []; omega) rfl rfl ?_
            refine v_assign rfl ?_
            refine v_nil ?_
            refine q_bn ?_
            refine q_n ?_
            refine w_reg rfl ?_
            refine v_move rfl ?_
            refine v_add lay3 rfl rfl (i64r (by omega)) ?_
            refine v_assign rfl ?_
            refine v_nil ?_
            refine q_n ?_
            refine ⟨_, _, _, ?_, ⟨i + 1, rfl, by omega, rfl, rfl⟩, by omega⟩
            exact turn [some 2] rfl rfl rfl ⟨⟨_, rfl, trc_flat fe_sc (snoc_eq _ i (sm_first hq4 h5))⟩, trivial⟩ ⟨tr_sl, tr_f, tr_mu rfl, tr_v, trivial⟩
        · skip
          refine v_nil ?_
          refine q_n ?_
          refine w_f rfl ?_
          refine w_exit ?_
          refine q_e ?_
          refine q_e ?_
          refine q_hit ?_
          refine q_n ?_
          refine w_seq ?_
          refine w_reg rfl ?_
          refine v_move rfl ?_
          refine v_assign rfl ?_
          refine v_assign (c := .v (.int .i64 0)) rfl ?_
          refine v_nil ?_
          refine q_n ?_
          refine w_ret ?_
          refine r_r rfl ?_
          obtain rfl : i = xs.length := by omega
          rw [sm_0 h1 h2]
          exact a_tup (.cons (a_flat2 fe_sc fe_len rfl rfl (by simp) (by simp)) (.cons tr_v .nil))
    · skip
      refine v_not true rfl rfl ?_
      refine v_nil ?_
      refine q_n ?_
      refine w_t rfl ?_
      refine w_seq ?_
      refine w_reg rfl ?_
      refine v_lit (flat fe []) (H' := [_]) lay37 lay22 rfl rfl ⟨by decide, by decide⟩ rfl rfl ?_
      refine v_assign rfl ?_
      refine v_assign (c := .v (.int .i64 2)) rfl ?_
      refine v_nil ?_
      refine q_n ?_
      refine w_ret (q_r ?_)
      refine r_r rfl ?_
      rw [sm_2 h1 h2]
      exact a_tup (.cons (a_flat2 fe_sc fe_len rfl rfl rfl rfl) (.cons tr_v .nil))
  · skip
    refine v_not true rfl rfl ?_
    refine v_nil ?_
    refine q_n ?_
    refine w_t rfl ?_
    refine w_seq ?_
    refine w_reg rfl ?_
    refine v_lit (flat fe []) (H' := [_]) lay37 lay22 rfl rfl ⟨by decide, by decide⟩ rfl rfl ?_
    refine v_assign rfl ?_
    refine v_assign (c := .v (.int .i64 1)) rfl ?_
    refine v_nil ?_
    refine q_n ?_
    refine w_ret (q_r ?_)
    refine r_r rfl ?_
    rw [sm_1 h1]
    exact a_tup (.cons (a_flat2 fe_sc fe_len rfl rfl rfl rfl) (.cons tr_v .nil))

theorem c23l (xs : List Tal) (share : Option Nat) (hx : xs.length ≤ 2 ^ 40) (hb : T16 xs) (hs : Sg share) : LiveC X 23 [.c (tals false xs), .c (.f .f32 share)] (.tup [.c (.mu 0 0 (smR xs share).1.length 1), cI (smR xs share).2]) [⟨flat fe (smR xs share).1, 22, true⟩] := by
  refine LiveC.of_body (drawD_ok X) (fun _ _ => Go.Proofs.Try.call23 _ _) Go.Proofs.Try.func23 rfl (n := 57) rfl ?_
  refine w_seq ?_
  refine w_reg rfl ?_
  refine v_assign rfl ?_
  refine v_assign (c := .v (.int .i64 0)) rfl ?_
  refine v_nil ?_
  refine q_n ?_
  refine w_seq ?_
  refine w_seq ?_
  refine w_reg rfl ?_
  refine v_move rfl ?_
  refine v_callb (c58 _ (by omega) (by assumption)) rfl rfl (.cons vw_sl .nil) (fun h1 => ?_) (fun h1 => ?_)
  · skip
    refine v_not false rfl rfl ?_
    refine v_call (c65 _ _) rfl rfl rfl (.cons vw_v (.cons vw_v .nil)) ?_
    refine v_move rfl ?_
    refine v_callb (c73 _ (by assumption)) rfl rfl (.cons vw_f .nil) (fun h2 => ?_) (fun h2 => ?_)
    · skip
      refine v_not false rfl rfl ?_
      refine v_call (c65 _ _) rfl rfl rfl (.cons vw_v (.cons vw_v .nil)) ?_
      refine v_lit (flat int [_, _]) (H' := [_]) lay118 lay2 rfl rfl ⟨by decide, by decide⟩ rfl rfl ?_
      refine v_call (c64 [_, _] (Nat.le_of_ble_eq_true rfl)) rfl rfl rfl (.cons (vw_mu2 int_sc int_len rfl (by simp)) .nil) ?_
      refine v_assign rfl ?_
      refine v_nil ?_
      refine q_n ?_
      refine w_seq ?_
      refine w_reg rfl ?_
      refine v_move rfl ?_
      refine v_neq lay2 rfl rfl (fun h3 => ?_) (fun h3 => ?_)
      · skip
        exact absurd (by decide) h3
      · skip
        refine v_nil ?_
        refine q_n ?_
        refine w_f rfl ?_
        refine w_skip ?_
        refine q_n ?_
        refine w_seq ?_
        refine w_reg rfl ?_
        refine v_lit (flat fe []) (H' := [_, _]) lay37 lay22 rfl rfl ⟨by decide, by decide⟩ rfl rfl ?_
        refine v_move rfl ?_
        refine v_bin (c := .f _ _) lay22 rfl rfl rfl ?_
        refine v_assign rfl ?_
        refine v_assign rfl ?_
        refine v_nil ?_
        refine q_n ?_
        refine w_seq ?_
        refine w_seq ?_
        refine w_reg rfl ?_
        refine v_move rfl ?_
        refine v_len_sl lay40 rfl ?_
        refine v_move (c := .v (.int .i64 0)) rfl ?_
        refine v_nil ?_
        refine q_n ?_
        refine w_block ?_
        refine w_loop (fun k sl H => ∃ i : Nat, k = xs.length - i ∧ i ≤ xs.length ∧ sl = sls [(0, .c (tals false xs)), (1, .c (.f .f32 share)), (7, .c (.mu 0 0 i 1)), (8, .c (.f .f32 (fop .sub .f32 (fOf .f32 1065353216) share))), (28, .c (tals false xs)), (29, cI xs.length), (30, cI i)] ∧ H = [⟨flat fe ((List.range i).map (smN share xs)), 22, true⟩]) ?_ ?_
        · refine ⟨_, _, _, ?_, 0, rfl, Nat.zero_le _, rfl, rfl⟩
          exact turn [some 1] rfl rfl rfl ⟨⟨_, rfl, trc_flat fe_sc rfl⟩, trivial⟩ ⟨tr_sl, tr_f, tr_mu rfl, tr_f, tr_sl, tr_v, tr_v, trivial⟩
        · rintro k sl H ⟨i, rfl, hi, rfl, rfl⟩
          refine w_seq ?_
          refine w_reg rfl ?_
          refine v_lss lay3 rfl rfl (fun h4 => ?_) (fun h4 => ?_)
          · skip
            refine v_nil ?_
            refine q_n ?_
            refine w_seq ?_
            refine w_t rfl ?_
            refine w_skip ?_
            refine q_n ?_
            refine w_seq ?_
            refine w_block ?_
            refine w_seq ?_
            refine w_reg rfl ?_
            refine v_move rfl ?_
            refine v_idx (k := 3) te_len lay40 lay27 rfl rfl rfl (rfl) rfl (by omega) (fun q5 hq5 e5 => ?_)
            obtain rfl : i = q5 := by omega
            refine v_load_vw (.agg [.v _, .v _, .v _]) lay27 rfl rfl rfl ?_
            refine v_alloc (m := 1) (H' := [_, ⟨[.v _, .v _, .v _], 27, true⟩]) lay27 rfl rfl ?_
            refine v_assign rfl ?_
            refine v_store (H' := [_, ⟨[_, _, _], 27, true⟩]) lay27 rfl rfl rfl rfl rfl rfl ?_
            refine v_nil ?_
            refine q_n ?_
            refine w_seq ?_
            refine w_reg rfl ?_
            refine v_fa_pt (off' := 1) lay27 rfl rfl rfl ?_
            refine v_load_pt (.c _) lay23 rfl rfl rfl rfl ?_
            refine v_conv_if lay23 lay22 rfl ?_
            refine v_assign rfl ?_
            refine v_nil ?_
            refine q_n ?_
            refine w_seq ?_
            refine w_seq ?_
            refine w_reg rfl ?_
            refine v_move rfl ?_
            refine v_gtr lay3 rfl rfl (fun h6 => ?_) (fun h6 => ?_)
            · skip
              refine v_nil ?_
              refine q_n ?_
              refine w_t rfl ?_
              refine w_reg rfl ?_
              refine v_move rfl ?_
              refine v_move rfl ?_
              refine v_sub lay3 rfl rfl (i64r (by omega)) ?_
              refine v_idx_mu (k := 1) (off := 0) lay37 lay22 rfl rfl rfl (by omega) (fun q7 hq7 e7 => ?_)
              refine v_load_flat q7 0 (.c (.f _ _)) fe_len lay22 rfl rfl (by omega) (by simp; omega) rfl rfl ?_
              refine v_move rfl ?_
              refine v_bin (c := .f _ _) lay22 rfl rfl rfl ?_
              refine v_move rfl ?_
              refine v_move rfl ?_
              refine v_bin (c := .f _ _) lay22 rfl rfl rfl ?_
              refine v_bin (c := .f _ _) lay22 rfl rfl rfl ?_
              refine v_assign rfl ?_
              refine v_nil ?_
              refine q_n ?_
              refine w_reg rfl ?_
              refine v_move rfl ?_
              refine v_move rfl ?_
              refine v_lit (flat fe [_]) (H' := [_, _, _]) lay37 lay22 rfl rfl ⟨by decide, by decide⟩ rfl rfl ?_
              refine v_app_flat (H' := [_, _, _, _]) fe_sc fe_len lay37 lay22 rfl rfl (by simp) rfl rfl (by simp) rfl rfl (by unfold maxLen; simp only []; omega) rfl rfl ?_
              refine v_assign rfl ?_
              refine v_nil ?_
              refine q_bn ?_
              refine q_n ?_
              refine w_reg rfl ?_
              refine v_add lay3 rfl rfl (i64r (by omega)) ?_
              refine v_move rfl ?_
              refine v_nil ?_
              refine q_n ?_
              refine ⟨_, _, _, ?_, ⟨i + 1, rfl, by omega, rfl, rfl⟩, by omega⟩
              exact turn [some 3] rfl rfl rfl ⟨⟨_, rfl, trc_flat fe_sc (snoc_eq _ i (sm_next hq5 e7 _))⟩, trivial⟩ ⟨tr_sl, tr_f, tr_mu rfl, tr_f, tr_sl, tr_v, tr_v, trivial⟩
            · skip
              refine v_nil ?_
              refine q_n ?_
              refine w_f rfl ?_
              refine w_skip ?_
              refine q_n ?_
              refine w_reg rfl ?_
              refine v_move rfl ?_
              refine v_move rfl ?_
              refine v_lit (flat fe [_]) (H' := [_, _, _]) lay37 lay22 rfl rfl ⟨by decide, by decide⟩ rfl rfl ?_
              refine v_app_flat (H' := [_, _, _, _]) fe_sc fe_len lay37 lay22 rfl rfl (by simp) rfl rfl (by simp) rfl rfl (by unfold maxLen; simp only []; omega) rfl rfl ?_
              refine v_assign rfl ?_
              refine v_nil ?_
              refine q_bn ?_
              refine q_n ?_
              refine w_reg rfl ?_
              refine v_add lay3 rfl rfl (i64r (by omega)) ?_
              refine v_move rfl ?_
              refine v_nil ?_
              refine q_n ?_
              refine ⟨_, _, _, ?_, ⟨i + 1, rfl, by omega, rfl, rfl⟩, by omega⟩
              exact turn [some 3] rfl rfl rfl ⟨⟨_, rfl, trc_flat fe_sc (snoc_eq _ i (sm_first hq5 h6))⟩, trivial⟩ ⟨tr_sl, tr_f, tr_mu rfl, tr_f, tr_sl, tr_v, tr_v, trivial⟩
          · skip
            refine v_nil ?_
            refine q_n ?_
            refine w_seq ?_
            refine w_f rfl ?_
            refine w_exit ?_
            refine q_e ?_
            refine q_e ?_
            refine q_hit ?_
            refine q_n ?_
            refine w_seq ?_
            refine w_reg rfl ?_
            refine v_move rfl ?_
            refine v_assign rfl ?_
            refine v_assign (c := .v (.int .i64 0)) rfl ?_
            refine v_nil ?_
            refine q_n ?_
            refine w_ret ?_
            refine r_r rfl ?_
            obtain rfl : i = xs.length := by omega
            rw [sm_0 h1 h2]
            exact l_ans [some 0] rfl rfl ⟨⟨_, rfl, trc_flat fe_sc rfl⟩, trivial⟩ (a_tup (.cons (tr_mun rfl (by simp)) (.cons tr_v .nil)))
    · skip
      refine v_not true rfl rfl ?_
      refine v_call (c65 _ _) rfl rfl rfl (.cons vw_v (.cons vw_v .nil)) ?_
      refine v_lit (flat int [_, _]) (H' := [_]) lay118 lay2 rfl rfl ⟨by decide, by decide⟩ rfl rfl ?_
      refine v_call (c64 [_, _] (Nat.le_of_ble_eq_true rfl)) rfl rfl rfl (.cons (vw_mu2 int_sc int_len rfl (by simp)) .nil) ?_
      refine v_assign rfl ?_
      refine v_nil ?_
      refine q_n ?_
      refine w_seq ?_
      refine w_reg rfl ?_
      refine v_move rfl ?_
      refine v_neq lay2 rfl rfl (fun h8 => ?_) (fun h8 => ?_)
      · skip
        refine v_nil ?_
        refine q_n ?_
        refine w_t rfl ?_
        refine w_seq ?_
        refine w_reg rfl ?_
        refine v_move rfl ?_
        refine v_assign rfl ?_
        refine v_assign rfl ?_
        refine v_nil ?_
        refine q_n ?_
        refine w_ret (q_r ?_)
        refine r_r rfl ?_
        rw [sm_2 h1 h2]
        exact l_ans [none] rfl rfl ⟨rfl, trivial⟩ (a_tup (.cons (tr_nil rfl) (.cons tr_v .nil)))
      · skip
        exact absurd h8 (by decide)
  · skip
    refine v_not true rfl rfl ?_
    refine v_call (c65 _ _) rfl rfl rfl (.cons vw_v (.cons vw_v .nil)) ?_
    refine v_move rfl ?_
    refine v_callb (c73 _ (by assumption)) rfl rfl (.cons vw_f .nil) (fun h9 => ?_) (fun h9 => ?_)
    · skip
      refine v_not false rfl rfl ?_
      refine v_call (c65 _ _) rfl rfl rfl (.cons vw_v (.cons vw_v .nil)) ?_
      refine v_lit (flat int [_, _]) (H' := [_]) lay118 lay2 rfl rfl ⟨by decide, by decide⟩ rfl rfl ?_
      refine v_call (c64 [_, _] (Nat.le_of_ble_eq_true rfl)) rfl rfl rfl (.cons (vw_mu2 int_sc int_len rfl (by simp)) .nil) ?_
      refine v_assign rfl ?_
      refine v_nil ?_
      refine q_n ?_
      refine w_seq ?_
      refine w_reg rfl ?_
      refine v_move rfl ?_
      refine v_neq lay2 rfl rfl (fun h10 => ?_) (fun h10 => ?_)
      · skip
        refine v_nil ?_
        refine q_n ?_
        refine w_t rfl ?_
        refine w_seq ?_
        refine w_reg rfl ?_
        refine v_move rfl ?_
        refine v_assign rfl ?_
        refine v_assign rfl ?_
        refine v_nil ?_
        refine q_n ?_
        refine w_ret (q_r ?_)
        refine r_r rfl ?_
        rw [sm_1 h1]
        exact l_ans [none] rfl rfl ⟨rfl, trivial⟩ (a_tup (.cons (tr_nil rfl) (.cons tr_v .nil)))
      · skip
        exact absurd h10 (by decide)
    · skip
      refine v_not true rfl rfl ?_
      refine v_call (c65 _ _) rfl rfl rfl (.cons vw_v (.cons vw_v .nil)) ?_
      refine v_lit (flat int [_, _]) (H' := [_]) lay118 lay2 rfl rfl ⟨by decide, by decide⟩ rfl rfl ?_
      refine v_call (c64 [_, _] (Nat.le_of_ble_eq_true rfl)) rfl rfl rfl (.cons (vw_mu2 int_sc int_len rfl (by simp)) .nil) ?_
      refine v_assign rfl ?_
      refine v_nil ?_
      refine q_n ?_
      refine w_seq ?_
      refine w_reg rfl ?_
      refine v_move rfl ?_
      refine v_neq lay2 rfl rfl (fun h11 => ?_) (fun h11 => ?_)
      · skip
        refine v_nil ?_
        refine q_n ?_
        refine w_t rfl ?_
        refine w_seq ?_
        refine w_reg rfl ?_
        refine v_move rfl ?_
        refine v_assign rfl ?_
        refine v_assign rfl ?_
        refine v_nil ?_
        refine q_n ?_
        refine w_ret (q_r ?_)
        refine r_r rfl ?_
        rw [sm_1 h1]
        exact l_ans [none] rfl rfl ⟨rfl, trivial⟩ (a_tup (.cons (tr_nil rfl) (.cons tr_v .nil)))
      · skip
        exact absurd h11 (by decide)

theorem c23 (xs : List Tal) (share : Option Nat) (hx : xs.length ≤ 2 ^ 40) (hb : T16 xs) (hs : Sg share) : PureC X 23 [.c (tals false xs), .c (.f .f32 share)] (.tup [.c (flo true (smR xs share).1), cI (smR xs share).2]) :=
  (c23l xs share hx hb hs).pure (a_tup (.cons (a_flat fe_sc fe_len rfl rfl) (.cons tr_v .nil)))

theorem c24 (xs : List (Option Nat)) (hx : xs.length ≤ 2 ^ 40) (hok : ∀ x ∈ xs, okF .f32 x) : PureC X 24 [.c (flo false xs), .c (flo false xs)] (cB (decide True)) := by
  refine PureC.of_body (drawD_ok X) (fun _ _ => Go.Proofs.Try.call24 _ _) Go.Proofs.Try.func24 rfl (n := 29) rfl ?_
  refine w_seq ?_
  refine w_reg rfl ?_
  refine v_assign (c := .v (.bool false)) rfl ?_
  refine v_nil ?_
  refine q_n ?_
  refine w_seq ?_
  refine w_seq ?_
  refine w_reg rfl ?_
  refine v_move rfl ?_
  refine v_len_sl lay37 rfl ?_
  refine v_move rfl ?_
  refine v_len_sl lay37 rfl ?_
  refine v_neq lay3 rfl rfl (fun h1 => ?_) (fun h1 => ?_)
  · skip
    exact absurd rfl h1
  · skip
    refine v_nil ?_
    refine q_n ?_
    refine w_f rfl ?_
    refine w_skip ?_
    refine q_n ?_
    refine w_seq ?_
    refine w_seq ?_
    refine w_reg rfl ?_
    refine v_assign (c := .v (.int .i64 0)) rfl ?_
    refine v_nil ?_
    refine q_n ?_
    refine w_block ?_
    refine w_loop (fun k sl H => ∃ i : Nat, k = xs.length - i ∧ i ≤ xs.length ∧ sl = sls [(0, .c (flo false xs)), (1, .c (flo false xs)), (5, cI i)] ∧ H = []) ?_ ?_
    · refine ⟨_, _, _, ?_, 0, rfl, Nat.zero_le _, rfl, rfl⟩
      exact turn0 ⟨tr_sl, tr_sl, tr_v, trivial⟩
    · rintro k sl H ⟨i, rfl, hi, rfl, rfl⟩
      refine w_seq ?_
      refine w_seq ?_
      refine w_reg rfl ?_
      refine v_move rfl ?_
      refine v_move rfl ?_
      refine v_len_sl lay37 rfl ?_
      refine v_lss lay3 rfl rfl (fun h2 => ?_) (fun h2 => ?_)
      · skip
        refine v_nil ?_
        refine q_n ?_
        refine w_t rfl ?_
        refine w_skip ?_
        refine q_n ?_
        refine w_seq ?_
        refine w_block ?_
        refine w_seq ?_
        refine w_draw [0, 0, 3, 7, 15, 0, 0, 96, 224, 480, 1023, 2047] [⟨0, 0, []⟩, ⟨1, 0, []⟩, ⟨2, 0, []⟩, ⟨3, 0, []⟩, ⟨4, 0, []⟩, ⟨5, 0, []⟩, ⟨6, 0, []⟩, ⟨7, 0, []⟩, ⟨8, 0, []⟩, ⟨9, 0, []⟩, ⟨10, 0, []⟩, ⟨11, 0, []⟩] rfl rfl ?_
        refine d_q rfl rfl rfl rfl rfl ?_
        refine v_move rfl ?_
        refine v_nil ?_
        refine d_q rfl rfl rfl rfl rfl ?_
        refine v_move rfl ?_
        refine v_nil ?_
        refine d_q rfl rfl rfl rfl rfl ?_
        refine v_idx (k := 1) fe_len lay37 lay22 rfl rfl rfl (rfl) rfl (by omega) (fun q3 hq3 e3 => ?_)
        obtain rfl : i = q3 := by omega
        refine v_nil ?_
        refine d_q rfl rfl rfl rfl rfl ?_
        refine v_load_vw (.c (.f _ _)) lay22 rfl rfl rfl ?_
        refine v_nil ?_
        refine d_q rfl rfl rfl rfl rfl ?_
        refine v_conv_ff _ lay22 lay85 rfl (convF_single (hok _ (List.getElem_mem hq3))) ?_
        refine v_nil ?_
        refine d_q rfl rfl rfl rfl rfl ?_
        refine v_move rfl ?_
        refine v_nil ?_
        refine d_q rfl rfl rfl rfl rfl ?_
        refine v_move rfl ?_
        refine v_nil ?_
        refine d_q rfl rfl rfl rfl rfl ?_
        refine v_idx (k := 1) fe_len lay37 lay22 rfl rfl rfl (rfl) rfl (by omega) (fun q4 hq4 e4 => ?_)
        obtain rfl : i = q4 := by omega
        refine v_nil ?_
        refine d_q rfl rfl rfl rfl rfl ?_
        refine v_load_vw (.c (.f _ _)) lay22 rfl rfl rfl ?_
        refine v_nil ?_
        refine d_q rfl rfl rfl rfl rfl ?_
        refine v_conv_ff _ lay22 lay85 rfl (convF_single (hok _ (List.getElem_mem hq3))) ?_
        refine v_nil ?_
        refine d_callb (c69 _ (wide_ok (hok _ (List.getElem_mem hq3)))) rfl rfl rfl rfl (.cons vw_f (.cons vw_f .nil)) (fun h5 => ?_) (fun h5 => ?_)
        · skip
          refine d_q rfl rfl rfl rfl rfl ?_
          refine v_not false rfl rfl ?_
          refine v_nil ?_
          refine d_nil ?_
          refine q_n ?_
          refine w_f rfl ?_
          refine w_skip ?_
          refine q_bn ?_
          refine q_n ?_
          refine w_reg rfl ?_
          refine v_move rfl ?_
          refine v_add lay3 rfl rfl (i64r (by omega)) ?_
          refine v_assign rfl ?_
          refine v_nil ?_
          refine q_n ?_
          refine ⟨_, _, _, ?_, ⟨i + 1, rfl, by omega, rfl, rfl⟩, by omega⟩
          exact turn0 ⟨tr_sl, tr_sl, tr_v, trivial⟩
        · skip
          exact absurd trivial h5
      · skip
        refine v_nil ?_
        refine q_n ?_
        refine w_f rfl ?_
        refine w_exit ?_
        refine q_e ?_
        refine q_e ?_
        refine q_hit ?_
        refine q_n ?_
        refine w_seq ?_
        refine w_reg rfl ?_
        refine v_assign (c := .v (.bool true)) rfl ?_
        refine v_nil ?_
        refine q_n ?_
        refine w_ret ?_
        refine r_r rfl ?_
        exact a_b ⟨fun _ => trivial, fun _ => rfl⟩

theorem c27 (xs : List (Option Nat)) (a : Int) (hx : xs.length ≤ 2 ^ 40) (ha : 0 ≤ a ∧ a ≤ 2 ^ 20) : MarkC X 27 xs.length 1 22 (flat fe xs) (.int .i64 a) (.int .i64 (a + xs.length)) (flat fe ((List.range xs.length).map (fmark a))) := by
  refine MarkC.of_body (drawD_ok X) (fun _ _ => Go.Proofs.Try.call27 _ _) Go.Proofs.Try.func27 rfl (sc_flat fe_sc _) (q := 20) rfl ?_
  refine w_seq ?_
  refine w_reg rfl ?_
  refine v_assign (c := .v (.int .i64 0)) rfl ?_
  refine v_nil ?_
  refine q_n ?_
  refine w_seq ?_
  refine w_seq ?_
  refine w_reg rfl ?_
  refine v_assign (c := .v (.int .i64 0)) rfl ?_
  refine v_nil ?_
  refine q_n ?_
  refine w_block ?_
  refine w_loop (fun k sl H => ∃ i : Nat, k = xs.length - i ∧ i ≤ xs.length ∧ sl = sls [(0, .c (.mu 0 0 xs.length 1)), (1, cI (a + i)), (5, cI i)] ∧ H = [⟨flat fe (marks (fmark a) i xs), 22, true⟩]) ?_ ?_
  · refine ⟨_, _, _, ?_, 0, rfl, Nat.zero_le _, rfl, rfl⟩
    exact turn [some 0] rfl rfl rfl ⟨⟨_, rfl, trc_flat fe_sc rfl⟩, trivial⟩ ⟨tr_mu rfl, tr_i (by simp), tr_v, trivial⟩
  · rintro k sl H ⟨i, rfl, hi, rfl, rfl⟩
    refine w_seq ?_
    refine w_seq ?_
    refine w_reg rfl ?_
    refine v_move rfl ?_
    refine v_move rfl ?_
    refine v_len_mu lay37 rfl ?_
    refine v_lss lay3 rfl rfl (fun h1 => ?_) (fun h1 => ?_)
    · skip
      refine v_nil ?_
      refine q_n ?_
      refine w_t rfl ?_
      refine w_skip ?_
      refine q_n ?_
      refine w_seq ?_
      refine w_block ?_
      refine w_seq ?_
      refine w_reg rfl ?_
      refine v_move rfl ?_
      refine v_move rfl ?_
      refine v_move rfl ?_
      refine v_conv_if lay3 lay22 rfl ?_
      refine v_idx_mu (k := 1) (off := 0) lay37 lay22 rfl rfl rfl (by omega) (fun q2 hq2 e2 => ?_)
      obtain rfl : i = q2 := by omega
      refine v_store_flat (H' := [_]) i 0 (fl2 (a + i)) fe_len lay22 rfl rfl rfl (by omega) (by rw [marks_len (by omega)]; omega) rfl rfl (rfl) rfl ?_
      refine v_nil ?_
      refine q_n ?_
      refine w_reg rfl ?_
      refine v_move rfl ?_
      refine v_add lay3 rfl rfl (i64r (by omega)) ?_
      refine v_assign rfl ?_
      refine v_nil ?_
      refine q_bn ?_
      refine q_n ?_
      refine w_reg rfl ?_
      refine v_move rfl ?_
      refine v_add lay3 rfl rfl (i64r (by omega)) ?_
      refine v_assign rfl ?_
      refine v_nil ?_
      refine q_n ?_
      refine ⟨_, _, _, ?_, ⟨i + 1, rfl, by omega, rfl, rfl⟩, by omega⟩
      exact turn [some 0] rfl rfl rfl ⟨⟨_, rfl, trc_flat fe_sc (congrArg (flat fe) (marks_step (by omega)))⟩, trivial⟩ ⟨tr_mu rfl, tr_i (by push_cast; omega), tr_v, trivial⟩
    · skip
      refine v_nil ?_
      refine q_n ?_
      refine w_f rfl ?_
      refine w_exit ?_
      refine q_e ?_
      refine q_e ?_
      refine q_hit ?_
      refine q_n ?_
      refine w_seq ?_
      refine w_reg rfl ?_
      refine v_move rfl ?_
      refine v_assign rfl ?_
      refine v_nil ?_
      refine q_n ?_
      refine w_ret ?_
      refine r_r rfl ?_
      obtain rfl : i = xs.length := by omega
      exact ⟨rfl, [], by rw [← marks_all]⟩

theorem c26 (xs : List Tal) (a : Int) (hx : xs.length ≤ 2 ^ 40) (ha : 0 ≤ a ∧ a ≤ 2 ^ 20) : MarkC X 26 xs.length 3 27 (flat te xs) (.int .i64 a) (.int .i64 (a + 3 * xs.length)) (flat te ((List.range xs.length).map (tmark a))) := by
  refine MarkC.of_body (drawD_ok X) (fun _ _ => Go.Proofs.Try.call26 _ _) Go.Proofs.Try.func26 rfl (sc_flat te_sc _) (q := 36) rfl ?_
  refine w_seq ?_
  refine w_reg rfl ?_
  refine v_assign (c := .v (.int .i64 0)) rfl ?_
  refine v_nil ?_
  refine q_n ?_
  refine w_seq ?_
  refine w_seq ?_
  refine w_reg rfl ?_
  refine v_assign (c := .v (.int .i64 0)) rfl ?_
  refine v_nil ?_
  refine q_n ?_
  refine w_block ?_
  refine w_loop (fun k sl H => ∃ i : Nat, k = xs.length - i ∧ i ≤ xs.length ∧ sl = sls [(0, .c (.mu 0 0 xs.length 3)), (1, cI (a + 3 * i)), (5, cI i)] ∧ H = [⟨flat te (marks (tmark a) i xs), 27, true⟩]) ?_ ?_
  · refine ⟨_, _, _, ?_, 0, rfl, Nat.zero_le _, rfl, rfl⟩
    exact turn [some 0] rfl rfl rfl ⟨⟨_, rfl, trc_flat te_sc rfl⟩, trivial⟩ ⟨tr_mu rfl, tr_i (by simp), tr_v, trivial⟩
  · rintro k sl H ⟨i, rfl, hi, rfl, rfl⟩
    refine w_seq ?_
    refine w_seq ?_
    refine w_reg rfl ?_
    refine v_move rfl ?_
    refine v_move rfl ?_
    refine v_len_mu lay40 rfl ?_
    refine v_lss lay3 rfl rfl (fun h1 => ?_) (fun h1 => ?_)
    · skip
      refine v_nil ?_
      refine q_n ?_
      refine w_t rfl ?_
      refine w_skip ?_
      refine q_n ?_
      refine w_seq ?_
      refine w_block ?_
      refine w_seq ?_
      refine w_reg rfl ?_
      refine v_move rfl ?_
      refine v_move rfl ?_
      refine v_move rfl ?_
      refine v_idx_mu (k := 3) (off := 0) lay40 lay27 rfl rfl rfl (by omega) (fun q2 hq2 e2 => ?_)
      obtain rfl : i = q2 := by omega
      refine v_fa_pt (off' := _) lay27 rfl rfl rfl ?_
      refine v_store_flat (H' := [_]) i 0 (set1 _ _) te_len lay2 rfl rfl rfl (by omega) (by simp only [List.length_set, marks_len hi]; omega) rfl rfl (te1 _ _) rfl ?_
      refine v_nil ?_
      refine q_n ?_
      refine w_seq ?_
      refine w_reg rfl ?_
      refine v_move rfl ?_
      refine v_add lay3 rfl rfl (i64r (by omega)) ?_
      refine v_assign rfl ?_
      refine v_nil ?_
      refine q_n ?_
      refine w_seq ?_
      refine w_reg rfl ?_
      refine v_move rfl ?_
      refine v_move rfl ?_
      refine v_move rfl ?_
      refine v_conv_iw lay3 lay23 rfl ?_
      refine v_idx_mu (k := 3) (off := 0) lay40 lay27 rfl rfl rfl (by omega) (fun q3 hq3 e3 => ?_)
      obtain rfl : i = q3 := by omega
      refine v_fa_pt (off' := _) lay27 rfl rfl rfl ?_
      refine v_store_flat (H' := [_]) i 1 (set2 _ _) te_len lay23 rfl rfl rfl (by omega) (by simp only [List.length_set, marks_len hi]; omega) rfl rfl (te2 _ _) rfl ?_
      refine v_nil ?_
      refine q_n ?_
      refine w_seq ?_
      refine w_reg rfl ?_
      refine v_move rfl ?_
      refine v_add lay3 rfl rfl (i64r (by omega)) ?_
      refine v_assign rfl ?_
      refine v_nil ?_
      refine q_n ?_
      refine w_seq ?_
      refine w_reg rfl ?_
      refine v_move rfl ?_
      refine v_move rfl ?_
      refine v_move rfl ?_
      refine v_conv_iw lay3 lay23 rfl ?_
      refine v_idx_mu (k := 3) (off := 0) lay40 lay27 rfl rfl rfl (by omega) (fun q4 hq4 e4 => ?_)
      obtain rfl : i = q4 := by omega
      refine v_fa_pt (off' := _) lay27 rfl rfl rfl ?_
      refine v_store_flat (H' := [_]) i 2 (set3 _ _) te_len lay23 rfl rfl rfl (by omega) (by simp only [List.length_set, marks_len hi]; omega) rfl rfl (te3 _ _) rfl ?_
      refine v_nil ?_
      refine q_n ?_
      refine w_reg rfl ?_
      refine v_move rfl ?_
      refine v_add lay3 rfl rfl (i64r (by omega)) ?_
      refine v_assign rfl ?_
      refine v_nil ?_
      refine q_bn ?_
      refine q_n ?_
      refine w_reg rfl ?_
      refine v_move rfl ?_
      refine v_add lay3 rfl rfl (i64r (by omega)) ?_
      refine v_assign rfl ?_
      refine v_nil ?_
      refine q_n ?_
      refine ⟨_, _, _, ?_, ⟨i + 1, rfl, by omega, rfl, rfl⟩, by omega⟩
      exact turn [some 0] rfl rfl rfl ⟨⟨_, rfl, trc_flat te_sc (congrArg (flat te) (tmark_step (by omega) (by simp only [List.getElem_set_self]; rfl)))⟩, trivial⟩ ⟨tr_mu rfl, tr_i (by push_cast; omega), tr_v, trivial⟩
    · skip
      refine v_nil ?_
      refine q_n ?_
      refine w_f rfl ?_
      refine w_exit ?_
      refine q_e ?_
      refine q_e ?_
      refine q_hit ?_
      refine q_n ?_
      refine w_seq ?_
      refine w_reg rfl ?_
      refine v_move rfl ?_
      refine v_assign rfl ?_
      refine v_nil ?_
      refine q_n ?_
      refine w_ret ?_
      refine r_r rfl ?_
      obtain rfl : i = xs.length := by omega
      exact ⟨rfl, [], by rw [← marks_all]⟩

theorem c28 (n : Nat) (a : Int) (hx : n ≤ 2 ^ 40) (ha : 0 ≤ a ∧ a ≤ 2 ^ 20) : PureC X 28 [.c (.sl false n 1 (flat fe ((List.range n).map (fmark a)))), cI a] (cI (a + n)) := by
  refine PureC.of_body (drawD_ok X) (fun _ _ => Go.Proofs.Try.call28 _ _) Go.Proofs.Try.func28 rfl (n := 22) rfl ?_
  refine w_seq ?_
  refine w_reg rfl ?_
  refine v_assign (c := .v (.int .i64 0)) rfl ?_
  refine v_nil ?_
  refine q_n ?_
  refine w_seq ?_
  refine w_seq ?_
  refine w_reg rfl ?_
  refine v_assign (c := .v (.int .i64 0)) rfl ?_
  refine v_nil ?_
  refine q_n ?_
  refine w_block ?_
  refine w_loop (fun k sl H => ∃ i : Nat, k = n - i ∧ i ≤ n ∧ sl = sls [(0, .c (.sl false n 1 (flat fe ((List.range n).map (fmark a))))), (1, cI (a + i)), (5, cI i)] ∧ H = []) ?_ ?_
  · refine ⟨_, _, _, ?_, 0, rfl, Nat.zero_le _, rfl, rfl⟩
    exact turn0 ⟨tr_sl, tr_i (by simp), tr_v, trivial⟩
  · rintro k sl H ⟨i, rfl, hi, rfl, rfl⟩
    refine w_seq ?_
    refine w_seq ?_
    refine w_reg rfl ?_
    refine v_move rfl ?_
    refine v_move rfl ?_
    refine v_len_sl lay37 rfl ?_
    refine v_lss lay3 rfl rfl (fun h1 => ?_) (fun h1 => ?_)
    · skip
      refine v_nil ?_
      refine q_n ?_
      refine w_t rfl ?_
      refine w_skip ?_
      refine q_n ?_
      refine w_seq ?_
      refine w_block ?_
      refine w_seq ?_
      refine w_seq ?_
      refine w_reg rfl ?_
      refine v_move rfl ?_
      refine v_move rfl ?_
      refine v_idx (k := 1) fe_len lay37 lay22 rfl rfl rfl (by simp) rfl (by rw [List.length_map, List.length_range]; omega) (fun q2 hq2 e2 => ?_)
      obtain rfl : i = q2 := by omega
      refine v_load_vw (.c (.f _ _)) lay22 rfl rfl rfl ?_
      refine v_move rfl ?_
      refine v_conv_if lay3 lay22 rfl ?_
      refine v_binb lay22 rfl rfl rfl (fun h3 => ?_) (fun h3 => ?_)
      · skip
        exact absurd (h3.symm.trans (held_eq hq2)) (by decide)
      · skip
        refine v_nil ?_
        refine q_n ?_
        refine w_f rfl ?_
        refine w_skip ?_
        refine q_n ?_
        refine w_reg rfl ?_
        refine v_move rfl ?_
        refine v_add lay3 rfl rfl (i64r (by omega)) ?_
        refine v_assign rfl ?_
        refine v_nil ?_
        refine q_bn ?_
        refine q_n ?_
        refine w_reg rfl ?_
        refine v_move rfl ?_
        refine v_add lay3 rfl rfl (i64r (by omega)) ?_
        refine v_assign rfl ?_
        refine v_nil ?_
        refine q_n ?_
        refine ⟨_, _, _, ?_, ⟨i + 1, rfl, by omega, rfl, rfl⟩, by omega⟩
        exact turn0 ⟨tr_sl, tr_i (by push_cast; omega), tr_v, trivial⟩
    · skip
      refine v_nil ?_
      refine q_n ?_
      refine w_f rfl ?_
      refine w_exit ?_
      refine q_e ?_
      refine q_e ?_
      refine q_hit ?_
      refine q_n ?_
      refine w_seq ?_
      refine w_reg rfl ?_
      refine v_move rfl ?_
      refine v_assign rfl ?_
      refine v_nil ?_
      refine q_n ?_
      refine w_ret ?_
      refine r_r rfl ?_
      obtain rfl : i = n := by omega
      exact a_i rfl

theorem c4 (xs : List Tal) (share : Option Nat) (hx : xs.length ≤ maxLen) (hb : T16 xs) (hs : Sg share) : PureC X 4 [.c (tals false xs), .c (.f .f32 share)] (cB true) := by
  refine PureC.of_body (drawD_ok X) (fun _ _ => Go.Proofs.Try.call4 _ _) Go.Proofs.Try.func4 rfl (n := 101) rfl ?_
  refine w_seq ?_
  refine w_reg rfl ?_
  refine v_assign (c := .v (.bool false)) rfl ?_
  refine v_nil ?_
  refine q_n ?_
  refine w_seq ?_
  refine w_reg rfl ?_
  refine v_assign (c := .v (.int .i64 1048576)) rfl ?_
  refine v_nil ?_
  refine q_n ?_
  refine w_seq ?_
  refine w_reg rfl ?_
  refine v_move rfl ?_
  refine v_move rfl ?_
  refine v_call (c20 _ _ (by omega) (by assumption)) rfl rfl rfl (.cons vw_sl (.cons vw_v .nil)) ?_
  refine v_assign rfl ?_
  refine v_nil ?_
  refine q_n ?_
  refine w_seq ?_
  refine w_seq ?_
  refine w_reg rfl ?_
  refine v_move rfl ?_
  refine v_lss lay3 rfl rfl (fun h1 => ?_) (fun h1 => ?_)
  · skip
    refine v_nil ?_
    refine q_n ?_
    refine w_t rfl ?_
    refine w_seq ?_
    refine w_reg rfl ?_
    refine v_assign (c := .v (.bool true)) rfl ?_
    refine v_nil ?_
    refine q_n ?_
    refine w_ret (q_r ?_)
    refine r_r rfl ?_
    exact tr_v
  · skip
    have hs1 := szr_in h1
    have hln := sm_len xs share
    refine v_nil ?_
    refine q_n ?_
    refine w_f rfl ?_
    refine w_skip ?_
    refine q_n ?_
    refine w_seq ?_
    refine w_reg rfl ?_
    refine v_move rfl ?_
    refine v_call (c22 _ (by omega)) rfl rfl rfl (.cons vw_sl .nil) ?_
    refine v_move rfl ?_
    refine v_call (c21 _ _ (by omega)) rfl rfl rfl (.cons vw_sl (.cons vw_f .nil)) ?_
    refine v_move_t rfl ?_
    refine v_extract_c rfl rfl ?_
    refine v_extract_c rfl rfl ?_
    refine v_assign rfl ?_
    refine v_assign rfl ?_
    refine v_nil ?_
    refine q_n ?_
    refine w_seq ?_
    refine w_reg rfl ?_
    refine v_move rfl ?_
    refine v_live1 (N := 0) (H' := [_]) (c22l _ (by omega)) (sc_flat te_sc _) rfl rfl rfl rfl rfl rfl (.cons vw_sl .nil) ?_
    refine v_assign rfl ?_
    refine v_nil ?_
    refine q_n ?_
    refine w_seq ?_
    refine w_reg rfl ?_
    refine v_move rfl ?_
    refine v_move rfl ?_
    refine v_live1 (N := 1) (H' := [_, _]) (c23l _ _ (by omega) (by assumption) (by assumption)) (sc_flat fe_sc _) rfl rfl rfl rfl rfl rfl (.cons (vw_mu2 te_sc te_len rfl (by simp)) (.cons vw_f .nil)) ?_
    refine v_move_t rfl ?_
    refine v_extract_c rfl rfl ?_
    refine v_extract_c rfl rfl ?_
    refine v_assign rfl ?_
    refine v_assign rfl ?_
    refine v_nil ?_
    refine q_n ?_
    refine w_seq ?_
    refine w_seq ?_
    refine w_reg rfl ?_
    refine v_move rfl ?_
    refine v_move rfl ?_
    refine v_callb (c24 _ (by omega) (sm_ok _ _)) rfl rfl (.cons (vw_mu2 fe_sc fe_len rfl (by simp)) (.cons vw_sl .nil)) (fun h2 => ?_) (fun h2 => ?_)
    · skip
      refine v_not false rfl rfl ?_
      refine v_move rfl ?_
      refine v_guard_on rfl rfl ?_
      refine v_move rfl ?_
      refine v_guard_on rfl rfl ?_
      refine v_move rfl ?_
      refine v_guard_on rfl rfl ?_
      refine v_neq lay2 rfl rfl (fun h3 => ?_) (fun h3 => ?_)
      · skip
        exact absurd rfl h3
      · skip
        refine v_pick_f rfl rfl ?_
        refine v_nil ?_
        refine q_n ?_
        refine w_f rfl ?_
        refine w_skip ?_
        refine q_n ?_
        refine w_seq ?_
        refine w_seq ?_
        refine w_reg rfl ?_
        refine v_move rfl ?_
        refine v_move rfl ?_
        refine v_call (c22 _ (by omega)) rfl rfl rfl (.cons vw_sl .nil) ?_
        refine v_callb (c25 _ _ (by omega)) rfl rfl (.cons (vw_mu2 te_sc te_len rfl (by simp)) (.cons vw_sl .nil)) (fun h4 => ?_) (fun h4 => ?_)
        · skip
          refine v_not false rfl rfl ?_
          refine v_nil ?_
          refine q_n ?_
          refine w_f rfl ?_
          refine w_skip ?_
          refine q_n ?_
          refine w_seq ?_
          refine w_reg rfl ?_
          refine v_assign (c := .v (.int .i64 1)) rfl ?_
          refine v_nil ?_
          refine q_n ?_
          refine w_seq ?_
          refine w_reg rfl ?_
          refine v_move rfl ?_
          refine v_move rfl ?_
          refine v_mark (H' := [_, _]) (c26 _ _ (by omega) (by omega)) rfl (sc_flat te_sc _) (sc_flat te_sc _) rfl rfl rfl rfl ?_
          refine v_assign rfl ?_
          refine v_nil ?_
          refine q_n ?_
          refine w_seq ?_
          refine w_seq ?_
          refine w_reg rfl ?_
          refine v_move rfl ?_
          refine v_lss lay3 rfl rfl (fun h5 => ?_) (fun h5 => ?_)
          · skip
            exact absurd h5 (by omega)
          · skip
            refine v_move rfl ?_
            refine v_guard_on rfl rfl ?_
            refine v_move rfl ?_
            refine v_guard_on rfl rfl ?_
            refine v_move rfl ?_
            refine v_guard_on rfl rfl ?_
            refine v_callb (c24 _ (by omega) (sm_ok _ _)) rfl rfl (.cons (vw_mu2 fe_sc fe_len rfl (by simp)) (.cons vw_sl .nil)) (fun h6 => ?_) (fun h6 => ?_)
            · skip
              refine v_guard_on rfl rfl ?_
              refine v_not false rfl rfl ?_
              refine v_pick_f rfl rfl ?_
              refine v_move rfl ?_
              refine v_guard_on rfl rfl ?_
              refine v_move rfl ?_
              refine v_guard_on rfl rfl ?_
              refine v_move rfl ?_
              refine v_guard_on rfl rfl ?_
              refine v_neq lay2 rfl rfl (fun h7 => ?_) (fun h7 => ?_)
              · skip
                exact absurd rfl h7
              · skip
                refine v_pick_f rfl rfl ?_
                refine v_nil ?_
                refine q_n ?_
                refine w_f rfl ?_
                refine w_skip ?_
                refine q_n ?_
                refine w_seq ?_
                refine w_reg rfl ?_
                refine v_assign (c := .v (.int .i64 1)) rfl ?_
                refine v_nil ?_
                refine q_n ?_
                refine w_seq ?_
                refine w_reg rfl ?_
                refine v_move rfl ?_
                refine v_move rfl ?_
                refine v_mark (H' := [_, _]) (c27 _ _ (by omega) (by omega)) rfl (sc_flat fe_sc _) (sc_flat fe_sc _) rfl rfl rfl rfl ?_
                refine v_assign rfl ?_
                refine v_nil ?_
                refine q_n ?_
                refine w_seq ?_
                refine w_reg rfl ?_
                refine v_assign (c := .v (.int .i64 1)) rfl ?_
                refine v_nil ?_
                refine q_n ?_
                refine w_seq ?_
                refine w_reg rfl ?_
                refine v_move rfl ?_
                refine v_move rfl ?_
                refine v_call (c28 _ _ (by omega) (by omega)) rfl rfl rfl (.cons (vw_mu2 fe_sc fe_len rfl (by simp)) (.cons vw_v .nil)) ?_
                refine v_assign rfl ?_
                refine v_nil ?_
                refine q_n ?_
                refine w_seq ?_
                refine w_seq ?_
                refine w_reg rfl ?_
                refine v_move rfl ?_
                refine v_lss lay3 rfl rfl (fun h8 => ?_) (fun h8 => ?_)
                · skip
                  exact absurd h8 (by omega)
                · skip
                  refine v_nil ?_
                  refine q_n ?_
                  refine w_f rfl ?_
                  refine w_skip ?_
                  refine q_n ?_
                  refine w_seq ?_
                  refine w_seq ?_
                  refine w_reg rfl ?_
                  refine v_move rfl ?_
                  refine v_move rfl ?_
                  refine v_neq lay3 rfl rfl (fun h9 => ?_) (fun h9 => ?_)
                  · skip
                    exact absurd rfl h9
                  · skip
                    refine v_nil ?_
                    refine q_n ?_
                    refine w_f rfl ?_
                    refine w_skip ?_
                    refine q_n ?_
                    refine w_seq ?_
                    refine w_reg rfl ?_
                    refine v_move rfl ?_
                    refine v_call (c22 _ (by omega)) rfl rfl rfl (.cons vw_sl .nil) ?_
                    refine v_move rfl ?_
                    refine v_call (c23 _ _ (by omega) (by assumption) (by assumption)) rfl rfl rfl (.cons vw_sl (.cons vw_f .nil)) ?_
                    refine v_move_t rfl ?_
                    refine v_extract_c rfl rfl ?_
                    refine v_extract_c rfl rfl ?_
                    refine v_assign rfl ?_
                    refine v_assign rfl ?_
                    refine v_nil ?_
                    refine q_n ?_
                    refine w_seq ?_
                    refine w_seq ?_
                    refine w_reg rfl ?_
                    refine v_move rfl ?_
                    refine v_move rfl ?_
                    refine v_callb (c24 _ (by omega) (sm_ok _ _)) rfl rfl (.cons vw_sl (.cons vw_sl .nil)) (fun h10 => ?_) (fun h10 => ?_)
                    · skip
                      refine v_not false rfl rfl ?_
                      refine v_move rfl ?_
                      refine v_guard_on rfl rfl ?_
                      refine v_move rfl ?_
                      refine v_guard_on rfl rfl ?_
                      refine v_move rfl ?_
                      refine v_guard_on rfl rfl ?_
                      refine v_neq lay2 rfl rfl (fun h11 => ?_) (fun h11 => ?_)
                      · skip
                        exact absurd rfl h11
                      · skip
                        refine v_pick_f rfl rfl ?_
                        refine v_nil ?_
                        refine q_n ?_
                        refine w_f rfl ?_
                        refine w_skip ?_
                        refine q_n ?_
                        refine w_seq ?_
                        refine w_reg rfl ?_
                        refine v_assign (c := .v (.int .i64 1)) rfl ?_
                        refine v_nil ?_
                        refine q_n ?_
                        refine w_seq ?_
                        refine w_reg rfl ?_
                        refine v_move rfl ?_
                        refine v_move rfl ?_
                        refine v_call (c28 _ _ (by omega) (by omega)) rfl rfl rfl (.cons (vw_mu2 fe_sc fe_len rfl (by simp)) (.cons vw_v .nil)) ?_
                        refine v_assign rfl ?_
                        refine v_nil ?_
                        refine q_n ?_
                        refine w_seq ?_
                        refine w_seq ?_
                        refine w_reg rfl ?_
                        refine v_move rfl ?_
                        refine v_lss lay3 rfl rfl (fun h12 => ?_) (fun h12 => ?_)
                        · skip
                          exact absurd h12 (by omega)
                        · skip
                          refine v_nil ?_
                          refine q_n ?_
                          refine w_f rfl ?_
                          refine w_skip ?_
                          refine q_n ?_
                          refine w_seq ?_
                          refine w_seq ?_
                          refine w_reg rfl ?_
                          refine v_move rfl ?_
                          refine v_move rfl ?_
                          refine v_neq lay3 rfl rfl (fun h13 => ?_) (fun h13 => ?_)
                          · skip
                            exact absurd rfl h13
                          · skip
                            refine v_nil ?_
                            refine q_n ?_
                            refine w_f rfl ?_
                            refine w_skip ?_
                            refine q_n ?_
                            refine w_seq ?_
                            refine w_reg rfl ?_
                            refine v_assign (c := .v (.bool true)) rfl ?_
                            refine v_nil ?_
                            refine q_n ?_
                            refine w_ret ?_
                            refine r_r rfl ?_
                            exact tr_v
                    · skip
                      exact absurd trivial h10
            · skip
              exact absurd trivial h6
        · skip
          exact absurd rfl h4
    · skip
      exact absurd trivial h2
end Go.VL
namespace Go.Proofs.Ytenaamehifbfeaa
open Go.RowKit Go.Lib
set_option maxHeartbeats 4000000 in
set_option maxRecDepth 100000 in
theorem grow_run (n : Nat) (h0 : 0 < n) (hn : n ≤ 2 ^ 30) (i0 : TypeInfo) (z : Value) (hi0 : Try.prog.info? 5 = some i0) (hz0 : i0.zero = some z) (hs0 : i0.size = 1) (hb0 : i0.bytes = 1) (w : World) :
    Calls Try.prog 125 #[.slice none 0 0, .int .i64 n] w fun e w' => e = .returned (.slice (some ⟨w.heap.size, 0, none⟩) 0 (grownCap w n 0 5)) ∧
      w' = w.drew.alloc (.cells ((#[] : Array Value) ++ Builtin.zeroCells z.cells n ++ Builtin.zeroCells z.cells (grownCap w n 0 5 - n)) 5) := by
  have h1 : ¬ ((n : Int) < 0) := by omega
  have h2 : wrap64 ((0 : Int) - (0 : Int)) = 0 := by unfold wrap64; omega
  have h3 : wrap64 ((n : Int) - 0) = (n : Int) := by unfold wrap64; omega
  have h4 : (n : Int) > 0 := by omega
  have hold : (Builtin.firstCells i0.size 0 (.slice none 0 0)).run Try.prog w.drew = .ok #[] w.drew := run_firstCells_none w.drew i0.size 0 0 0
  have hrz : ∀ ty, (Builtin.append_ #[47, 3] ty #[.slice none 0 0, .int .i64 (n : Int)]).run Try.prog w =
      .ok (.slice (some ⟨w.heap.size, 0, none⟩) n (grownCap w n 0 5)) (w.drew.alloc (.cells ((#[] : Array Value) ++ Builtin.zeroCells z.cells n ++ Builtin.zeroCells z.cells (grownCap w n 0 5 - n)) 5)) := fun ty => by
    have h := Lib.run_append_grow_zeros w 47 3 ty 5 i0 z .i64 .i64 (by kernel_rfl) (by kernel_rfl) hi0 hz0 none 0 0 [] hold n h0 (by omega) (by omega) (by omega)
      (by rw [hb0]; omega) (growslice_fits (by omega) (by rw [hb0]; omega))
    simpa using h
  have hGn : n ≤ grownCap w n 0 5 := grownCap_ge w _ _ _
  obtain ⟨G, hG⟩ : ∃ G, G = grownCap w n 0 5 := ⟨_, rfl⟩
  rw [← hG] at hrz hGn ⊢
  have hG63 : G ≤ 9223372036854775807 := by
    have := grownCap_le_maxLen w n 0 5 (by unfold maxLen; omega)
    rw [← hG] at this
    unfold maxLen at this
    omega
  clear hold hG
  go_enter Try.func125, Try.ntmps125
  go_wp2_with (at_builtin; refine Lib.wpList_append_run _ rfl _ _ _ _ rfl _ _ rfl rfl _ _ (hrz _) ?_)
  all_goals (go_ret; exact ⟨rfl, rfl⟩)
end Go.Proofs.Ytenaamehifbfeaa
namespace Go.VL
open Go.RowKit
/-- slices.Grow of the nil slice of bytes: a live slice of none. -/
theorem c125 (n : Nat) (h0 : 0 < n) (hn : n ≤ 2 ^ 30) : LiveC X 125 [.c (.v (.slice none 0 0)), cI n] (.c (.mu 0 0 0 1)) [⟨[], 5, true⟩] := by
  intro m arr hS hr
  obtain ⟨-, hp, i, z, g1, g2, g3, g4, g5, g6⟩ := X.ok 5 _ lay5
  have harr : arr = #[.slice none 0 0, .int .i64 n] := by
    obtain ⟨u, a1, a2⟩ := hr.2 0 _ rfl
    obtain ⟨v, b1, b2⟩ := hr.2 1 _ rfl
    have e1 := a2.val
    have e2 := b2.val
    subst e1 e2
    refine Array.ext (by simpa using hr.1) fun j h1 h2 => ?_
    have hj : j < 2 := by simpa using h2
    rcases (by omega : j = 0 ∨ j = 1) with rfl | rfl
    · have := (Array.getElem?_eq_some_iff.1 a1).2
      simpa using this
    · have := (Array.getElem?_eq_some_iff.1 b1).2
      simpa using this
  subst harr
  refine .inr ⟨Go.Proofs.Try.call125 _ _, (Go.Proofs.Ytenaamehifbfeaa.grow_run n h0 hn i z g1 g4 g2 g3 m.w).mono fun e w' ⟨he, hw⟩ => ?_⟩
  subst he hw
  have hge := grownCap_ge m.w n 0 5
  have hcm := grownCap_le_maxLen m.w n 0 5 (by unfold maxLen; omega)
  have hsz : ((#[] : Array Value) ++ Builtin.zeroCells z.cells n ++ Builtin.zeroCells z.cells (grownCap m.w n 0 5 - n)).size = grownCap m.w n 0 5 := by
    have hz1 : z.cells.size = 1 := g6
    simp only [Array.size_append, size_zeroCells, hz1]
    simp
    omega
  obtain ⟨k1, k2⟩ := hS.new (w' := m.w.drew.alloc (.cells ((#[] : Array Value) ++ Builtin.zeroCells z.cells n ++ Builtin.zeroCells z.cells (grownCap m.w n 0 5 - n)) 5)) (t := 5) (cs := []) rfl rfl rfl rfl (Nat.zero_le _) (fun j c hj => by simp at hj)
  refine ⟨_, rfl, _, .c (.mu 0 0 0 1), [⟨[], 5, true⟩], rfl, ⟨rfl, rfl⟩, k1, k2, .c ?_⟩
  have hN : m.N = 0 := hS.N
  have := R.mu (m := { m with w := m.w.drew.alloc (.cells ((#[] : Array Value) ++ Builtin.zeroCells z.cells n ++ Builtin.zeroCells z.cells (grownCap m.w n 0 5 - n)) 5), N := m.N + 1, μ := μadd m.μ m.N ⟨m.w.heap.size, 0, ((#[] : Array Value) ++ Builtin.zeroCells z.cells n ++ Builtin.zeroCells z.cells (grownCap m.w n 0 5 - n)).size, false⟩ }) (id := m.N) (off := 0) (n := 0) (k := 1) (cap := grownCap m.w n 0 5) (Nat.lt_succ_self _) (by simp [μadd_new]) (Nat.zero_le _) (by simp only [μadd_new, hsz]; omega) hcm
  simp only [μadd_new] at this
  rw [hN] at this ⊢
  exact this
end Go.VL
#print axioms Go.VL.c125
