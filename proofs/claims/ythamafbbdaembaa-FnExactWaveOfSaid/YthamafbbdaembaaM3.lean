/- Texts of one proof, put together: V46, V47, V48, V49, V50, V51, V52, V53, V54, X0, C1, C2, C3, C4, C5. -/
import Derived.Test.YthamafbbdaembaaM2
import Derived.DeepKeys
import Derived.Test.YthamafbbdaembaaProg
namespace Go.VL
open Go.RowKit
section
variable {X : Cx} {all r : List Oper} {K : Sl → List Ob → Prop} {sl : Sl} {H : List Ob} {d : Tmp} {ty : TypeId} {ps : String} {af : Array Edge}
theorem v_idx_arr_e {t e : TypeId} {x i : Operand} {a b : Nat} {z : List Value} {id off m k : Nat} {kk : IntKind} (j : Nat) {y : Int} {L : Lay} (hL : X.lay t = some ⟨.array m e, a, b, z⟩) (hLe : X.lay e = some L) (hk : L.size = k)
    (hx : rho X.G sl x = .c (.pt id off)) (hi : rho X.G sl i = .c (.v (.int kk y))) (ey : y = (j : Int)) (hj : j < m) (h : vops X all r K (upd sl d (.c (.pt id (off + j * k)))) H) :
    vops X all (⟨some d, .indexAddr t x i, ty, ps, af, none⟩ :: r) K sl H := by
  subst ey
  refine v_q _ rfl ?_ h
  simp only [evq, hL, hx, hi, hLe]
  rw [if_pos ⟨by omega, by omega⟩, Int.toNat_natCast, hk]
theorem v_idx_av_e {t e : TypeId} {x i : Operand} {a b : Nat} {z : List Value} {o : Bool} {cs : List C} {off m k : Nat} {kk : IntKind} (j : Nat) {y : Int} {L : Lay} (hL : X.lay t = some ⟨.array m e, a, b, z⟩) (hLe : X.lay e = some L) (hk : L.size = k)
    (hx : rho X.G sl x = .c (.vw o cs off)) (hi : rho X.G sl i = .c (.v (.int kk y))) (ey : y = (j : Int)) (hj : j < m) (h : vops X all r K (upd sl d (.c (.vw o cs (off + j * k)))) H) :
    vops X all (⟨some d, .indexAddr t x i, ty, ps, af, none⟩ :: r) K sl H := by
  subst ey
  refine v_q _ rfl ?_ h
  simp only [evq, hL, hx, hi, hLe]
  rw [if_pos ⟨by omega, by omega⟩, Int.toNat_natCast, hk]
/-- A cell, loaded from where the number says. -/
theorem v_load_vw_e {t : TypeId} {x : Operand} {L : Lay} {o : Bool} {cs : List C} {off : Nat} (v : V) (hL : X.lay t = some L) (hx : rho X.G sl x = .c (.vw o cs off)) (hl : off + L.size ≤ cs.length) (hv : mkV L.kind.agg (reowns o (sub cs off L.size)) = some v)
    (h : vops X all r K (upd sl d v) H) : vops X all (⟨some d, .load t x, ty, ps, af, none⟩ :: r) K sl H :=
  v_load_vw v hL hx (Nat.ble_eq_true_of_le hl) hv h
theorem v_load_flat_e {α : Type} {enc : α → List C} {t : TypeId} {x : Operand} {L : Lay} {id off k : Nat} {ys : List α} {tt : TypeId} (q f : Nat) (v : V) (he : ∀ a, (enc a).length = k) (hL : X.lay t = some L) (hx : rho X.G sl x = .c (.pt id off)) (ho : H[id]? = some ⟨flat enc ys, tt, true⟩)
    (hoff : off = q * k + f) (hq : q < ys.length) (hf : f + L.size ≤ k) (hv : mkV L.kind.agg (sub (enc ys[q]) f L.size) = some v) (h : vops X all r K (upd sl d v) H) : vops X all (⟨some d, .load t x, ty, ps, af, none⟩ :: r) K sl H :=
  v_load_flat q f v he hL hx ho hoff hq (Nat.ble_eq_true_of_le hf) hv h
theorem v_load_flatb {α : Type} {enc : α → List C} {t : TypeId} {x : Operand} {L : Lay} {id off k : Nat} {ys : List α} {tt : TypeId} {w : Bool} (q f : Nat) (he : ∀ a, (enc a).length = k) (hL : X.lay t = some L) (hx : rho X.G sl x = .c (.pt id off)) (ho : H[id]? = some ⟨flat enc ys, tt, true⟩)
    (hoff : off = q * k + f) (hq : q < ys.length) (hf : f + L.size ≤ k) (hv : mkV L.kind.agg (sub (enc ys[q]) f L.size) = some (.c (.v (.bool w))))
    (h1 : w = true → vops X all r K (upd sl d (.c (.v (.bool true)))) H) (h2 : w = false → vops X all r K (upd sl d (.c (.v (.bool false)))) H) : vops X all (⟨some d, .load t x, ty, ps, af, none⟩ :: r) K sl H := by
  cases w with
  | true => exact v_load_flat_e q f _ he hL hx ho hoff hq hf hv (h1 rfl)
  | false => exact v_load_flat_e q f _ he hL hx ho hoff hq hf hv (h2 rfl)
theorem v_store_flat_e {α : Type} {enc : α → List C} {t : TypeId} {a x : Operand} {L : Lay} {id off k : Nat} {cs : List C} {ys : List α} {tt : TypeId} {H' : List Ob} (q f : Nat) (y : α) (he : ∀ a, (enc a).length = k) (hL : X.lay t = some L) (ha : rho X.G sl a = .c (.pt id off)) (hx : (rho X.G sl x).cells = some cs) (ho : H[id]? = some ⟨flat enc ys, tt, true⟩)
    (hoff : off = q * k + f) (hq : q < ys.length) (hl : Nat.beq cs.length L.size = true) (hf : f + L.size ≤ k) (hy : enc y = setCells (enc ys[q]) f cs) (hH : H.set id ⟨flat enc (ys.set q y), tt, true⟩ = H') (h : vops X all r K sl H') :
    vops X all (⟨none, .store t a x, ty, ps, af, none⟩ :: r) K sl H :=
  v_store_flat q f y he hL ha hx ho hoff hq hl (Nat.ble_eq_true_of_le hf) hy hH h
/-- An element of an array that is a value. -/
theorem v_index_e {t e : TypeId} {x i : Operand} {n a b : Nat} {z : List Value} {cs : List C} {kk : IntKind} (j : Nat) {y : Int} {L : Lay} (v : V) (hL : X.lay t = some ⟨.array n e, a, b, z⟩) (hLe : X.lay e = some L) (hx : rho X.G sl x = .agg cs) (hi : rho X.G sl i = .c (.v (.int kk y))) (ey : y = (j : Int))
    (hj : j < n) (hc : j * L.size + L.size ≤ cs.length) (hv : mkV L.kind.agg (sub cs (j * L.size) L.size) = some v) (h : vops X all r K (upd sl d v) H) :
    vops X all (⟨some d, .index t x i, ty, ps, af, none⟩ :: r) K sl H := by
  subst ey
  exact v_index v hL hLe hx hi ⟨by omega, by omega, by rw [Int.toNat_natCast]; exact hc⟩ (by rw [Int.toNat_natCast]; exact hv) h
end
/-! Rows of eight truths -/
abbrev Ph := Fin 8 → Bool
def bo (b : Bool) : List C := [.v (.bool b)]
theorem bo_len (b : Bool) : (bo b).length = 1 := rfl
theorem bo_sc (b : Bool) : (bo b).all sc = true := rfl
def pl (g : Ph) : List Bool := [g 0, g 1, g 2, g 3, g 4, g 5, g 6, g 7]
theorem pl_len (g : Ph) : (pl g).length = 8 := rfl
abbrev phc (g : Ph) : List C := [.v (.bool (g 0)), .v (.bool (g 1)), .v (.bool (g 2)), .v (.bool (g 3)), .v (.bool (g 4)), .v (.bool (g 5)), .v (.bool (g 6)), .v (.bool (g 7))]
theorem pl_flat (g : Ph) : phc g = flat bo (pl g) := rfl
theorem pl_get (g : Ph) {i : Nat} (h : i < 8) : (pl g)[i]'(by rw [pl_len]; exact h) = g ⟨i, h⟩ := by
  match i, h with
  | 0, _ => rfl
  | 1, _ => rfl
  | 2, _ => rfl
  | 3, _ => rfl
  | 4, _ => rfl
  | 5, _ => rfl
  | 6, _ => rfl
  | 7, _ => rfl
def putG (g : Ph) (i : Nat) (b : Bool) : Ph := fun j => if j.val = i then b else g j
theorem pl_set (g : Ph) {i : Nat} (h : i < 8) (b : Bool) : (pl g).set i b = pl (putG g i b) := by
  match i, h with
  | 0, _ => rfl
  | 1, _ => rfl
  | 2, _ => rfl
  | 3, _ => rfl
  | 4, _ => rfl
  | 5, _ => rfl
  | 6, _ => rfl
  | 7, _ => rfl
theorem phc_sub (g : Ph) (r : List C) {i : Nat} (h : i < 8) : sub (phc g ++ r) i 1 = [.v (.bool (g ⟨i, h⟩))] := by
  match i, h with
  | 0, _ => rfl
  | 1, _ => rfl
  | 2, _ => rfl
  | 3, _ => rfl
  | 4, _ => rfl
  | 5, _ => rfl
  | 6, _ => rfl
  | 7, _ => rfl
theorem phc_set (g : Ph) (r : List C) {i : Nat} (h : i < 8) (b : Bool) : setCells (phc g ++ r) i [.v (.bool b)] = phc (putG g i b) ++ r := by
  match i, h with
  | 0, _ => rfl
  | 1, _ => rfl
  | 2, _ => rfl
  | 3, _ => rfl
  | 4, _ => rfl
  | 5, _ => rfl
  | 6, _ => rfl
  | 7, _ => rfl
/-- The first ones of one row, the rest of another. -/
def mixG (i : Nat) (g h : Ph) : Ph := fun j => if j.val < i then g j else h j
theorem mix_0 (g h : Ph) : mixG 0 g h = h := by funext j; simp [mixG]
theorem mix_8 (g h : Ph) : mixG 8 g h = g := by funext j; simp [mixG, j.isLt]
theorem mix_put (g h : Ph) {i : Nat} (hi : i < 8) : putG (mixG i g h) i (g ⟨i, hi⟩) = mixG (i + 1) g h := by
  funext j
  unfold putG mixG
  by_cases h1 : j.val = i
  · subst h1
    simp
  · by_cases h2 : j.val < i
    · rw [if_neg h1, if_pos h2, if_pos (by omega)]
    · rw [if_neg h1, if_neg h2, if_neg (by omega)]
theorem ph_ext {g h : Ph} : g = h ↔ ∀ i (hi : i < 8), g ⟨i, hi⟩ = h ⟨i, hi⟩ := ⟨fun e i hi => by rw [e], fun e => by funext ⟨i, hi⟩; exact e i hi⟩
end Go.VL
namespace Go.VL
open Go.RowKit
def int (a : Int) : List C := [.v (.int .i64 a)]
theorem int_len (a : Int) : (int a).length = 1 := rfl
theorem int_sc (a : Int) : (int a).all sc = true := rfl
abbrev cI (a : Int) : V := .c (.v (.int .i64 a))
abbrev cB (b : Bool) : V := .c (.v (.bool b))
abbrev ints (o : Bool) (xs : List Int) : C := .sl o xs.length 1 (flat int xs)
abbrev bls (o : Bool) (xs : List Bool) : C := .sl o xs.length 1 (flat bo xs)
def szr (n : Nat) (l : Int) : Int := if l - n < 0 then -1 else l - n
theorem a_i {H : List Ob} {a b : Int} (h : a = b) : TrV H [] (cI a) (cI b) := by rw [h]; exact tr_v
theorem tr_i {H : List Ob} {g : List (Option Nat)} {a b : Int} (h : a = b) : TrV H g (cI a) (cI b) := by rw [h]; exact tr_v
theorem tr_fn1 {H : List Ob} {gg : List (Option Nat)} {g : FuncId} {cs : List C} : TrV H gg (.c (.fn g [.vw false cs 0])) (.c (.fn g [.vw false cs 0])) := .c (.fn rfl (same_of fun c hc => Tr.stay (by simp at hc; subst hc; rfl)))
theorem tr_fnv {H : List Ob} {gg : List (Option Nat)} {g : FuncId} {x : Value} : TrV H gg (.c (.fn g [.v x])) (.c (.fn g [.v x])) := .c (.fn rfl (same_of fun c hc => Tr.stay (by simp at hc; subst hc; rfl)))
theorem tr_fn0 {H : List Ob} {gg : List (Option Nat)} {g : FuncId} : TrV H gg (.c (.fn g [])) (.c (.fn g [])) := .c (.fn rfl (fun j c c' h => by simp at h))
theorem tr_mun {H : List Ob} {g : List (Option Nat)} {i id off n n' k : Nat} (h : g[i]? = some (some id)) (hn : n = n') : TrV H g (.c (.mu id off n k)) (.c (.mu i off n' k)) := by
  subst hn
  exact tr_mu h
theorem i64r {a : Int} (h : -9223372036854775808 ≤ a ∧ a ≤ 9223372036854775807) : IntKind.i64.min ≤ a ∧ a ≤ IntKind.i64.max := h
theorem all_step {α : Type} {xs : List α} {i : Nat} {p : α → Prop} (hi : i < xs.length) (h : ∀ x ∈ xs.take i, p x) (h1 : p xs[i]) : ∀ x ∈ xs.take (i + 1), p x := by
  rw [List.take_succ_eq_append_getElem hi]
  intro x hx
  rcases List.mem_append.1 hx with hx | hx
  · exact h x hx
  · simp at hx; subst hx; exact h1
inductive TrVL (H : List Ob) (g : List (Option Nat)) : List V → List V → Prop
  | nil : TrVL H g [] []
  | cons {v v' : V} {vs vs' : List V} (h : TrV H g v v') (hs : TrVL H g vs vs') : TrVL H g (v :: vs) (v' :: vs')
theorem TrVL.spec {H : List Ob} {g : List (Option Nat)} {vs vs' : List V} (h : TrVL H g vs vs') : vs'.length = vs.length ∧ ∀ (j : Nat) (v v' : V), vs[j]? = some v → vs'[j]? = some v' → TrV H g v v' := by
  induction h with
  | nil => exact ⟨rfl, fun j c c' h => by simp at h⟩
  | cons h hs ih =>
    refine ⟨by simp [ih.1], fun j x x' hj hj' => ?_⟩
    cases j with
    | zero => simp at hj hj'; subst hj hj'; exact h
    | succ j => exact ih.2 j x x' (by simpa using hj) (by simpa using hj')
theorem a_tup {H : List Ob} {g : List (Option Nat)} {vs vs' : List V} (h : TrVL H g vs vs') : TrV H g (.tup vs) (.tup vs') := .tup h.spec.1 h.spec.2
def firstNZ : List Int → Int
  | [] => 0
  | x :: r => if x = 0 then firstNZ r else x
theorem firstNZ_none : ∀ {xs : List Int}, (∀ x ∈ xs, x = 0) → firstNZ xs = 0
  | [], _ => rfl
  | x :: r, h => by
    have h0 := h x (by simp)
    simp only [firstNZ, h0, if_true]
    exact firstNZ_none fun y hy => h y (by simp [hy])
theorem firstNZ_hit : ∀ {xs : List Int} {i : Nat} (hi : i < xs.length), (∀ x ∈ xs.take i, x = 0) → ¬ xs[i] = 0 → firstNZ xs = xs[i]
  | x :: r, 0, _, _, h => by simpa [firstNZ] using fun h0 => absurd h0 h
  | x :: r, i + 1, hi, hp, h => by
    have h0 := hp x (by simp)
    simp only [firstNZ, h0, if_true]
    exact firstNZ_hit (xs := r) (by simpa using hi) (fun y hy => hp y (by simp [hy])) (by simpa using h)
def fix {α : Type} (pr : α → Prop) [DecidablePred pr] (xs : List α) : Int := match xs.findIdx? (fun x => decide (pr x)) with
  | some i => (i : Int)
  | none => -1
theorem fix_none {α : Type} {pr : α → Prop} [DecidablePred pr] {xs : List α} (h : ∀ x ∈ xs, ¬ pr x) : fix pr xs = -1 := by
  unfold fix
  rw [List.findIdx?_eq_none_iff.2 (by simpa using h)]
theorem fix_hit {α : Type} {pr : α → Prop} [DecidablePred pr] {xs : List α} {i : Nat} (hi : i < xs.length) (h : ∀ x ∈ xs.take i, ¬ pr x) (h1 : pr xs[i]) : fix pr xs = i := by
  unfold fix
  rw [List.findIdx?_eq_some_iff_getElem.2 ⟨hi, by simpa using h1, fun j hj => by
    simpa using h xs[j] (by rw [List.mem_take_iff_getElem]; exact ⟨j, by omega, rfl⟩)⟩]
theorem fix_ge {α : Type} (pr : α → Prop) [DecidablePred pr] (xs : List α) : 0 ≤ fix pr xs ↔ ∃ x ∈ xs, pr x := by
  unfold fix
  cases h : xs.findIdx? (fun x => decide (pr x)) with
  | none =>
    have := List.findIdx?_eq_none_iff.1 h
    simp only [decide_eq_false_iff_not] at this
    constructor
    · intro h; exact absurd (show (0 : Int) ≤ -1 from h) (by decide)
    · rintro ⟨x, h1, h2⟩; exact absurd h2 (this x h1)
  | some i =>
    obtain ⟨h1, h2, -⟩ := List.findIdx?_eq_some_iff_getElem.1 h
    exact ⟨fun _ => ⟨_, List.getElem_mem h1, by simpa using h2⟩, fun _ => by simp only []; omega⟩
theorem gD {α : Type} {xs : List α} {i : Nat} {x : α} (h : i < xs.length) : xs.getD i x = xs[i] := by simp [h]
def mx (a b : Int) : Int := if a < b then b else a
theorem take_all_eq {α : Type} {xs ys : List α} {i : Nat} (h : xs.take i = ys.take i) (h1 : i = xs.length) (h2 : ys.length = xs.length) : xs = ys := by
  subst h1
  rwa [List.take_length, ← h2, List.take_length] at h
theorem take_step_eq {α : Type} {xs ys : List α} {i : Nat} (h : xs.take i = ys.take i) (h1 : i < xs.length) (h2 : i < ys.length) (he : xs[i] = ys[i]) : xs.take (i + 1) = ys.take (i + 1) := by
  rw [List.take_succ_eq_append_getElem h1, List.take_succ_eq_append_getElem h2, h, he]
theorem ne_at {α : Type} {xs ys : List α} {i : Nat} (h1 : i < xs.length) (h2 : i < ys.length) (he : ¬ xs[i] = ys[i]) : ¬ xs = ys := by
  rintro rfl
  exact he rfl
theorem mk_at {α : Type} {f : Nat → α} {n i : Nat} (h : i < ((List.range n).map f).length) : ((List.range n).map f)[i] = f i := by
  rw [List.getElem_map, List.getElem_range]
theorem snoc_eq {α : Type} {enc : α → List C} (f : Nat → α) (i : Nat) {x : α} (h : f i = x) : flat enc ((List.range i).map f ++ [x]) = flat enc ((List.range (i + 1)).map f) := by rw [range_step, h]
theorem set_same {α : Type} {H : List α} {id : Nat} {o : α} (h : H[id]? = some o) : H.set id o = H := by
  have hlt := (List.getElem?_eq_some_iff.1 h).1
  rw [List.getElem?_eq_getElem hlt] at h
  rw [← Option.some.inj h, List.set_getElem_self]
theorem flat_of2 {α : Type} {enc : α → List C} {p : α → Prop} {xs : List (List C)} (h : ∀ x ∈ xs, ∃ a, x = enc a ∧ p a) : ∃ zs : List α, zs.length = xs.length ∧ xs.flatten = flat enc zs ∧ ∀ a ∈ zs, p a := by
  induction xs with
  | nil => exact ⟨[], rfl, rfl, fun a h => by cases h⟩
  | cons x xs ih =>
    obtain ⟨a, rfl, ha⟩ := h x (by simp)
    obtain ⟨zs, h1, h2, h3⟩ := ih (fun y hy => h y (by simp [hy]))
    exact ⟨a :: zs, by simp [h1], by rw [List.flatten_cons, h2, flat_cons], fun b hb => by
      rcases List.mem_cons.1 hb with rfl | hb
      · exact ha
      · exact h3 b hb⟩
def imark (a : Int) (j : Nat) : Int := a + j
theorem imark_step {a : Int} {i : Nat} {xs : List Int} (h : i < xs.length) : (marks (imark a) i xs).set i (a + i) = marks (imark a) (i + 1) xs := marks_step (f := imark a) h
/-! Sources of draws -/
def byt (b : Int) : List C := [.v (.int .u8 b)]
theorem byt_len (b : Int) : (byt b).length = 1 := rfl
theorem byt_sc (b : Int) : (byt b).all sc = true := rfl
/-- Choices from bytes: the bytes, where it stands, and the sequence. -/
abbrev srcT (t : TypeId) (code : List Int) (a s : Int) : Ob := ⟨[.sl false code.length 1 (flat byt code), .v (.int .i64 a), .v (.int .u64 s)], t, true⟩
def sd (s b : Int) : Int := IntKind.u64.wrap (IntKind.u64.wrap (IntKind.u64.wrap (s * 6364136223846793005) + b) + 1442695040888963407)
def nxS (code : List Int) (a s : Int) : Int := sd s (code.getD a.toNat 0)
def nxR (code : List Int) (a s : Int) : Int := if a.toNat < code.length then code.getD a.toNat 0 else bits .and .u64 ((nxS code a s).fdiv (2 ^ min (40 : Int).toNat IntKind.u64.bits)) 255
theorem nxR_in {code : List Int} {a : Nat} {s : Int} (h : a < code.length) : code[a] = nxR code a s := by
  unfold nxR
  rw [Int.toNat_natCast, if_pos h, gD h]
theorem nxS_in {code : List Int} {a : Nat} {s : Int} (h : a < code.length) : sd s code[a] = nxS code a s := by
  unfold nxS
  rw [Int.toNat_natCast, gD h]
theorem nxS_out {code : List Int} {a : Nat} {s : Int} (h : ¬ a < code.length) : sd s 0 = nxS code a s := by
  unfold nxS
  rw [Int.toNat_natCast, List.getD_eq_getElem?_getD, List.getElem?_eq_none (by omega)]
  rfl
theorem nxR_out {code : List Int} {a : Nat} {s : Int} (h : ¬ a < code.length) : bits .and .u64 ((sd s 0).fdiv (2 ^ min (40 : Int).toNat IntKind.u64.bits)) 255 = nxR code a s := by
  unfold nxR
  rw [Int.toNat_natCast, if_neg h, nxS_out h]
theorem nxR_rng {code : List Int} {a s : Int} (hc : ∀ b ∈ code, 0 ≤ b ∧ b ≤ 255) : 0 ≤ nxR code a s ∧ nxR code a s ≤ 255 := by
  unfold nxR
  split
  · rename_i h
    rw [gD h]
    exact hc _ (List.getElem_mem h)
  · exact and_le (k := 8) (by decide) (by decide)
/-- A number, picked below n: where more than two hundred, from two bytes. -/
def pkR (code : List Int) (n a s : Int) : Int := if n ≤ 1 then 0 else if n ≤ 200 then (nxR code a s).tmod n else (nxR code a s * 256 + nxR code (a + 1) (nxS code a s)).tmod n
def pkA (n a : Int) : Int := if n ≤ 1 then a else if n ≤ 200 then a + 1 else a + 1 + 1
def pkS (code : List Int) (n a s : Int) : Int := if n ≤ 1 then s else if n ≤ 200 then nxS code a s else nxS code (a + 1) (nxS code a s)
theorem pk_rng {code : List Int} {n a s : Int} (hc : ∀ b ∈ code, 0 ≤ b ∧ b ≤ 255) : 0 ≤ pkR code n a s ∧ (1 < n → pkR code n a s < n) ∧ (n ≤ 1 → pkR code n a s = 0) ∧ a ≤ pkA n a ∧ pkA n a ≤ a + 2 := by
  have h := nxR_rng (code := code) (a := a) (s := s) hc
  have h2 := nxR_rng (code := code) (a := a + 1) (s := nxS code a s) hc
  unfold pkR pkA
  split
  · exact ⟨by omega, fun h => by omega, fun _ => rfl, by omega, by omega⟩
  · split
    · refine ⟨Int.tmod_nonneg _ h.1, fun _ => Int.tmod_lt_of_pos _ (by omega), fun h => by omega, by omega, by omega⟩
    · refine ⟨Int.tmod_nonneg _ (by omega), fun _ => Int.tmod_lt_of_pos _ (by omega), fun h => by omega, by omega, by omega⟩
theorem pk_if1 {t : TypeId} {code : List Int} {n a s : Int} (h : n ≤ 1) : 0 = pkR code n a s ∧ srcT t code a s = srcT t code (pkA n a) (pkS code n a s) := by unfold pkR pkA pkS; rw [if_pos h, if_pos h, if_pos h]; exact ⟨rfl, rfl⟩
theorem pk_if2 {t : TypeId} {code : List Int} {n a s : Int} (h : ¬ n ≤ 1) (h2 : n ≤ 200) : (nxR code a s).tmod n = pkR code n a s ∧ srcT t code (a + 1) (nxS code a s) = srcT t code (pkA n a) (pkS code n a s) := by unfold pkR pkA pkS; rw [if_neg h, if_neg h, if_neg h, if_pos h2, if_pos h2, if_pos h2]; exact ⟨rfl, rfl⟩
theorem pk_if3 {t : TypeId} {code : List Int} {n a s : Int} (h : ¬ n ≤ 1) (h2 : ¬ n ≤ 200) : (nxR code a s * 256 + nxR code (a + 1) (nxS code a s)).tmod n = pkR code n a s ∧ srcT t code (a + 1 + 1) (nxS code (a + 1) (nxS code a s)) = srcT t code (pkA n a) (pkS code n a s) := by
  unfold pkR pkA pkS; rw [if_neg h, if_neg h, if_neg h, if_neg h2, if_neg h2, if_neg h2]; exact ⟨rfl, rfl⟩
end Go.VL
namespace Go.VL
open Go.RowKit
theorem cty_array {lay : TypeId → Option Lay} {t e : TypeId} {n a b : Nat} {z : List Value} (hL : lay t = some ⟨.array n e, a, b, z⟩) {cs : List C} (h : Cty lay t cs) : cs.length = a ∧ ∀ i, i < n → Cty lay e (sub cs (i * szOf lay e) (szOf lay e)) := by
  cases h with
  | array h cs hl hf => rw [hL] at h; simp only [Option.some.injEq, Lay.mk.injEq, LK.array.injEq] at h; obtain ⟨⟨rfl, rfl⟩, rfl, -⟩ := h; exact ⟨hl, hf⟩
  | _ => first
    | (rename_i h; rw [hL] at h; simp at h; done)
    | (rename_i h _; rw [hL] at h; simp at h; done)
    | (rename_i h _ _; rw [hL] at h; simp at h; done)
    | (rename_i h _ _ _; rw [hL] at h; simp at h; done)
    | (rename_i h _ _ _ _; rw [hL] at h; simp at h; done)
theorem vty_i64 {lay : TypeId → Option Lay} {t : TypeId} {a b : Nat} {z : List Value} (hL : lay t = some ⟨.int .i64, a, b, z⟩) {v : V} (h : VTy lay t v) : ∃ n, v = cI n := by
  unfold VTy at h
  rw [hL] at h
  simp only [LK.agg, Bool.false_eq_true, if_false] at h
  obtain ⟨c, rfl, hc⟩ := h
  obtain ⟨n, e, -⟩ := cty_int hL hc
  simp only [List.cons.injEq, and_true] at e
  subst e
  exact ⟨n, rfl⟩
/-- Eight truths, one by one. -/
theorem cty_ph {lay : TypeId → Option Lay} {t e : TypeId} {b b' a' : Nat} {z z' : List Value} (hL : lay t = some ⟨.array 8 e, 8, b, z⟩) (hLe : lay e = some ⟨.bool, a', b', z'⟩) (hs : szOf lay e = 1) {cs : List C} (h : Cty lay t cs) : ∃ g : Ph, cs = phc g := by
  obtain ⟨h1, h2⟩ := cty_array hL h
  rw [hs] at h2
  match cs, h1 with
  | [c0, c1, c2, c3, c4, c5, c6, c7], _ =>
    obtain ⟨g0, e0⟩ := cty_bool hLe (h2 0 (by decide))
    obtain ⟨g1, e1⟩ := cty_bool hLe (h2 1 (by decide))
    obtain ⟨g2, e2⟩ := cty_bool hLe (h2 2 (by decide))
    obtain ⟨g3, e3⟩ := cty_bool hLe (h2 3 (by decide))
    obtain ⟨g4, e4⟩ := cty_bool hLe (h2 4 (by decide))
    obtain ⟨g5, e5⟩ := cty_bool hLe (h2 5 (by decide))
    obtain ⟨g6, e6⟩ := cty_bool hLe (h2 6 (by decide))
    obtain ⟨g7, e7⟩ := cty_bool hLe (h2 7 (by decide))
    have q0 : [c0] = [.v (.bool g0)] := e0
    have q1 : [c1] = [.v (.bool g1)] := e1
    have q2 : [c2] = [.v (.bool g2)] := e2
    have q3 : [c3] = [.v (.bool g3)] := e3
    have q4 : [c4] = [.v (.bool g4)] := e4
    have q5 : [c5] = [.v (.bool g5)] := e5
    have q6 : [c6] = [.v (.bool g6)] := e6
    have q7 : [c7] = [.v (.bool g7)] := e7
    simp only [List.cons.injEq, and_true] at q0 q1 q2 q3 q4 q5 q6 q7
    subst q0 q1 q2 q3 q4 q5 q6 q7
    exact ⟨fun i => [g0, g1, g2, g3, g4, g5, g6, g7][i.val]'(by simp), rfl⟩
end Go.VL
namespace Go.VL
open Go.RowKit
/-- A cell that is frozen, or a number. -/
def fz : C → Bool
  | .v _ => true
  | .f _ _ => true
  | .sl true _ _ _ => true
  | .vw true _ _ => true
  | _ => false
theorem fz_flat {α : Type} {enc : α → List C} (h : ∀ a, (enc a).all fz = true) (xs : List α) : ∀ c ∈ flat enc xs, fz c = true := fun c hc => by
  obtain ⟨a, -, ha⟩ := List.mem_flatMap.1 hc
  exact List.all_eq_true.1 (h a) c ha
theorem Dn.fz {o : Bool} {H : List Ob} {gone : Nat → Prop} {c : C} (h : fz c = true) : Dn o H gone c c := by
  cases c with
  | v x => exact .v
  | f k x => exact .f
  | sl b n k cs => cases b with
    | true => exact .sl fun _ => rfl
    | false => cases h
  | vw b cs off => cases b with
    | true => exact .vw fun _ => rfl
    | false => cases h
  | _ => cases h
theorem dnl_fz {o : Bool} {H : List Ob} {gone : Nat → Prop} : ∀ {cs : List C}, (∀ c ∈ cs, fz c = true) → DnL o H gone cs cs
  | [], _ => .nil
  | c :: cs, h => .cons (.fz (h c (by simp))) (dnl_fz fun x hx => h x (by simp [hx]))
theorem stays_fz {c : C} (h : fz c = true) : stays c = true := by
  cases c with
  | v x => rfl
  | f k x => rfl
  | sl b n k cs => rfl
  | vw b cs off => rfl
  | _ => cases h
theorem dn_flatz {α : Type} {enc : α → List C} {o b' : Bool} {H : List Ob} {gone : Nat → Prop} {id n k : Nat} {xs : List α} {t : TypeId} (hsc : ∀ a, (enc a).all fz = true) (he : ∀ a, (enc a).length = k) (ho : H[id]? = some ⟨flat enc xs, t, true⟩) (hg : gone id) (hn : n = xs.length) :
    Dn o H gone (.mu id 0 n k) (.sl b' n k (flat enc xs)) := dn_mu ho hg (by rw [flat_length he, hn]) (dnl_fz (fz_flat hsc xs))
theorem trc_flatz {α : Type} {enc : α → List C} {H : List Ob} {g : List (Option Nat)} {xs : List α} (h : ∀ a, (enc a).all fz = true) {cs : List C} (hc : cs = flat enc xs) : TrC H g cs (flat enc xs) := by
  rw [hc]
  exact .stay fun c hc => stays_fz (fz_flat h xs c hc)
theorem vw_muz {α : Type} {H : List Ob} {enc : α → List C} {id n k : Nat} {xs : List α} {t : TypeId} (hsc : ∀ a, (enc a).all fz = true) (he : ∀ a, (enc a).length = k) (ho : H[id]? = some ⟨flat enc xs, t, true⟩) (hn : n = xs.length) : VwV H (.c (.mu id 0 n k)) (.c (.sl false n k (flat enc xs))) :=
  vw_dn (dn_flatz hsc he ho trivial hn) rfl
theorem a_flatz {α : Type} {H : List Ob} {enc : α → List C} {id n n' k : Nat} {xs : List α} {t : TypeId} {cs : List C} (hsc : ∀ a, (enc a).all fz = true) (he : ∀ a, (enc a).length = k) (ho : H[id]? = some ⟨cs, t, true⟩) (hc : cs = flat enc xs) (hn : n = xs.length) (hn' : n' = n) : TrV H [] (.c (.mu id 0 n k)) (.c (.sl true n' k (flat enc xs))) := by
  subst hc hn'
  exact a_dn (dn_flatz hsc he ho gone_nil hn)
section
variable {X : Cx} {all r : List Oper} {K : Sl → List Ob → Prop} {sl : Sl} {H : List Ob} {d : Tmp} {ty : TypeId} {ps : String} {af : Array Edge}
theorem v_app_flatz {α : Type} {enc : α → List C} {ys zs : List α} {s x : Operand} {t e e' : TypeId} {a b : Nat} {z : List Value} {L : Lay} {id idx m n k q : Nat} {H' : List Ob} (_hsc : ∀ a, (enc a).all fz = true) (he : ∀ a, (enc a).length = k) (hL : X.lay t = some ⟨.slice e, a, b, z⟩) (hLe : X.lay e = some L) (hs : rho X.G sl s = .c (.mu id 0 m k)) (ho : H[id]? = some ⟨flat enc ys, e, true⟩) (hm : m = ys.length)
    (hx : rho X.G sl x = .c (.mu idx 0 n k)) (hox : H[idx]? = some ⟨flat enc zs, e', true⟩) (hz : n = zs.length) (hk : L.size = k) (hk0 : Nat.blt 0 k = true) (hn : m + n ≤ maxLen ∧ (m + n) * L.bytes ≤ 140737488355328) (hq : H.length = q) (hH : H.set id ⟨flat enc ys, e, false⟩ ++ [⟨flat enc (ys ++ zs), e, true⟩] = H') (h : vops X all r K (upd sl d (.c (.mu q 0 (m + n) k))) H') :
    vops X all (⟨some d, .call ⟨.builtin .append, #[s, x], #[t, t]⟩, ty, ps, af, none⟩ :: r) K sl H := by
  have hx' : srcOf H (rho X.G sl x) = some (n, k, flat enc zs) := by
    have hl : 0 + n * k ≤ (flat enc zs).length := by rw [flat_length he, hz]; omega
    have hsub : sub (flat enc zs) 0 (n * k) = flat enc zs := by
      have : n * k = (flat enc zs).length := by rw [flat_length he, hz]
      unfold sub
      rw [this]; simp
    simp only [srcOf, hx, hox]
    rw [if_pos ⟨trivial, hl⟩, hsub]
  exact v_app_mu hL hLe hs ho hx' hk (Nat.le_of_ble_eq_true hk0) (by rw [flat_length he, hm]) hn hq (by rw [← flat_append]; exact hH) h
theorem v_app_flatz_sl {α : Type} {enc : α → List C} {ys zs : List α} {s x : Operand} {t e : TypeId} {a b : Nat} {z : List Value} {L : Lay} {id m n k q : Nat} {H' : List Ob} (_hsc : ∀ a, (enc a).all fz = true) (he : ∀ a, (enc a).length = k) (hL : X.lay t = some ⟨.slice e, a, b, z⟩) (hLe : X.lay e = some L) (hs : rho X.G sl s = .c (.mu id 0 m k)) (ho : H[id]? = some ⟨flat enc ys, e, true⟩) (hm : m = ys.length)
    (hx : rho X.G sl x = .c (.sl true n k (flat enc zs))) (hk : L.size = k) (hk0 : Nat.blt 0 k = true) (hn : m + n ≤ maxLen ∧ (m + n) * L.bytes ≤ 140737488355328) (hq : H.length = q) (hH : H.set id ⟨flat enc ys, e, false⟩ ++ [⟨flat enc (ys ++ zs), e, true⟩] = H') (h : vops X all r K (upd sl d (.c (.mu q 0 (m + n) k))) H') :
    vops X all (⟨some d, .call ⟨.builtin .append, #[s, x], #[t, t]⟩, ty, ps, af, none⟩ :: r) K sl H := by
  have hx' : srcOf H (rho X.G sl x) = some (n, k, flat enc zs) := by
    simp only [srcOf, hx]
    rfl
  exact v_app_mu hL hLe hs ho hx' hk (Nat.le_of_ble_eq_true hk0) (by rw [flat_length he, hm]) hn hq (by rw [← flat_append]; exact hH) h
end
/-! Remainders -/
theorem em_of {a n : Int} (k : Int) : (a - n * k) % n = a % n := Int.sub_mul_emod_self_left a n k
theorem mo_eq {a n : Int} (hn : 0 < n) : (a.tmod n + n).tmod n = a % n := by
  have h := Int.lt_tmod_of_pos a hn
  rw [Int.tmod_eq_emod_of_nonneg (by omega), Int.add_emod_right, Int.tmod_def, em_of]
theorem pl_eq {t f n : Int} (hn : 0 < n) (ht : 0 ≤ t) (hf : 0 ≤ f ∧ f < n) : (t.tmod n - f + n).tmod n = (t - f) % n := by
  have h1 := Int.emod_nonneg t (show n ≠ 0 by omega)
  rw [Int.tmod_eq_emod_of_nonneg ht, Int.tmod_eq_emod_of_nonneg (by omega), Int.add_emod_right]
  have e : t % n - f = (t - f) - n * (t / n) := by
    have := Int.emod_add_mul_ediv t n
    omega
  rw [e, em_of]
theorem em_add {a c n : Int} : (a % n + c) % n = (a + c) % n := Int.emod_add_emod a n c
theorem em_sub {a c n : Int} : (a - c % n) % n = (a - c) % n := by
  have := Int.emod_add_mul_ediv c n
  have e : a - c = (a - c % n) - n * (c / n) := by omega
  rw [e, em_of]
end Go.VL
namespace Go.VL
open Go.RowKit
theorem ag_call {X : Cx} {sl : Sl} {H : List Ob} {f : Operand} {args : Array Operand} {tys : Array TypeId} {gf : FuncId} {caps : List C} {args' : List V} {res : V} (hp : PureC X gf args' res) (hown : ownV res = true) (hf : rho X.G sl f = .c (.fn gf caps)) {aa : List V} (has : args.toList.map (rho X.G sl) ++ caps.map .c = aa) (hv : Views H aa args') :
    Qt0 X 0 H (rho X.G sl) (.call ⟨.value f, args, tys⟩) res := by
  subst has
  unfold Qt0
  rw [if_neg (by omega)]
  simp only [callOf, hf, target]
  exact ⟨args', hv, hp, hown⟩
theorem ag_if {c : Bool} {p : Prop} (hc : c = true) (h : p) : if c = true then p else True := by rw [if_pos hc]; exact h
end Go.VL
namespace Go.VL
open Go.RowKit
/-- What a struct's value is, where its cells are numbers and truths. -/
theorem agg_vals {m : Mem} {vs : List Value} {u : Value} (h : RV m (.agg (vs.map C.v)) u) : u = .agg vs.toArray := by
  obtain ⟨xs, rfl, h1, h2⟩ := h.aggI
  congr 1
  apply Array.ext
  · simpa using h1
  · intro j hj1 hj2
    have hj : j < vs.length := by simpa using hj2
    obtain ⟨u, k1, k2⟩ := h2 j (.v vs[j]) (by rw [List.getElem?_map, List.getElem?_eq_getElem hj]; rfl)
    have e := k2.val
    rw [Array.getElem?_eq_getElem hj1] at k1
    rw [Option.some.inj k1, e]
    simp
theorem struct_eqD {X : Cx} {t : TypeId} {m : Mem} {vs1 vs2 : List Value} {u v : Value} {p : Prop} (q d : Nat) (hq : d + q = 10000) (hk : X.P.keyTypeAt q t = true) {l1 l2 : List Lit} {D : Nat}
    (hf1 : (Value.agg vs1.toArray).formed X.P t = true) (hf2 : (Value.agg vs2.toArray).formed X.P t = true) (hl1 : X.P.keyLits D t vs1 = some l1) (hl2 : X.P.keyLits D t vs2 = some l2) (hp : p ↔ l1 = l2)
    (h1 : RV m (.agg (vs1.map C.v)) u) (h2 : RV m (.agg (vs2.map C.v)) v) : ∃ xs ys, u = .agg xs ∧ v = .agg ys ∧ ∀ w, ∃ r : Bool, (Op.equalIn 10000 t (.agg xs) (.agg ys)).run X.P w = .ok r w ∧ (r = true ↔ p) := by
  refine ⟨_, _, agg_vals h1, agg_vals h2, fun w => ?_⟩
  obtain ⟨r, hr, hiff⟩ := run_equalIn_deep d q t hk w D D _ _ l1 l2 hf1 hf2 (by simpa [Value.cells] using hl1) (by simpa [Value.cells] using hl2)
  rw [hq] at hr
  exact ⟨r, hr, hiff.trans hp.symm⟩
theorem rq_neqD {X : Cx} {t ty2 : TypeId} {x y : Operand} {ρ : Operand → V} {vs1 vs2 : List Value} {p : Prop} [Decidable p] (q d : Nat) (hq : d + q = 10000) (hk : X.P.keyTypeAt q t = true) {l1 l2 : List Lit} {D : Nat}
    (hf1 : (Value.agg vs1.toArray).formed X.P t = true) (hf2 : (Value.agg vs2.toArray).formed X.P t = true) (hl1 : X.P.keyLits D t vs1 = some l1) (hl2 : X.P.keyLits D t vs2 = some l2) (hp : p ↔ l1 = l2)
    (hg : X.P.eqGuardType X.P.depth t = false) (hx : ρ x = .agg (vs1.map C.v)) (hy : ρ y = .agg (vs2.map C.v)) : RawQ X (.binOp .neq t x y ty2) ρ (.c (.v (.bool (decide (¬ p))))) := by
  intro m H ε o ho hS hr
  have r1 := hr x (by simp [Op.operands])
  have r2 := hr y (by simp [Op.operands])
  rw [hx] at r1
  rw [hy] at r2
  obtain ⟨xs, ys, e1, e2, h⟩ := struct_eqD q d hq hk hf1 hf2 hl1 hl2 hp r1 r2
  obtain ⟨r, h3, h4⟩ := h m.w
  refine Good.here hS (u := .bool (decide (¬ p))) ?_ (.c (.v rfl))
  have h5 : decide (¬ p) = !r := by
    cases r
    · simp [← h4]
    · simp [← h4]
  simp [execOp, ho, e1, e2, run_eqGuard_agg m.w _ _ _ _ _ _ hg, run_neq_struct, h3, h5]
end Go.VL
namespace Go.VL
open Go.RowKit
section
variable {α β : Type} (kid : α → List β) (enc : β → List C) (k : Nat) (tt : TypeId) (rest : α → List C)
/-- An element, frozen. -/
def fzE (x : α) : List C := .sl true (kid x).length k (flat enc (kid x)) :: rest x
/-- The elements' cells, where their slices are the objects from N on. -/
def refs : Nat → List α → List C
  | _, [] => []
  | N, x :: r => (.mu N 0 (kid x).length k :: rest x) ++ refs (N + 1) r
/-- The elements' slices, as objects. -/
def kids (xs : List α) : List Ob := xs.map fun x => ⟨flat enc (kid x), tt, true⟩
end
section
variable {α β : Type} {kid : α → List β} {enc : β → List C} {k : Nat} {tt : TypeId} {rest : α → List C}
theorem kids_len {xs : List α} : (kids kid enc tt xs).length = xs.length := by simp [kids]
theorem kids_at {xs : List α} {i : Nat} (h : i < xs.length) : (kids kid enc tt xs)[i]? = some ⟨flat enc (kid xs[i]), tt, true⟩ := by simp [kids, h]
theorem kids_app {xs ys : List α} : kids kid enc tt (xs ++ ys) = kids kid enc tt xs ++ kids kid enc tt ys := by simp [kids]
theorem kids_set {xs : List α} {i : Nat} {x : α} (h : i < xs.length) : kids kid enc tt (xs.set i x) = (kids kid enc tt xs).set i ⟨flat enc (kid x), tt, true⟩ := by simp [kids, List.map_set]
theorem refs_app {xs ys : List α} : ∀ {N : Nat}, refs kid k rest N (xs ++ ys) = refs kid k rest N xs ++ refs kid k rest (N + xs.length) ys := by
  induction xs with
  | nil => intro N; simp [refs]
  | cons x r ih =>
    intro N
    simp only [List.cons_append, refs, ih, List.length_cons, List.append_assoc]
    rw [show N + (r.length + 1) = N + 1 + r.length by omega]
theorem refs_len {K : Nat} (hr : ∀ x, (rest x).length + 1 = K) : ∀ {xs : List α} {N : Nat}, (refs kid k rest N xs).length = xs.length * K
  | [], _ => by simp [refs]
  | x :: r, N => by
    simp only [refs, List.length_append, List.length_cons, refs_len hr, hr x]
    rw [Nat.add_mul, Nat.one_mul]
    omega
/-- What is written of the kids' lengths alone does not tell the kids themselves. -/
theorem refs_set {xs : List α} {x : α} : ∀ {i N : Nat} (h : i < xs.length), (kid x).length = (kid xs[i]).length → rest x = rest xs[i] → refs kid k rest N (xs.set i x) = refs kid k rest N xs := by
  induction xs with
  | nil => intro i N h; simp at h
  | cons y r ih =>
    intro i N h h1 h2
    cases i with
    | zero =>
      simp only [List.getElem_cons_zero] at h1 h2
      simp only [List.set_cons_zero, refs, h1, h2]
    | succ i =>
      simp only [List.getElem_cons_succ] at h1 h2
      simp only [List.set_cons_succ, refs]
      rw [ih (by simpa using h) h1 h2]
theorem dnl_app {o : Bool} {H : List Ob} {gone : Nat → Prop} {t t' : List C} : ∀ {cs : List C}, (∀ c ∈ cs, fz c = true) → DnL o H gone t t' → DnL o H gone (cs ++ t) (cs ++ t')
  | [], _, h => h
  | c :: cs, hc, h => .cons (.fz (hc c (by simp))) (dnl_app (fun x hx => hc x (by simp [hx])) h)
theorem dnl_refs {o : Bool} {H : List Ob} {gone : Nat → Prop} (hsc : ∀ a, (enc a).all sc = true) (he : ∀ a, (enc a).length = k) (hr : ∀ x, (rest x).all fz = true) :
    ∀ {xs : List α} {N : Nat}, (∀ i (h : i < xs.length), H[N + i]? = some ⟨flat enc (kid xs[i]), tt, true⟩ ∧ gone (N + i)) → DnL o H gone (refs kid k rest N xs) (flat (fzE kid enc k rest) xs)
  | [], _, _ => .nil
  | x :: r, N, h => by
    have h0 := h 0 (by simp)
    simp only [Nat.add_zero, List.getElem_cons_zero] at h0
    rw [flat_cons]
    refine .cons (dn_flat hsc he h0.1 h0.2 rfl) (dnl_app (fun c hc => List.all_eq_true.1 (hr x) c hc) (dnl_refs hsc he hr fun i hi => ?_))
    have h1 := h (i + 1) (by simpa using hi)
    rw [show N + (i + 1) = N + 1 + i by omega] at h1
    simpa using h1
theorem fzE_len {K : Nat} (hr : ∀ x, (rest x).length + 1 = K) (x : α) : (fzE kid enc k rest x).length = K := by simpa [fzE] using hr x
/-- Such a list, seen by a call. -/
theorem vw_nest {H : List Ob} {id N n K : Nat} {xs : List α} {t : TypeId} (hsc : ∀ a, (enc a).all sc = true) (he : ∀ a, (enc a).length = k) (hr : ∀ x, (rest x).all fz = true) (hK : ∀ x, (rest x).length + 1 = K) (ho : H[id]? = some ⟨refs kid k rest N xs, t, true⟩)
    (hk : ∀ i (h : i < xs.length), H[N + i]? = some ⟨flat enc (kid xs[i]), tt, true⟩) (hn : n = xs.length) : VwV H (.c (.mu id 0 n K)) (.c (.sl false n K (flat (fzE kid enc k rest) xs))) :=
  vw_dn (dn_mu ho trivial (by rw [refs_len hK, hn]) (dnl_refs hsc he hr fun i hi => ⟨hk i hi, trivial⟩)) rfl
/-- .. answered, and frozen so. -/
theorem a_nest {H : List Ob} {id N n K : Nat} {xs : List α} {t : TypeId} (hsc : ∀ a, (enc a).all sc = true) (he : ∀ a, (enc a).length = k) (hr : ∀ x, (rest x).all fz = true) (hK : ∀ x, (rest x).length + 1 = K) (ho : H[id]? = some ⟨refs kid k rest N xs, t, true⟩)
    (hk : ∀ i (h : i < xs.length), H[N + i]? = some ⟨flat enc (kid xs[i]), tt, true⟩) (hn : n = xs.length) : TrV H [] (.c (.mu id 0 n K)) (.c (.sl true n K (flat (fzE kid enc k rest) xs))) :=
  a_dn (dn_mu ho gone_nil (by rw [refs_len hK, hn]) (dnl_refs hsc he hr fun i hi => ⟨hk i hi, gone_nil⟩))
end
/-! Looking anew, with rows of objects -/
def ids (M n : Nat) : List (Option Nat) := (List.range n).map fun i => some (M + i)
theorem ids_len {M n : Nat} : (ids M n).length = n := by simp [ids]
theorem ids_at {M n i : Nat} (h : i < n) : (ids M n)[i]? = some (some (M + i)) := by simp [ids, h]
theorem turno_app {H : List Ob} {g : List (Option Nat)} : ∀ {g1 : List (Option Nat)} {o1 : List Ob} {g2 : List (Option Nat)} {o2 : List Ob}, TurnO H g g1 o1 → TurnO H g g2 o2 → TurnO H g (g1 ++ g2) (o1 ++ o2)
  | [], [], _, _, _, h2 => h2
  | none :: gs, o :: os, _, _, h1, h2 => ⟨h1.1, turno_app h1.2 h2⟩
  | some id :: gs, o :: os, _, _, h1, h2 => ⟨h1.1, turno_app h1.2 h2⟩
  | [], _ :: _, _, _, h1, _ => h1.elim
  | none :: _, [], _, _, h1, _ => h1.elim
  | some _ :: _, [], _, _, h1, _ => h1.elim
theorem turno_of {H : List Ob} {g : List (Option Nat)} : ∀ {gs : List (Option Nat)} {os : List Ob}, gs.length = os.length → (∀ (i : Nat) (o : Ob), os[i]? = some o → ∃ id, gs[i]? = some (some id) ∧ ∃ cs, H[id]? = some ⟨cs, o.t, true⟩ ∧ TrC H g cs o.cs) → TurnO H g gs os
  | [], [], _, _ => trivial
  | x :: gs, o :: os, hl, h => by
    obtain ⟨id, h1, h2⟩ := h 0 o rfl
    simp only [List.getElem?_cons_zero, Option.some.injEq] at h1
    subst h1
    exact ⟨h2, turno_of (by simpa using hl) fun i o' ho => by simpa using h (i + 1) o' (by simpa using ho)⟩
theorem turno_kids {α β : Type} {kid : α → List β} {enc : β → List C} {tt : TypeId} {H : List Ob} {g : List (Option Nat)} {xs : List α} {M : Nat} (hsc : ∀ a, (enc a).all sc = true) (h : ∀ i (hi : i < xs.length), H[M + i]? = some ⟨flat enc (kid xs[i]), tt, true⟩) : TurnO H g (ids M xs.length) (kids kid enc tt xs) := by
  refine turno_of (by rw [ids_len, kids_len]) fun i o ho => ?_
  have hi : i < xs.length := by
    have := (List.getElem?_eq_some_iff.1 ho).1
    rwa [kids_len] at this
  rw [kids_at hi] at ho
  have := Option.some.inj ho
  subst this
  exact ⟨M + i, ids_at hi, _, h i hi, trc_flat hsc rfl⟩
end Go.VL
namespace Go.VL
open Go.RowKit
def shO (N : Nat) (o : Ob) : Ob := ⟨o.cs.map (shC N), o.t, o.live⟩
abbrev seg (N : Nat) (S : List Ob) : List Ob := S.map (shO N)
/-- A cell that leads nowhere but into the row. -/
def clC (n : Nat) : C → Bool
  | .mu id _ _ _ => decide (id < n)
  | .pt id _ => decide (id < n)
  | .v _ => true
  | .f _ _ => true
  | .any => true
  | _ => false
def clV1 (n : Nat) : V → Bool
  | .c x => clC n x
  | .agg cs => cs.all (clC n)
  | .any => true
  | .tup _ => false
theorem seg_at {A S B : List Ob} {i : Nat} {o : Ob} (h : S[i]? = some o) : (A ++ (seg A.length S ++ B))[A.length + i]? = some (shO A.length o) := by
  have hi := (List.getElem?_eq_some_iff.1 h).1
  rw [List.getElem?_append_right (by omega), Nat.add_sub_cancel_left, List.getElem?_append_left (by simpa using hi), List.getElem?_map, h]
  rfl
theorem sub_map {f : C → C} {cs : List C} {a b : Nat} : sub (cs.map f) a b = (sub cs a b).map f := by
  unfold sub
  rw [← List.map_drop, ← List.map_take]
theorem Dn.seg {b : Bool} {A S B : List Ob} {gone gone' : Nat → Prop} (hg : ∀ i, gone i → gone' (A.length + i)) {c c' : C} (h : Dn b S gone c c') : Dn b (A ++ (seg A.length S ++ B)) gone' (shC A.length c) c' := by
  induction h with
  | v => exact .v
  | f => exact .f
  | any => exact .any
  | sl h => exact .sl h
  | vw h => exact .vw h
  | mu ho hlive hgo hfit hl hc ih =>
    refine .mu (seg_at ho) hlive (hg _ hgo) (by simpa [shO] using hfit) hl fun j c c' h1 h2 => ?_
    simp only [shO] at h1
    rw [sub_map, List.getElem?_map, Option.map_eq_some_iff] at h1
    obtain ⟨c0, h1, rfl⟩ := h1
    exact ih j c0 c' h1 h2
  | pt ho hlive hgo hl hc ih =>
    refine .pt (seg_at ho) hlive (hg _ hgo) (by simpa [shO] using hl) fun j c c' h1 h2 => ?_
    simp only [shO] at h1
    rw [List.getElem?_map, Option.map_eq_some_iff] at h1
    obtain ⟨c0, h1, rfl⟩ := h1
    exact ih j c0 c' h1 h2
theorem shC_cl {n : Nat} {c : C} (h : clC n c = true) (N : Nat) (ids : List Nat) (M : Nat) (hid : ∀ i, i < n → ids[i]? = some (N + i)) : rnC ids M c = shC N c := by
  cases c with
  | mu id off m k =>
    have := hid id (by simpa [clC] using h)
    simp only [rnC, shC, rnI, this]
  | pt id off =>
    have := hid id (by simpa [clC] using h)
    simp only [rnC, shC, rnI, this]
  | _ => rfl
theorem gC_cl {n : Nat} {c : C} (h : clC n c = true) : gC c = true := by cases c <;> first | rfl | cases h
/-- A call that writes into a row alone, in the midst of others. -/
theorem CallC.of_seg {X : Cx} {g : FuncId} {args0 : List V} {S S' A B : List Ob} {r : V} (hp : DetC X g args0 S r S') (hlen : S'.length = S.length) (hl : ∀ o ∈ S, o.live = true) (hc : ∀ o ∈ S, ∀ c ∈ o.cs, clC S.length c = true) (hc' : ∀ o ∈ S', ∀ c ∈ o.cs, clC S.length c = true)
    (ha : ∀ v ∈ args0, clV1 S.length v = true) (hr : clV1 S.length r = true) {Q : V → List Ob → Prop} (hQ : Q (shV1 A.length r) (A ++ (seg A.length S' ++ B))) : CallC X g (args0.map (shV1 A.length)) (A ++ (seg A.length S ++ B)) Q := by
  let ids : List Nat := (List.range S.length).map (A.length + ·)
  have hid : ∀ i, i < S.length → ids[i]? = some (A.length + i) := fun i hi => by simp [ids, hi]
  have hidl : ids.length = S.length := by simp [ids]
  have hnd : ids.Nodup := by
    show List.Pairwise _ _
    exact List.pairwise_map.2 (List.nodup_range.imp fun h e => h (by omega))
  have hinv : ∀ i j, ids[i]? = some j → i < S.length ∧ j = A.length + i := fun i j h => by
    have hi : i < S.length := by
      have := (List.getElem?_eq_some_iff.1 h).1
      omega
    rw [hid i hi] at h
    exact ⟨hi, (Option.some.inj h).symm⟩
  have hgv : ∀ c, clC S.length c = true → Gv (A ++ (seg A.length S ++ B)) ids (shC A.length c) c := fun c h => by
    cases c with
    | mu id off m k => exact .mu (hid id (by simpa [clC] using h))
    | pt id off => exact .pt (hid id (by simpa [clC] using h))
    | v x => exact .dn .v rfl
    | f k x => exact .dn .f rfl
    | any => exact .dn .any rfl
    | _ => cases h
  have hgl : ∀ cs : List C, (∀ c ∈ cs, clC S.length c = true) → GvL (A ++ (seg A.length S ++ B)) ids (cs.map (shC A.length)) cs := fun cs => by
    induction cs with
    | nil => exact fun _ => .nil
    | cons c cs ih => exact fun h => .cons (hgv c (h c (by simp))) (ih fun x hx => h x (by simp [hx]))
  refine CallC.of_graph (ids := ids) hp hidl hnd (fun i j o0 h1 h2 => ?_) ?_ (fun r1 H1 h => ?_) fun r1 H1 h => ?_
  · obtain ⟨hi, rfl⟩ := hinv i j h1
    exact ⟨shO A.length o0, seg_at h2, hl o0 (List.mem_of_getElem? h2), hl o0 (List.mem_of_getElem? h2), rfl, hgl o0.cs (hc o0 (List.mem_of_getElem? h2))⟩
  · have : ∀ vs : List V, (∀ v ∈ vs, clV1 S.length v = true) → GvVs (A ++ (seg A.length S ++ B)) ids (vs.map (shV1 A.length)) vs := fun vs => by
      induction vs with
      | nil => exact fun _ => .nil
      | cons v vs ih =>
        refine fun h => .cons ?_ (ih fun x hx => h x (by simp [hx]))
        have hv := h v (by simp)
        cases v with
        | c x => exact .c (hgv x hv)
        | agg cs => exact .agg (hgl cs fun c hcm => List.all_eq_true.1 hv c hcm)
        | any => exact .any
        | tup vs => cases hv
    exact this args0 ha
  · obtain ⟨rfl, rfl⟩ := h
    refine ⟨?_, fun o ho _ c hcm => gC_cl (hc' o ho c hcm), by omega⟩
    cases r1 with
    | c x => exact gC_cl hr
    | agg cs => exact List.all_eq_true.2 fun c hcm => gC_cl (List.all_eq_true.1 hr c hcm)
    | any => rfl
    | tup vs => cases hr
  · obtain ⟨rfl, rfl⟩ := h
    have hM : ∀ i, i < S.length → ids[i]? = some (A.length + i) := hid
    have er : rnV ids (A ++ (seg A.length S ++ B)).length r1 = shV1 A.length r1 := by
      cases r1 with
      | c x => exact congrArg V.c (shC_cl hr _ _ _ hM)
      | agg cs => exact congrArg V.agg (List.map_congr_left fun c hcm => shC_cl (List.all_eq_true.1 hr c hcm) _ _ _ hM)
      | any => rfl
      | tup vs => cases hr
    have eo : ∀ o ∈ H1, rnO ids (A ++ (seg A.length S ++ B)).length o = shO A.length o := fun o ho => by
      unfold rnO shO
      congr 1
      exact List.map_congr_left fun c hcm => shC_cl (hc' o ho c hcm) _ _ _ hM
    have eg : graft ids (A ++ (seg A.length S ++ B)) H1 = A ++ (seg A.length H1 ++ B) := by
      have hlg := graft_len ids (A ++ (seg A.length S ++ B)) H1
      refine List.ext_getElem? fun x => ?_
      by_cases hx : x < (graft ids (A ++ (seg A.length S ++ B)) H1).length
      · have hxl : x < A.length + (S.length + B.length) := by
          rw [hlg] at hx
          simp only [List.length_append, List.length_map] at hx
          omega
        rw [List.getElem?_eq_getElem hx]
        have hgs := graft_spec hnd (fun j hj => by
          obtain ⟨i, hi⟩ := List.getElem?_of_mem hj
          obtain ⟨h1, rfl⟩ := hinv i j hi
          simp only [List.length_append, List.length_map]
          omega) (by omega) (List.getElem?_eq_getElem hx)
        rcases hgs with ⟨a1, a2, a3⟩ | ⟨i, o1, a1, a2, a3⟩ | ⟨i, o1, a1, a2, a3⟩
        · rw [← a3]
          by_cases hA : x < A.length
          · rw [List.getElem?_append_left hA, List.getElem?_append_left hA]
          · have hS : ¬ x < A.length + S.length := fun hlt => a2 (List.mem_of_getElem? (by rw [hid (x - A.length) (by omega), show A.length + (x - A.length) = x by omega]))
            have e1 : ∀ T : List Ob, T.length = S.length → (A ++ (seg A.length T ++ B))[x]? = B[x - A.length - S.length]? := fun T hT => by
              have hsl : (seg A.length T).length = S.length := by rw [List.length_map, hT]
              rw [List.getElem?_append_right (by omega), List.getElem?_append_right (by omega), hsl]
            rw [e1 S rfl, e1 H1 hlen]
        · obtain ⟨h1, rfl⟩ := hinv i x a1
          rw [seg_at a2, a3, eo o1 (List.mem_of_getElem? a2)]
        · simp only [List.length_append, List.length_map] at a1
          omega
      · rw [List.getElem?_eq_none (by omega), List.getElem?_eq_none]
        simp only [List.length_append, List.length_map]
        rw [hlg] at hx
        simp only [List.length_append, List.length_map] at hx
        omega
    rw [er, eg]
    exact hQ
/-! Rows, one behind the other -/
def glueA : Nat → List (List Ob) → List Ob
  | _, [] => []
  | N, S :: r => seg N S ++ glueA (N + S.length) r
def glue (segs : List (List Ob)) : List Ob := glueA 0 segs
/-- Where a row begins. -/
def offs : List (List Ob) → Nat → Nat
  | _, 0 => 0
  | [], _ + 1 => 0
  | S :: r, i + 1 => S.length + offs r i
theorem glueA_len : ∀ {segs : List (List Ob)} {M : Nat}, (glueA M segs).length = offs segs segs.length
  | [], _ => rfl
  | S :: r, M => by
    simp only [glueA, List.length_append, List.length_map, List.length_cons, offs]
    rw [glueA_len]
theorem glueA_split : ∀ {segs : List (List Ob)} {i M : Nat} {S : List Ob}, segs[i]? = some S → ∃ A B, A.length = offs segs i ∧ glueA M segs = A ++ (seg (M + offs segs i) S ++ B) ∧ ∀ S', S'.length = S.length → glueA M (segs.set i S') = A ++ (seg (M + offs segs i) S' ++ B)
  | [], i, M, S, h => by simp at h
  | T :: r, 0, M, S, h => by
    simp at h
    subst h
    exact ⟨[], glueA (M + T.length) r, rfl, rfl, fun S' h' => by
      simp only [List.set_cons_zero, glueA, offs, Nat.add_zero, h', List.nil_append]⟩
  | T :: r, i + 1, M, S, h => by
    obtain ⟨A, B, h1, h2, h3⟩ := glueA_split (segs := r) (i := i) (M := M + T.length) (S := S) (by simpa using h)
    refine ⟨seg M T ++ A, B, by simp [offs, h1], ?_, fun S' h' => ?_⟩
    · simp only [glueA, h2, offs, List.append_assoc, Nat.add_assoc]
    · simp only [List.set_cons_succ, glueA, h3 S' h', offs, List.append_assoc, Nat.add_assoc]
theorem glueA_snoc : ∀ {segs : List (List Ob)} {M : Nat} {S : List Ob}, glueA M (segs ++ [S]) = glueA M segs ++ seg (M + offs segs segs.length) S
  | [], M, S => by simp [glueA, offs]
  | T :: r, M, S => by
    simp only [List.cons_append, glueA, glueA_snoc (segs := r), List.append_assoc, List.length_cons, offs, Nat.add_assoc]
/-- What is seen of a row. -/
theorem vg {segs : List (List Ob)} {N : Nat} {S : List Ob} {c c' : C} (i : Nat) (hi : segs[i]? = some S) (hN : offs segs i = N) (h : Dn false S (fun _ => True) c c') (ho : c'.own = false) : VwV (glue segs) (.c (shC N c)) (.c c') := by
  subst hN
  obtain ⟨A, B, h1, h2, -⟩ := glueA_split (M := 0) hi
  rw [Nat.zero_add, ← h1] at h2
  unfold glue
  rw [h2, ← h1]
  exact .c (.dn (h.seg fun _ _ => trivial) ho)
section
variable {X : Cx} {all r : List Oper} {K : Sl → List Ob → Prop} {sl : Sl} {d : Tmp} {ty : TypeId} {ps : String} {af : Array Edge}
/-- A call that answers a row. -/
theorem vg_live {f : Operand} {args : Array Operand} {tys : Array TypeId} {g : FuncId} {caps : List C} {args' : List V} {res res' : V} {S : List Ob} (segs : List (List Ob)) {segs' : List (List Ob)} {N : Nat} (hp : LiveC X g args' res S) (hN : offs segs segs.length = N) (ha : ansV res = true) (hc : ∀ o ∈ S, ∀ c ∈ o.cs, ansC c = true) (hres : shV N res = res') (hH : segs ++ [S] = segs')
    (hf : rho X.G sl f = .c (.fn g caps)) {av : List V} (has : args.toList.map (rho X.G sl) ++ caps.map .c = av) (hv : Views (glue segs) av args') (h : vops X all r K (upd sl d res') (glue segs')) : vops X all (⟨some d, .call ⟨.value f, args, tys⟩, ty, ps, af, none⟩ :: r) K sl (glue segs) := by
  subst hN hH
  refine v_live hp glueA_len ha hc hres ?_ hf has hv h
  rw [glue, glue, glueA_snoc, Nat.zero_add]
  rfl
/-- A call that writes into a row. -/
theorem vg_det {f : Operand} {args : Array Operand} {tys : Array TypeId} {g : FuncId} {args0 : List V} {res res' : V} {S S' : List Ob} (segs : List (List Ob)) {segs' : List (List Ob)} {N : Nat} (i : Nat) (hp : DetC X g args0 S res S') (hi : segs[i]? = some S) (hN : offs segs i = N) (hlen : S'.length = S.length) (hl : ∀ o ∈ S, o.live = true) (hc : ∀ o ∈ S, ∀ c ∈ o.cs, clC S.length c = true) (hc' : ∀ o ∈ S', ∀ c ∈ o.cs, clC S.length c = true)
    (ha : ∀ v ∈ args0, clV1 S.length v = true) (hr : clV1 S.length res = true) (hres : shV1 N res = res') (hH : segs.set i S' = segs') (hf : rho X.G sl f = .c (.fn g [])) (has : args.toList.map (rho X.G sl) = args0.map (shV1 N)) (h : vops X all r K (upd sl d res') (glue segs')) :
    vops X all (⟨some d, .call ⟨.value f, args, tys⟩, ty, ps, af, none⟩ :: r) K sl (glue segs) := by
  subst hN hH hres
  obtain ⟨A, B, h1, h2, h3⟩ := glueA_split (M := 0) hi
  have h4 := h3 S' hlen
  rw [Nat.zero_add, ← h1] at h2 h4
  rw [← h1] at has h
  simp only [vops, vguard, vop, callOf, hf, target, putV, List.map_nil, List.append_nil]
  rw [has]
  unfold glue at h ⊢
  rw [h2]
  refine CallC.of_seg hp hlen hl hc hc' ha hr ?_
  rw [← h4]
  exact h
end
end Go.VL
namespace Go.VL
open Go.RowKit
section
variable {A Bs : List Ob} {P : Nat} (hP : A.length = P)
include hP
theorem pre_at {j : Nat} {o : Ob} (h : Bs[j]? = some o) : (A ++ Bs)[P + j]? = some o := by
  subst hP
  rw [List.getElem?_append_right (by omega), Nat.add_sub_cancel_left, h]
theorem pre_set {j : Nat} {o : Ob} : (A ++ Bs).set (P + j) o = A ++ Bs.set j o := by
  subst hP
  rw [List.set_append_right _ _ (by omega), Nat.add_sub_cancel_left]
theorem pre_len {m : Nat} (h : Bs.length = m) : (A ++ Bs).length = P + m := by
  subst hP h
  rw [List.length_append]
section
variable {X : Cx} {all r : List Oper} {K : Sl → List Ob → Prop} {sl : Sl} {d : Tmp} {ty : TypeId} {ps : String} {af : Array Edge}
theorem p_box {t : TypeId} {x : Operand} {L : Lay} {cs : List C} {H' : List Ob} (hL : X.lay t = some L) (hx : (rho X.G sl x).cells = some cs) (hH : Bs ++ [⟨cs, t, true⟩] = H') {m : Nat} (hm : Bs.length = m) (h : vops X all r K (upd sl d (.c (.pt (P + m) 0))) (A ++ H')) :
    vops X all (⟨some d, .box t x, ty, ps, af, none⟩ :: r) K sl (A ++ Bs) :=
  v_box hL hx (by rw [List.append_assoc, hH]) (pre_len hP hm) h
theorem p_alloc {t : TypeId} {L : Lay} {H' : List Ob} (hL : X.lay t = some L) (hH : Bs ++ [⟨L.zero.map cOf, t, true⟩] = H') {m : Nat} (hm : Bs.length = m) (h : vops X all r K (upd sl d (.c (.pt (P + m) 0))) (A ++ H')) :
    vops X all (⟨some d, .alloc t, ty, ps, af, none⟩ :: r) K sl (A ++ Bs) :=
  v_alloc hL (by rw [List.append_assoc, hH]) (pre_len hP hm) h
theorem p_store {t : TypeId} {a x : Operand} {L : Lay} {id off : Nat} {cs ocs : List C} {tt : TypeId} {H' : List Ob} (hL : X.lay t = some L) (ha : rho X.G sl a = .c (.pt (P + id) off)) (hx : (rho X.G sl x).cells = some cs) (ho : Bs[id]? = some ⟨ocs, tt, true⟩)
    (hl : Nat.beq cs.length L.size = true) (hf : Nat.ble (off + L.size) ocs.length = true) (hH : Bs.set id ⟨setCells ocs off cs, tt, true⟩ = H') (h : vops X all r K sl (A ++ H')) :
    vops X all (⟨none, .store t a x, ty, ps, af, none⟩ :: r) K sl (A ++ Bs) :=
  v_store hL ha hx (pre_at hP ho) hl hf (by rw [pre_set hP, hH]) h
theorem p_load_pt {t : TypeId} {x : Operand} {L : Lay} {id off : Nat} {cs : List C} {tt : TypeId} (v : V) (hL : X.lay t = some L) (hx : rho X.G sl x = .c (.pt (P + id) off)) (ho : Bs[id]? = some ⟨cs, tt, true⟩) (hl : Nat.ble (off + L.size) cs.length = true) (hv : mkV L.kind.agg (sub cs off L.size) = some v)
    (h : vops X all r K (upd sl d v) (A ++ Bs)) : vops X all (⟨some d, .load t x, ty, ps, af, none⟩ :: r) K sl (A ++ Bs) :=
  v_load_pt v hL hx (pre_at hP ho) hl hv h
theorem p_ag_load_pt {t : TypeId} {x : Operand} {L : Lay} {id off : Nat} {cs : List C} {tt : TypeId} (v : V) (hL : X.lay t = some L) (hx : rho X.G sl x = .c (.pt (P + id) off)) (ho : Bs[id]? = some ⟨cs, tt, true⟩) (hl : Nat.ble (off + L.size) cs.length = true) (hv : mkV L.kind.agg (sub cs off L.size) = some v) : evq X.lay (A ++ Bs) (rho X.G sl) (.load t x) = some v :=
  ag_load_pt v hL hx (pre_at hP ho) hl hv
theorem p_load_ptb {t : TypeId} {x : Operand} {L : Lay} {id off : Nat} {cs : List C} {tt : TypeId} {q : Bool} (hL : X.lay t = some L) (hx : rho X.G sl x = .c (.pt (P + id) off)) (ho : Bs[id]? = some ⟨cs, tt, true⟩) (hl : Nat.ble (off + L.size) cs.length = true) (hv : mkV L.kind.agg (sub cs off L.size) = some (.c (.v (.bool q))))
    (h1 : q = true → vops X all r K (upd sl d (.c (.v (.bool true)))) (A ++ Bs)) (h2 : q = false → vops X all r K (upd sl d (.c (.v (.bool false)))) (A ++ Bs)) : vops X all (⟨some d, .load t x, ty, ps, af, none⟩ :: r) K sl (A ++ Bs) :=
  v_load_ptb hL hx (pre_at hP ho) hl hv h1 h2
theorem p_lit {t e : TypeId} {m : Nat} {parts : Array (Nat × Operand)} {a b : Nat} {z : List Value} {L : Lay} (cs : List C) {k q : Nat} {H' : List Ob} (hL : X.lay t = some ⟨.slice e, a, b, z⟩) (hLe : X.lay e = some L) (hk : L.size = k)
    (hc : fillC (fun i => some (i * L.size, L.size)) (zeros L m) (parts.toList.map fun p => (p.1, rho X.G sl p.2)) = some cs) (h0 : 0 < L.size ∧ m * L.size ≤ 2 ^ 24) (hq : Bs.length = q) (hH : Bs ++ [⟨cs, e, true⟩] = H') (h : vops X all r K (upd sl d (.c (.mu (P + q) 0 m k))) (A ++ H')) :
    vops X all (⟨some d, .buildSlice t m parts, ty, ps, af, none⟩ :: r) K sl (A ++ Bs) :=
  v_lit cs hL hLe hk hc h0 (pre_len hP hq) (by rw [List.append_assoc, hH]) h
theorem p_live1 {f : Operand} {args : Array Operand} {tys : Array TypeId} {g : FuncId} {caps : List C} {args' : List V} {res res' : V} {t : TypeId} {cs : List C} {H' : List Ob} {N : Nat} (hp : LiveC X g args' res [⟨cs, t, true⟩]) (hsc : ∀ c ∈ cs, sc c = true) (hN : Bs.length = N) (ha : ansV res = true) (hres : shV (P + N) res = res') (hH : Bs ++ [⟨cs, t, true⟩] = H')
    (hf : rho X.G sl f = .c (.fn g caps)) {av : List V} (has : args.toList.map (rho X.G sl) ++ caps.map .c = av) (hv : Views (A ++ Bs) av args') (h : vops X all r K (upd sl d res') (A ++ H')) : vops X all (⟨some d, .call ⟨.value f, args, tys⟩, ty, ps, af, none⟩ :: r) K sl (A ++ Bs) :=
  v_live1 hp hsc (pre_len hP hN) ha hres (by rw [List.append_assoc, hH]) hf has hv h
/-- append of some cells, that lie behind the row, onto a slice that is in the row. -/
theorem p_app {s x : Operand} {t e e' : TypeId} {a b : Nat} {z : List Value} {L : Lay} {id idx m n k q : Nat} {ocs cs : List C} {A' H' : List Ob} (hL : X.lay t = some ⟨.slice e, a, b, z⟩) (hLe : X.lay e = some L) (hs : rho X.G sl s = .c (.mu id 0 m k)) (ho : A[id]? = some ⟨ocs, e, true⟩) (hx : rho X.G sl x = .c (.mu (P + idx) 0 n k)) (hox : Bs[idx]? = some ⟨cs, e', true⟩) (hz : cs.length = n * k)
    (hk : L.size = k) (hk0 : 0 < k) (hm : ocs.length = m * k) (hn : m + n ≤ maxLen ∧ (m + n) * L.bytes ≤ 140737488355328) (hq : Bs.length = q) (hA : A.set id ⟨ocs, e, false⟩ = A') (hH : Bs ++ [⟨ocs ++ cs, e, true⟩] = H') (h : vops X all r K (upd sl d (.c (.mu (P + q) 0 (m + n) k))) (A' ++ H')) :
    vops X all (⟨some d, .call ⟨.builtin .append, #[s, x], #[t, t]⟩, ty, ps, af, none⟩ :: r) K sl (A ++ Bs) := by
  have hil := (List.getElem?_eq_some_iff.1 ho).1
  refine v_app_mu hL hLe hs (ho := by rw [List.getElem?_append_left hil]; exact ho) (cs := cs) ?_ hk hk0 hm hn (pre_len hP hq) ?_ h
  · have hsub : sub cs 0 (n * k) = cs := by unfold sub; rw [← hz]; simp
    simp only [srcOf, hx, pre_at hP hox]
    rw [if_pos ⟨trivial, by omega⟩, hsub]
  · rw [List.set_append_left _ _ hil, hA, List.append_assoc, hH]
end
end
/-! A list of things that have a live slice each, grown by one. -/
theorem trc_appL {H : List Ob} {g : List (Option Nat)} {cs cs' ds ds' : List C} (h : TrC H g cs cs') (h2 : TrC H g ds ds') : TrC H g (cs ++ ds) (cs' ++ ds') := by
  induction h with
  | nil => exact h2
  | cons h hs ih => exact .cons h ih
  | stay hst =>
    rename_i es
    induction es with
    | nil => exact h2
    | cons e es ih => exact .cons (.c (.stay (hst e (by simp)))) (ih fun c hc => hst c (by simp [hc]))
theorem trc_refsL {α β : Type} {kid : α → List β} {k : Nat} {rest : α → List C} {H : List Ob} {g : List (Option Nat)} (hr : ∀ x, (rest x).all fz = true) : ∀ {xs : List α} {N M : Nat}, (∀ i, i < xs.length → g[N + i]? = some (some (M + i))) → TrC H g (refs kid k rest M xs) (refs kid k rest N xs)
  | [], _, _, _ => .nil
  | x :: r, N, M, h => by
    refine trc_appL (.cons (tr_mu (by simpa using h 0 (by simp))) (.stay fun c hc => stays_fz (List.all_eq_true.1 (hr x) c hc))) (trc_refsL hr fun i hi => ?_)
    have h1 := h (i + 1) (by simpa using hi)
    rwa [show N + (i + 1) = N + 1 + i by omega, show M + (i + 1) = M + 1 + i by omega] at h1
section
variable {α β : Type} {kid : α → List β} {enc : β → List C} {k : Nat} {tt : TypeId} {rest : α → List C}
theorem turn_grow {H : List Ob} {xs : List α} {x : α} {i new knew : Nat} {t : TypeId} {cs : List C} (hsc : ∀ a, (enc a).all sc = true) (hr : ∀ x, (rest x).all fz = true) (hi : xs.length = i) (hnew : H[new]? = some ⟨cs, t, true⟩) (hcs : cs = refs kid k rest 1 xs ++ (.mu knew 0 (kid x).length k :: rest x)) (hk : ∀ q (h : q < xs.length), H[1 + q]? = some ⟨flat enc (kid xs[q]), tt, true⟩) (hkn : H[knew]? = some ⟨flat enc (kid x), tt, true⟩) :
    TurnO H (some new :: (ids 1 i ++ [some knew])) (some new :: (ids 1 i ++ [some knew])) (⟨refs kid k rest 1 (xs ++ [x]), t, true⟩ :: kids kid enc tt (xs ++ [x])) := by
  subst hi hcs
  have hat : ∀ q, q < xs.length → (some new :: (ids 1 xs.length ++ [some knew]))[1 + q]? = some (some (1 + q)) := fun q hq => by
    rw [Nat.add_comm 1 q, List.getElem?_cons_succ, List.getElem?_append_left (by rw [ids_len]; exact hq), ids_at hq, Nat.add_comm 1 q]
  have hlast : (some new :: (ids 1 xs.length ++ [some knew]))[1 + xs.length]? = some (some knew) := by
    rw [Nat.add_comm 1, List.getElem?_cons_succ, List.getElem?_append_right (by rw [ids_len]; exact Nat.le_refl _), ids_len, Nat.sub_self]
    rfl
  refine ⟨⟨_, hnew, ?_⟩, ?_⟩
  · rw [refs_app]
    refine trc_appL (trc_refsL hr hat) ?_
    simp only [refs, List.append_nil]
    exact .cons (tr_mu hlast) (.stay fun c hc => stays_fz (List.all_eq_true.1 (hr x) c hc))
  · rw [kids_app]
    exact turno_app (turno_kids hsc hk) ⟨⟨_, hkn, trc_flat hsc rfl⟩, trivial⟩
theorem nodup_grow {i new knew : Nat} (h1 : i < knew) (h2 : knew < new) : nodupO (some new :: (ids 1 i ++ [some knew])) = true := by
  have h3 : ∀ (M n : Nat), M + n ≤ knew → nodupO (ids M n ++ [some knew]) = true := fun M n => by
    induction n generalizing M with
    | zero => intro _; rfl
    | succ n ih =>
      intro hm
      have e : ids M (n + 1) = some M :: ids (M + 1) n := by
        unfold ids
        rw [List.range_succ_eq_map, List.map_cons, List.map_map]
        congr 1
        refine List.map_congr_left fun i _ => ?_
        simp only [Function.comp, Nat.succ_eq_add_one]
        congr 1
        omega
      rw [e, List.cons_append]
      simp only [nodupO, Bool.and_eq_true, Bool.not_eq_true', List.contains_eq_mem, decide_eq_false_iff_not]
      refine ⟨fun h => ?_, ih (M + 1) (by omega)⟩
      rcases List.mem_append.1 h with h | h
      · obtain ⟨i, -, hi⟩ := List.mem_map.1 h
        simp only [Option.some.injEq] at hi
        omega
      · simp only [List.mem_singleton, Option.some.injEq] at h
        omega
  simp only [nodupO, Bool.and_eq_true, Bool.not_eq_true', List.contains_eq_mem, decide_eq_false_iff_not]
  refine ⟨fun h => ?_, h3 1 i (by omega)⟩
  rcases List.mem_append.1 h with h | h
  · obtain ⟨q, hq, hi⟩ := List.mem_map.1 h
    have := List.mem_range.1 hq
    simp only [Option.some.injEq] at hi
    omega
  · simp only [List.mem_singleton, Option.some.injEq] at h
    omega
theorem lt_grow {i new knew m : Nat} (h0 : i + 1 ≤ m) (h1 : knew < m) (h2 : new < m) : ((some new :: (ids 1 i ++ [some knew])).all fun x => match x with | some i => Nat.blt i m | none => true) = true := by
  refine List.all_eq_true.2 fun x hx => ?_
  rcases List.mem_cons.1 hx with rfl | hx
  · exact Nat.ble_eq_true_of_le (by omega)
  · rcases List.mem_append.1 hx with hx | hx
    · obtain ⟨q, hq, rfl⟩ := List.mem_map.1 hx
      have := List.mem_range.1 hq
      exact Nat.ble_eq_true_of_le (by omega)
    · simp only [List.mem_singleton] at hx
      subst hx
      exact Nat.ble_eq_true_of_le (by omega)
end
end Go.VL
set_option maxRecDepth 20000
namespace Go.VL
open Go.RowKit
def layT : List (TypeId × Lay) := [
  (1, ⟨.other, 1, 8, [.nilFunc]⟩),
  (2, ⟨.int .i64, 1, 8, [.int .i64 0]⟩),
  (3, ⟨.int .i64, 1, 8, [.int .i64 0]⟩),
  (4, ⟨.bool, 1, 1, [.bool false]⟩),
  (5, ⟨.int .u8, 1, 1, [.int .u8 0]⟩),
  (6, ⟨.int .u8, 1, 1, [.int .u8 0]⟩),
  (7, ⟨.struct [(2, 0), (3, 1), (4, 2), (6, 3)], 4, 24, [.int .i64 0, .int .i64 0, .bool false, .int .u8 0]⟩),
  (8, ⟨.struct [(2, 0), (3, 1), (4, 2), (6, 3)], 4, 24, [.int .i64 0, .int .i64 0, .bool false, .int .u8 0]⟩),
  (9, ⟨.string, 1, 16, [.string ⟨#[]⟩]⟩),
  (10, ⟨.string, 1, 16, [.string ⟨#[]⟩]⟩),
  (11, ⟨.string, 1, 16, [.string ⟨#[]⟩]⟩),
  (12, ⟨.int .u64, 1, 8, [.int .u64 0]⟩),
  (13, ⟨.struct [(9, 0), (12, 1)], 2, 24, [.string ⟨#[]⟩, .int .u64 0]⟩),
  (14, ⟨.struct [(9, 0), (12, 1)], 2, 24, [.string ⟨#[]⟩, .int .u64 0]⟩),
  (15, ⟨.other, 1, 8, [.pointer none]⟩),
  (16, ⟨.other, 1, 8, [.pointer none]⟩),
  (17, ⟨.other, 1, 8, [.pointer none]⟩),
  (18, ⟨.struct [(17, 0)], 1, 8, [.pointer none]⟩),
  (19, ⟨.struct [(17, 0)], 1, 8, [.pointer none]⟩),
  (21, ⟨.int .i32, 1, 4, [.int .i32 0]⟩),
  (22, ⟨.slice 92, 1, 24, [.slice none 0 0]⟩),
  (23, ⟨.struct [(22, 0), (2, 1), (2, 2)], 3, 40, [.slice none 0 0, .int .i64 0, .int .i64 0]⟩),
  (24, ⟨.struct [(22, 0), (2, 1), (2, 2)], 3, 40, [.slice none 0 0, .int .i64 0, .int .i64 0]⟩),
  (25, ⟨.other, 1, 8, [.nilFunc]⟩),
  (26, ⟨.slice 82, 1, 24, [.slice none 0 0]⟩),
  (27, ⟨.struct [(26, 0), (2, 1), (2, 2)], 3, 40, [.slice none 0 0, .int .i64 0, .int .i64 0]⟩),
  (28, ⟨.struct [(26, 0), (2, 1), (2, 2)], 3, 40, [.slice none 0 0, .int .i64 0, .int .i64 0]⟩),
  (30, ⟨.other, 1, 8, [.nilFunc]⟩),
  (31, ⟨.other, 1, 8, [.nilFunc]⟩),
  (32, ⟨.other, 1, 8, [.nilFunc]⟩),
  (33, ⟨.other, 1, 8, [.nilFunc]⟩),
  (34, ⟨.other, 1, 8, [.nilFunc]⟩),
  (35, ⟨.slice 24, 1, 24, [.slice none 0 0]⟩),
  (36, ⟨.slice 2, 1, 24, [.slice none 0 0]⟩),
  (37, ⟨.other, 1, 8, [.nilFunc]⟩),
  (38, ⟨.slice 28, 1, 24, [.slice none 0 0]⟩),
  (40, ⟨.other, 1, 8, [.nilFunc]⟩),
  (41, ⟨.other, 1, 8, [.nilFunc]⟩),
  (42, ⟨.other, 1, 8, [.nilFunc]⟩),
  (43, ⟨.other, 1, 8, [.nilFunc]⟩),
  (44, ⟨.other, 1, 8, [.nilFunc]⟩),
  (45, ⟨.other, 1, 8, [.nilFunc]⟩),
  (46, ⟨.other, 1, 8, [.nilFunc]⟩),
  (47, ⟨.other, 1, 8, [.nilFunc]⟩),
  (48, ⟨.slice 5, 1, 24, [.slice none 0 0]⟩),
  (49, ⟨.other, 1, 8, [.nilFunc]⟩),
  (51, ⟨.other, 1, 8, [.nilFunc]⟩),
  (52, ⟨.other, 1, 8, [.nilFunc]⟩),
  (54, ⟨.other, 1, 8, [.nilFunc]⟩),
  (55, ⟨.other, 1, 8, [.nilFunc]⟩),
  (56, ⟨.other, 1, 8, [.nilFunc]⟩),
  (57, ⟨.other, 1, 8, [.nilFunc]⟩),
  (58, ⟨.other, 1, 8, [.nilFunc]⟩),
  (59, ⟨.other, 1, 8, [.pointer none]⟩),
  (60, ⟨.other, 1, 8, [.nilFunc]⟩),
  (61, ⟨.other, 1, 8, [.nilFunc]⟩),
  (62, ⟨.other, 1, 8, [.nilFunc]⟩),
  (63, ⟨.other, 1, 8, [.nilFunc]⟩),
  (64, ⟨.other, 1, 8, [.nilFunc]⟩),
  (65, ⟨.other, 1, 8, [.nilFunc]⟩),
  (66, ⟨.other, 1, 8, [.nilFunc]⟩),
  (67, ⟨.other, 1, 8, [.nilFunc]⟩),
  (68, ⟨.other, 1, 8, [.nilFunc]⟩),
  (69, ⟨.other, 1, 8, [.nilFunc]⟩),
  (70, ⟨.other, 1, 8, [.nilFunc]⟩),
  (71, ⟨.other, 1, 8, [.nilFunc]⟩),
  (72, ⟨.other, 1, 8, [.nilFunc]⟩),
  (73, ⟨.slice 4, 1, 24, [.slice none 0 0]⟩),
  (74, ⟨.other, 1, 8, [.nilFunc]⟩),
  (75, ⟨.other, 1, 8, [.pointer none]⟩),
  (76, ⟨.other, 1, 8, [.nilFunc]⟩),
  (77, ⟨.other, 1, 8, [.nilFunc]⟩),
  (78, ⟨.other, 1, 8, [.nilFunc]⟩),
  (79, ⟨.array 8 4, 8, 8, [.bool false, .bool false, .bool false, .bool false, .bool false, .bool false, .bool false, .bool false]⟩),
  (80, ⟨.array 8 4, 8, 8, [.bool false, .bool false, .bool false, .bool false, .bool false, .bool false, .bool false, .bool false]⟩),
  (81, ⟨.struct [(80, 0), (2, 8)], 9, 16, [.bool false, .bool false, .bool false, .bool false, .bool false, .bool false, .bool false, .bool false, .int .i64 0]⟩),
  (82, ⟨.struct [(80, 0), (2, 8)], 9, 16, [.bool false, .bool false, .bool false, .bool false, .bool false, .bool false, .bool false, .bool false, .int .i64 0]⟩),
  (83, ⟨.other, 1, 8, [.nilFunc]⟩),
  (84, ⟨.other, 1, 8, [.nilFunc]⟩),
  (85, ⟨.other, 1, 8, [.nilFunc]⟩),
  (86, ⟨.other, 1, 8, [.nilFunc]⟩),
  (88, ⟨.other, 1, 8, [.nilFunc]⟩),
  (89, ⟨.other, 1, 8, [.nilFunc]⟩),
  (90, ⟨.other, 1, 8, [.nilFunc]⟩),
  (91, ⟨.struct [(79, 0), (2, 8)], 9, 16, [.bool false, .bool false, .bool false, .bool false, .bool false, .bool false, .bool false, .bool false, .int .i64 0]⟩),
  (92, ⟨.struct [(79, 0), (2, 8)], 9, 16, [.bool false, .bool false, .bool false, .bool false, .bool false, .bool false, .bool false, .bool false, .int .i64 0]⟩),
  (93, ⟨.other, 1, 8, [.nilFunc]⟩),
  (94, ⟨.other, 1, 8, [.nilFunc]⟩),
  (95, ⟨.other, 1, 8, [.nilFunc]⟩),
  (96, ⟨.other, 1, 8, [.nilFunc]⟩),
  (97, ⟨.other, 1, 8, [.nilFunc]⟩),
  (99, ⟨.other, 1, 8, [.nilFunc]⟩),
  (100, ⟨.other, 1, 8, [.nilFunc]⟩),
  (101, ⟨.other, 1, 8, [.nilFunc]⟩),
  (102, ⟨.other, 1, 8, [.nilFunc]⟩),
  (103, ⟨.int .u64, 1, 8, [.int .u64 0]⟩),
  (104, ⟨.struct [(48, 0), (3, 1), (103, 2)], 3, 40, [.slice none 0 0, .int .i64 0, .int .u64 0]⟩),
  (105, ⟨.struct [(48, 0), (3, 1), (103, 2)], 3, 40, [.slice none 0 0, .int .i64 0, .int .u64 0]⟩),
  (106, ⟨.other, 1, 8, [.nilFunc]⟩),
  (107, ⟨.other, 1, 8, [.nilFunc]⟩),
  (108, ⟨.other, 1, 8, [.nilFunc]⟩),
  (109, ⟨.other, 1, 8, [.nilFunc]⟩),
  (110, ⟨.other, 1, 8, [.nilFunc]⟩),
  (111, ⟨.other, 1, 8, [.nilFunc]⟩),
  (112, ⟨.other, 1, 8, [.nilFunc]⟩),
  (113, ⟨.other, 1, 8, [.nilFunc]⟩),
  (114, ⟨.int .u64, 1, 8, [.int .u64 0]⟩),
  (115, ⟨.other, 1, 8, [.nilFunc]⟩),
  (116, ⟨.struct [(17, 0), (17, 1), (17, 2), (9, 3)], 4, 40, [.pointer none, .pointer none, .pointer none, .string ⟨#[]⟩]⟩),
  (117, ⟨.struct [(17, 0), (17, 1), (17, 2), (9, 3)], 4, 40, [.pointer none, .pointer none, .pointer none, .string ⟨#[]⟩]⟩),
  (118, ⟨.array 0 16, 0, 0, []⟩),
  (121, ⟨.other, 1, 8, [.nilFunc]⟩),
  (122, ⟨.int .u32, 1, 4, [.int .u32 0]⟩),
  (123, ⟨.int .u8, 1, 1, [.int .u8 0]⟩),
  (124, ⟨.int .u8, 1, 1, [.int .u8 0]⟩),
  (125, ⟨.other, 1, 8, [.nilFunc]⟩),
  (126, ⟨.other, 1, 8, [.pointer none]⟩),
  (127, ⟨.int .i32, 1, 4, [.int .i32 0]⟩),
  (128, ⟨.int .i32, 1, 4, [.int .i32 0]⟩),
  (129, ⟨.struct [(12, 0), (12, 1), (122, 2), (123, 3), (5, 4), (5, 5), (124, 6), (125, 7), (126, 8), (127, 9), (128, 10)], 11, 48, [.int .u64 0, .int .u64 0, .int .u32 0, .int .u8 0, .int .u8 0, .int .u8 0, .int .u8 0, .nilFunc, .pointer none, .int .i32 0, .int .i32 0]⟩),
  (130, ⟨.struct [(12, 0), (12, 1), (122, 2), (123, 3), (5, 4), (5, 5), (124, 6), (125, 7), (126, 8), (127, 9), (128, 10)], 11, 48, [.int .u64 0, .int .u64 0, .int .u32 0, .int .u8 0, .int .u8 0, .int .u8 0, .int .u8 0, .nilFunc, .pointer none, .int .i32 0, .int .i32 0]⟩)]
theorem layT_ok : ∀ p ∈ layT, layOf Go.Proofs.Try.prog p.1 = some p.2 := by
  unfold layT
  refine List.forall_mem_cons.2 ⟨by kernel_rfl, ?_⟩
  refine List.forall_mem_cons.2 ⟨by kernel_rfl, ?_⟩
  refine List.forall_mem_cons.2 ⟨by kernel_rfl, ?_⟩
  refine List.forall_mem_cons.2 ⟨by kernel_rfl, ?_⟩
  refine List.forall_mem_cons.2 ⟨by kernel_rfl, ?_⟩
  refine List.forall_mem_cons.2 ⟨by kernel_rfl, ?_⟩
  refine List.forall_mem_cons.2 ⟨by kernel_rfl, ?_⟩
  refine List.forall_mem_cons.2 ⟨by kernel_rfl, ?_⟩
  refine List.forall_mem_cons.2 ⟨by kernel_rfl, ?_⟩
  refine List.forall_mem_cons.2 ⟨by kernel_rfl, ?_⟩
  refine List.forall_mem_cons.2 ⟨by kernel_rfl, ?_⟩
  refine List.forall_mem_cons.2 ⟨by kernel_rfl, ?_⟩
  refine List.forall_mem_cons.2 ⟨by kernel_rfl, ?_⟩
  refine List.forall_mem_cons.2 ⟨by kernel_rfl, ?_⟩
  refine List.forall_mem_cons.2 ⟨by kernel_rfl, ?_⟩
  refine List.forall_mem_cons.2 ⟨by kernel_rfl, ?_⟩
  refine List.forall_mem_cons.2 ⟨by kernel_rfl, ?_⟩
  refine List.forall_mem_cons.2 ⟨by kernel_rfl, ?_⟩
  refine List.forall_mem_cons.2 ⟨by kernel_rfl, ?_⟩
  refine List.forall_mem_cons.2 ⟨by kernel_rfl, ?_⟩
  refine List.forall_mem_cons.2 ⟨by kernel_rfl, ?_⟩
  refine List.forall_mem_cons.2 ⟨by kernel_rfl, ?_⟩
  refine List.forall_mem_cons.2 ⟨by kernel_rfl, ?_⟩
  refine List.forall_mem_cons.2 ⟨by kernel_rfl, ?_⟩
  refine List.forall_mem_cons.2 ⟨by kernel_rfl, ?_⟩
  refine List.forall_mem_cons.2 ⟨by kernel_rfl, ?_⟩
  refine List.forall_mem_cons.2 ⟨by kernel_rfl, ?_⟩
  refine List.forall_mem_cons.2 ⟨by kernel_rfl, ?_⟩
  refine List.forall_mem_cons.2 ⟨by kernel_rfl, ?_⟩
  refine List.forall_mem_cons.2 ⟨by kernel_rfl, ?_⟩
  refine List.forall_mem_cons.2 ⟨by kernel_rfl, ?_⟩
  refine List.forall_mem_cons.2 ⟨by kernel_rfl, ?_⟩
  refine List.forall_mem_cons.2 ⟨by kernel_rfl, ?_⟩
  refine List.forall_mem_cons.2 ⟨by kernel_rfl, ?_⟩
  refine List.forall_mem_cons.2 ⟨by kernel_rfl, ?_⟩
  refine List.forall_mem_cons.2 ⟨by kernel_rfl, ?_⟩
  refine List.forall_mem_cons.2 ⟨by kernel_rfl, ?_⟩
  refine List.forall_mem_cons.2 ⟨by kernel_rfl, ?_⟩
  refine List.forall_mem_cons.2 ⟨by kernel_rfl, ?_⟩
  refine List.forall_mem_cons.2 ⟨by kernel_rfl, ?_⟩
  refine List.forall_mem_cons.2 ⟨by kernel_rfl, ?_⟩
  refine List.forall_mem_cons.2 ⟨by kernel_rfl, ?_⟩
  refine List.forall_mem_cons.2 ⟨by kernel_rfl, ?_⟩
  refine List.forall_mem_cons.2 ⟨by kernel_rfl, ?_⟩
  refine List.forall_mem_cons.2 ⟨by kernel_rfl, ?_⟩
  refine List.forall_mem_cons.2 ⟨by kernel_rfl, ?_⟩
  refine List.forall_mem_cons.2 ⟨by kernel_rfl, ?_⟩
  refine List.forall_mem_cons.2 ⟨by kernel_rfl, ?_⟩
  refine List.forall_mem_cons.2 ⟨by kernel_rfl, ?_⟩
  refine List.forall_mem_cons.2 ⟨by kernel_rfl, ?_⟩
  refine List.forall_mem_cons.2 ⟨by kernel_rfl, ?_⟩
  refine List.forall_mem_cons.2 ⟨by kernel_rfl, ?_⟩
  refine List.forall_mem_cons.2 ⟨by kernel_rfl, ?_⟩
  refine List.forall_mem_cons.2 ⟨by kernel_rfl, ?_⟩
  refine List.forall_mem_cons.2 ⟨by kernel_rfl, ?_⟩
  refine List.forall_mem_cons.2 ⟨by kernel_rfl, ?_⟩
  refine List.forall_mem_cons.2 ⟨by kernel_rfl, ?_⟩
  refine List.forall_mem_cons.2 ⟨by kernel_rfl, ?_⟩
  refine List.forall_mem_cons.2 ⟨by kernel_rfl, ?_⟩
  refine List.forall_mem_cons.2 ⟨by kernel_rfl, ?_⟩
  refine List.forall_mem_cons.2 ⟨by kernel_rfl, ?_⟩
  refine List.forall_mem_cons.2 ⟨by kernel_rfl, ?_⟩
  refine List.forall_mem_cons.2 ⟨by kernel_rfl, ?_⟩
  refine List.forall_mem_cons.2 ⟨by kernel_rfl, ?_⟩
  refine List.forall_mem_cons.2 ⟨by kernel_rfl, ?_⟩
  refine List.forall_mem_cons.2 ⟨by kernel_rfl, ?_⟩
  refine List.forall_mem_cons.2 ⟨by kernel_rfl, ?_⟩
  refine List.forall_mem_cons.2 ⟨by kernel_rfl, ?_⟩
  refine List.forall_mem_cons.2 ⟨by kernel_rfl, ?_⟩
  refine List.forall_mem_cons.2 ⟨by kernel_rfl, ?_⟩
  refine List.forall_mem_cons.2 ⟨by kernel_rfl, ?_⟩
  refine List.forall_mem_cons.2 ⟨by kernel_rfl, ?_⟩
  refine List.forall_mem_cons.2 ⟨by kernel_rfl, ?_⟩
  refine List.forall_mem_cons.2 ⟨by kernel_rfl, ?_⟩
  refine List.forall_mem_cons.2 ⟨by kernel_rfl, ?_⟩
  refine List.forall_mem_cons.2 ⟨by kernel_rfl, ?_⟩
  refine List.forall_mem_cons.2 ⟨by kernel_rfl, ?_⟩
  refine List.forall_mem_cons.2 ⟨by kernel_rfl, ?_⟩
  refine List.forall_mem_cons.2 ⟨by kernel_rfl, ?_⟩
  refine List.forall_mem_cons.2 ⟨by kernel_rfl, ?_⟩
  refine List.forall_mem_cons.2 ⟨by kernel_rfl, ?_⟩
  refine List.forall_mem_cons.2 ⟨by kernel_rfl, ?_⟩
  refine List.forall_mem_cons.2 ⟨by kernel_rfl, ?_⟩
  refine List.forall_mem_cons.2 ⟨by kernel_rfl, ?_⟩
  refine List.forall_mem_cons.2 ⟨by kernel_rfl, ?_⟩
  refine List.forall_mem_cons.2 ⟨by kernel_rfl, ?_⟩
  refine List.forall_mem_cons.2 ⟨by kernel_rfl, ?_⟩
  refine List.forall_mem_cons.2 ⟨by kernel_rfl, ?_⟩
  refine List.forall_mem_cons.2 ⟨by kernel_rfl, ?_⟩
  refine List.forall_mem_cons.2 ⟨by kernel_rfl, ?_⟩
  refine List.forall_mem_cons.2 ⟨by kernel_rfl, ?_⟩
  refine List.forall_mem_cons.2 ⟨by kernel_rfl, ?_⟩
  refine List.forall_mem_cons.2 ⟨by kernel_rfl, ?_⟩
  refine List.forall_mem_cons.2 ⟨by kernel_rfl, ?_⟩
  refine List.forall_mem_cons.2 ⟨by kernel_rfl, ?_⟩
  refine List.forall_mem_cons.2 ⟨by kernel_rfl, ?_⟩
  refine List.forall_mem_cons.2 ⟨by kernel_rfl, ?_⟩
  refine List.forall_mem_cons.2 ⟨by kernel_rfl, ?_⟩
  refine List.forall_mem_cons.2 ⟨by kernel_rfl, ?_⟩
  refine List.forall_mem_cons.2 ⟨by kernel_rfl, ?_⟩
  refine List.forall_mem_cons.2 ⟨by kernel_rfl, ?_⟩
  refine List.forall_mem_cons.2 ⟨by kernel_rfl, ?_⟩
  refine List.forall_mem_cons.2 ⟨by kernel_rfl, ?_⟩
  refine List.forall_mem_cons.2 ⟨by kernel_rfl, ?_⟩
  refine List.forall_mem_cons.2 ⟨by kernel_rfl, ?_⟩
  refine List.forall_mem_cons.2 ⟨by kernel_rfl, ?_⟩
  refine List.forall_mem_cons.2 ⟨by kernel_rfl, ?_⟩
  refine List.forall_mem_cons.2 ⟨by kernel_rfl, ?_⟩
  refine List.forall_mem_cons.2 ⟨by kernel_rfl, ?_⟩
  refine List.forall_mem_cons.2 ⟨by kernel_rfl, ?_⟩
  refine List.forall_mem_cons.2 ⟨by kernel_rfl, ?_⟩
  refine List.forall_mem_cons.2 ⟨by kernel_rfl, ?_⟩
  refine List.forall_mem_cons.2 ⟨by kernel_rfl, ?_⟩
  refine List.forall_mem_cons.2 ⟨by kernel_rfl, ?_⟩
  refine List.forall_mem_cons.2 ⟨by kernel_rfl, ?_⟩
  refine List.forall_mem_cons.2 ⟨by kernel_rfl, ?_⟩
  refine List.forall_mem_cons.2 ⟨by kernel_rfl, ?_⟩
  refine List.forall_mem_cons.2 ⟨by kernel_rfl, ?_⟩
  refine List.forall_mem_cons.2 ⟨by kernel_rfl, ?_⟩
  refine List.forall_mem_cons.2 ⟨by kernel_rfl, ?_⟩
  refine List.forall_mem_cons.2 ⟨by kernel_rfl, ?_⟩
  exact fun p hp => absurd hp List.not_mem_nil
theorem mem_of_lookup {t : TypeId} {L : Lay} : ∀ {l : List (TypeId × Lay)}, l.lookup t = some L → (t, L) ∈ l
  | [], h => by simp at h
  | (a, b) :: l, h => by
    simp only [List.lookup] at h
    split at h
    · rename_i he
      simp only [beq_iff_eq, Option.some.injEq] at he h
      subst he h
      exact List.mem_cons_self
    · exact List.mem_cons_of_mem _ (mem_of_lookup h)
noncomputable def X : Cx := ⟨Go.Proofs.Try.prog, fun t => layT.lookup t, fun t L h => layOf_ok (layT_ok (t, L) (mem_of_lookup h)), [], by kernel_rfl⟩
theorem lay1 : X.lay 1 = some ⟨.other, 1, 8, [.nilFunc]⟩ := by kernel_rfl
theorem lay2 : X.lay 2 = some ⟨.int .i64, 1, 8, [.int .i64 0]⟩ := by kernel_rfl
theorem lay3 : X.lay 3 = some ⟨.int .i64, 1, 8, [.int .i64 0]⟩ := by kernel_rfl
theorem lay4 : X.lay 4 = some ⟨.bool, 1, 1, [.bool false]⟩ := by kernel_rfl
theorem lay5 : X.lay 5 = some ⟨.int .u8, 1, 1, [.int .u8 0]⟩ := by kernel_rfl
theorem lay6 : X.lay 6 = some ⟨.int .u8, 1, 1, [.int .u8 0]⟩ := by kernel_rfl
theorem lay7 : X.lay 7 = some ⟨.struct [(2, 0), (3, 1), (4, 2), (6, 3)], 4, 24, [.int .i64 0, .int .i64 0, .bool false, .int .u8 0]⟩ := by kernel_rfl
theorem lay8 : X.lay 8 = some ⟨.struct [(2, 0), (3, 1), (4, 2), (6, 3)], 4, 24, [.int .i64 0, .int .i64 0, .bool false, .int .u8 0]⟩ := by kernel_rfl
theorem lay9 : X.lay 9 = some ⟨.string, 1, 16, [.string ⟨#[]⟩]⟩ := by kernel_rfl
theorem lay10 : X.lay 10 = some ⟨.string, 1, 16, [.string ⟨#[]⟩]⟩ := by kernel_rfl
theorem lay11 : X.lay 11 = some ⟨.string, 1, 16, [.string ⟨#[]⟩]⟩ := by kernel_rfl
theorem lay12 : X.lay 12 = some ⟨.int .u64, 1, 8, [.int .u64 0]⟩ := by kernel_rfl
theorem lay13 : X.lay 13 = some ⟨.struct [(9, 0), (12, 1)], 2, 24, [.string ⟨#[]⟩, .int .u64 0]⟩ := by kernel_rfl
theorem lay14 : X.lay 14 = some ⟨.struct [(9, 0), (12, 1)], 2, 24, [.string ⟨#[]⟩, .int .u64 0]⟩ := by kernel_rfl
theorem lay15 : X.lay 15 = some ⟨.other, 1, 8, [.pointer none]⟩ := by kernel_rfl
theorem lay16 : X.lay 16 = some ⟨.other, 1, 8, [.pointer none]⟩ := by kernel_rfl
theorem lay17 : X.lay 17 = some ⟨.other, 1, 8, [.pointer none]⟩ := by kernel_rfl
theorem lay18 : X.lay 18 = some ⟨.struct [(17, 0)], 1, 8, [.pointer none]⟩ := by kernel_rfl
theorem lay19 : X.lay 19 = some ⟨.struct [(17, 0)], 1, 8, [.pointer none]⟩ := by kernel_rfl
theorem lay21 : X.lay 21 = some ⟨.int .i32, 1, 4, [.int .i32 0]⟩ := by kernel_rfl
theorem lay22 : X.lay 22 = some ⟨.slice 92, 1, 24, [.slice none 0 0]⟩ := by kernel_rfl
theorem lay23 : X.lay 23 = some ⟨.struct [(22, 0), (2, 1), (2, 2)], 3, 40, [.slice none 0 0, .int .i64 0, .int .i64 0]⟩ := by kernel_rfl
theorem lay24 : X.lay 24 = some ⟨.struct [(22, 0), (2, 1), (2, 2)], 3, 40, [.slice none 0 0, .int .i64 0, .int .i64 0]⟩ := by kernel_rfl
theorem lay25 : X.lay 25 = some ⟨.other, 1, 8, [.nilFunc]⟩ := by kernel_rfl
theorem lay26 : X.lay 26 = some ⟨.slice 82, 1, 24, [.slice none 0 0]⟩ := by kernel_rfl
theorem lay27 : X.lay 27 = some ⟨.struct [(26, 0), (2, 1), (2, 2)], 3, 40, [.slice none 0 0, .int .i64 0, .int .i64 0]⟩ := by kernel_rfl
theorem lay28 : X.lay 28 = some ⟨.struct [(26, 0), (2, 1), (2, 2)], 3, 40, [.slice none 0 0, .int .i64 0, .int .i64 0]⟩ := by kernel_rfl
theorem lay30 : X.lay 30 = some ⟨.other, 1, 8, [.nilFunc]⟩ := by kernel_rfl
theorem lay31 : X.lay 31 = some ⟨.other, 1, 8, [.nilFunc]⟩ := by kernel_rfl
theorem lay32 : X.lay 32 = some ⟨.other, 1, 8, [.nilFunc]⟩ := by kernel_rfl
theorem lay33 : X.lay 33 = some ⟨.other, 1, 8, [.nilFunc]⟩ := by kernel_rfl
theorem lay34 : X.lay 34 = some ⟨.other, 1, 8, [.nilFunc]⟩ := by kernel_rfl
theorem lay35 : X.lay 35 = some ⟨.slice 24, 1, 24, [.slice none 0 0]⟩ := by kernel_rfl
theorem lay36 : X.lay 36 = some ⟨.slice 2, 1, 24, [.slice none 0 0]⟩ := by kernel_rfl
theorem lay37 : X.lay 37 = some ⟨.other, 1, 8, [.nilFunc]⟩ := by kernel_rfl
theorem lay38 : X.lay 38 = some ⟨.slice 28, 1, 24, [.slice none 0 0]⟩ := by kernel_rfl
theorem lay40 : X.lay 40 = some ⟨.other, 1, 8, [.nilFunc]⟩ := by kernel_rfl
theorem lay41 : X.lay 41 = some ⟨.other, 1, 8, [.nilFunc]⟩ := by kernel_rfl
theorem lay42 : X.lay 42 = some ⟨.other, 1, 8, [.nilFunc]⟩ := by kernel_rfl
theorem lay43 : X.lay 43 = some ⟨.other, 1, 8, [.nilFunc]⟩ := by kernel_rfl
theorem lay44 : X.lay 44 = some ⟨.other, 1, 8, [.nilFunc]⟩ := by kernel_rfl
theorem lay45 : X.lay 45 = some ⟨.other, 1, 8, [.nilFunc]⟩ := by kernel_rfl
theorem lay46 : X.lay 46 = some ⟨.other, 1, 8, [.nilFunc]⟩ := by kernel_rfl
theorem lay47 : X.lay 47 = some ⟨.other, 1, 8, [.nilFunc]⟩ := by kernel_rfl
theorem lay48 : X.lay 48 = some ⟨.slice 5, 1, 24, [.slice none 0 0]⟩ := by kernel_rfl
theorem lay49 : X.lay 49 = some ⟨.other, 1, 8, [.nilFunc]⟩ := by kernel_rfl
theorem lay51 : X.lay 51 = some ⟨.other, 1, 8, [.nilFunc]⟩ := by kernel_rfl
theorem lay52 : X.lay 52 = some ⟨.other, 1, 8, [.nilFunc]⟩ := by kernel_rfl
theorem lay54 : X.lay 54 = some ⟨.other, 1, 8, [.nilFunc]⟩ := by kernel_rfl
theorem lay55 : X.lay 55 = some ⟨.other, 1, 8, [.nilFunc]⟩ := by kernel_rfl
theorem lay56 : X.lay 56 = some ⟨.other, 1, 8, [.nilFunc]⟩ := by kernel_rfl
theorem lay57 : X.lay 57 = some ⟨.other, 1, 8, [.nilFunc]⟩ := by kernel_rfl
theorem lay58 : X.lay 58 = some ⟨.other, 1, 8, [.nilFunc]⟩ := by kernel_rfl
theorem lay59 : X.lay 59 = some ⟨.other, 1, 8, [.pointer none]⟩ := by kernel_rfl
theorem lay60 : X.lay 60 = some ⟨.other, 1, 8, [.nilFunc]⟩ := by kernel_rfl
theorem lay61 : X.lay 61 = some ⟨.other, 1, 8, [.nilFunc]⟩ := by kernel_rfl
theorem lay62 : X.lay 62 = some ⟨.other, 1, 8, [.nilFunc]⟩ := by kernel_rfl
theorem lay63 : X.lay 63 = some ⟨.other, 1, 8, [.nilFunc]⟩ := by kernel_rfl
theorem lay64 : X.lay 64 = some ⟨.other, 1, 8, [.nilFunc]⟩ := by kernel_rfl
theorem lay65 : X.lay 65 = some ⟨.other, 1, 8, [.nilFunc]⟩ := by kernel_rfl
theorem lay66 : X.lay 66 = some ⟨.other, 1, 8, [.nilFunc]⟩ := by kernel_rfl
theorem lay67 : X.lay 67 = some ⟨.other, 1, 8, [.nilFunc]⟩ := by kernel_rfl
theorem lay68 : X.lay 68 = some ⟨.other, 1, 8, [.nilFunc]⟩ := by kernel_rfl
theorem lay69 : X.lay 69 = some ⟨.other, 1, 8, [.nilFunc]⟩ := by kernel_rfl
theorem lay70 : X.lay 70 = some ⟨.other, 1, 8, [.nilFunc]⟩ := by kernel_rfl
theorem lay71 : X.lay 71 = some ⟨.other, 1, 8, [.nilFunc]⟩ := by kernel_rfl
theorem lay72 : X.lay 72 = some ⟨.other, 1, 8, [.nilFunc]⟩ := by kernel_rfl
theorem lay73 : X.lay 73 = some ⟨.slice 4, 1, 24, [.slice none 0 0]⟩ := by kernel_rfl
theorem lay74 : X.lay 74 = some ⟨.other, 1, 8, [.nilFunc]⟩ := by kernel_rfl
theorem lay75 : X.lay 75 = some ⟨.other, 1, 8, [.pointer none]⟩ := by kernel_rfl
theorem lay76 : X.lay 76 = some ⟨.other, 1, 8, [.nilFunc]⟩ := by kernel_rfl
theorem lay77 : X.lay 77 = some ⟨.other, 1, 8, [.nilFunc]⟩ := by kernel_rfl
theorem lay78 : X.lay 78 = some ⟨.other, 1, 8, [.nilFunc]⟩ := by kernel_rfl
theorem lay79 : X.lay 79 = some ⟨.array 8 4, 8, 8, [.bool false, .bool false, .bool false, .bool false, .bool false, .bool false, .bool false, .bool false]⟩ := by kernel_rfl
theorem lay80 : X.lay 80 = some ⟨.array 8 4, 8, 8, [.bool false, .bool false, .bool false, .bool false, .bool false, .bool false, .bool false, .bool false]⟩ := by kernel_rfl
theorem lay81 : X.lay 81 = some ⟨.struct [(80, 0), (2, 8)], 9, 16, [.bool false, .bool false, .bool false, .bool false, .bool false, .bool false, .bool false, .bool false, .int .i64 0]⟩ := by kernel_rfl
theorem lay82 : X.lay 82 = some ⟨.struct [(80, 0), (2, 8)], 9, 16, [.bool false, .bool false, .bool false, .bool false, .bool false, .bool false, .bool false, .bool false, .int .i64 0]⟩ := by kernel_rfl
theorem lay83 : X.lay 83 = some ⟨.other, 1, 8, [.nilFunc]⟩ := by kernel_rfl
theorem lay84 : X.lay 84 = some ⟨.other, 1, 8, [.nilFunc]⟩ := by kernel_rfl
theorem lay85 : X.lay 85 = some ⟨.other, 1, 8, [.nilFunc]⟩ := by kernel_rfl
theorem lay86 : X.lay 86 = some ⟨.other, 1, 8, [.nilFunc]⟩ := by kernel_rfl
theorem lay88 : X.lay 88 = some ⟨.other, 1, 8, [.nilFunc]⟩ := by kernel_rfl
theorem lay89 : X.lay 89 = some ⟨.other, 1, 8, [.nilFunc]⟩ := by kernel_rfl
theorem lay90 : X.lay 90 = some ⟨.other, 1, 8, [.nilFunc]⟩ := by kernel_rfl
theorem lay91 : X.lay 91 = some ⟨.struct [(79, 0), (2, 8)], 9, 16, [.bool false, .bool false, .bool false, .bool false, .bool false, .bool false, .bool false, .bool false, .int .i64 0]⟩ := by kernel_rfl
theorem lay92 : X.lay 92 = some ⟨.struct [(79, 0), (2, 8)], 9, 16, [.bool false, .bool false, .bool false, .bool false, .bool false, .bool false, .bool false, .bool false, .int .i64 0]⟩ := by kernel_rfl
theorem lay93 : X.lay 93 = some ⟨.other, 1, 8, [.nilFunc]⟩ := by kernel_rfl
theorem lay94 : X.lay 94 = some ⟨.other, 1, 8, [.nilFunc]⟩ := by kernel_rfl
theorem lay95 : X.lay 95 = some ⟨.other, 1, 8, [.nilFunc]⟩ := by kernel_rfl
theorem lay96 : X.lay 96 = some ⟨.other, 1, 8, [.nilFunc]⟩ := by kernel_rfl
theorem lay97 : X.lay 97 = some ⟨.other, 1, 8, [.nilFunc]⟩ := by kernel_rfl
theorem lay99 : X.lay 99 = some ⟨.other, 1, 8, [.nilFunc]⟩ := by kernel_rfl
theorem lay100 : X.lay 100 = some ⟨.other, 1, 8, [.nilFunc]⟩ := by kernel_rfl
theorem lay101 : X.lay 101 = some ⟨.other, 1, 8, [.nilFunc]⟩ := by kernel_rfl
theorem lay102 : X.lay 102 = some ⟨.other, 1, 8, [.nilFunc]⟩ := by kernel_rfl
theorem lay103 : X.lay 103 = some ⟨.int .u64, 1, 8, [.int .u64 0]⟩ := by kernel_rfl
theorem lay104 : X.lay 104 = some ⟨.struct [(48, 0), (3, 1), (103, 2)], 3, 40, [.slice none 0 0, .int .i64 0, .int .u64 0]⟩ := by kernel_rfl
theorem lay105 : X.lay 105 = some ⟨.struct [(48, 0), (3, 1), (103, 2)], 3, 40, [.slice none 0 0, .int .i64 0, .int .u64 0]⟩ := by kernel_rfl
theorem lay106 : X.lay 106 = some ⟨.other, 1, 8, [.nilFunc]⟩ := by kernel_rfl
theorem lay107 : X.lay 107 = some ⟨.other, 1, 8, [.nilFunc]⟩ := by kernel_rfl
theorem lay108 : X.lay 108 = some ⟨.other, 1, 8, [.nilFunc]⟩ := by kernel_rfl
theorem lay109 : X.lay 109 = some ⟨.other, 1, 8, [.nilFunc]⟩ := by kernel_rfl
theorem lay110 : X.lay 110 = some ⟨.other, 1, 8, [.nilFunc]⟩ := by kernel_rfl
theorem lay111 : X.lay 111 = some ⟨.other, 1, 8, [.nilFunc]⟩ := by kernel_rfl
theorem lay112 : X.lay 112 = some ⟨.other, 1, 8, [.nilFunc]⟩ := by kernel_rfl
theorem lay113 : X.lay 113 = some ⟨.other, 1, 8, [.nilFunc]⟩ := by kernel_rfl
theorem lay114 : X.lay 114 = some ⟨.int .u64, 1, 8, [.int .u64 0]⟩ := by kernel_rfl
theorem lay115 : X.lay 115 = some ⟨.other, 1, 8, [.nilFunc]⟩ := by kernel_rfl
theorem lay116 : X.lay 116 = some ⟨.struct [(17, 0), (17, 1), (17, 2), (9, 3)], 4, 40, [.pointer none, .pointer none, .pointer none, .string ⟨#[]⟩]⟩ := by kernel_rfl
theorem lay117 : X.lay 117 = some ⟨.struct [(17, 0), (17, 1), (17, 2), (9, 3)], 4, 40, [.pointer none, .pointer none, .pointer none, .string ⟨#[]⟩]⟩ := by kernel_rfl
theorem lay118 : X.lay 118 = some ⟨.array 0 16, 0, 0, []⟩ := by kernel_rfl
theorem lay121 : X.lay 121 = some ⟨.other, 1, 8, [.nilFunc]⟩ := by kernel_rfl
theorem lay122 : X.lay 122 = some ⟨.int .u32, 1, 4, [.int .u32 0]⟩ := by kernel_rfl
theorem lay123 : X.lay 123 = some ⟨.int .u8, 1, 1, [.int .u8 0]⟩ := by kernel_rfl
theorem lay124 : X.lay 124 = some ⟨.int .u8, 1, 1, [.int .u8 0]⟩ := by kernel_rfl
theorem lay125 : X.lay 125 = some ⟨.other, 1, 8, [.nilFunc]⟩ := by kernel_rfl
theorem lay126 : X.lay 126 = some ⟨.other, 1, 8, [.pointer none]⟩ := by kernel_rfl
theorem lay127 : X.lay 127 = some ⟨.int .i32, 1, 4, [.int .i32 0]⟩ := by kernel_rfl
theorem lay128 : X.lay 128 = some ⟨.int .i32, 1, 4, [.int .i32 0]⟩ := by kernel_rfl
theorem lay129 : X.lay 129 = some ⟨.struct [(12, 0), (12, 1), (122, 2), (123, 3), (5, 4), (5, 5), (124, 6), (125, 7), (126, 8), (127, 9), (128, 10)], 11, 48, [.int .u64 0, .int .u64 0, .int .u32 0, .int .u8 0, .int .u8 0, .int .u8 0, .int .u8 0, .nilFunc, .pointer none, .int .i32 0, .int .i32 0]⟩ := by kernel_rfl
theorem lay130 : X.lay 130 = some ⟨.struct [(12, 0), (12, 1), (122, 2), (123, 3), (5, 4), (5, 5), (124, 6), (125, 7), (126, 8), (127, 9), (128, 10)], 11, 48, [.int .u64 0, .int .u64 0, .int .u32 0, .int .u8 0, .int .u8 0, .int .u8 0, .int .u8 0, .nilFunc, .pointer none, .int .i32 0, .int .i32 0]⟩ := by kernel_rfl
end Go.VL
namespace Go.VL
open Go.RowKit
set_option maxRecDepth 20000
set_option maxHeartbeats 8000000
abbrev Slo := Ph × Int
def stc (s : Slo) : List C := [.v (.bool (s.1 0)), .v (.bool (s.1 1)), .v (.bool (s.1 2)), .v (.bool (s.1 3)), .v (.bool (s.1 4)), .v (.bool (s.1 5)), .v (.bool (s.1 6)), .v (.bool (s.1 7)), .v (.int .i64 s.2)]
theorem stc_len (s : Slo) : (stc s).length = 9 := rfl
theorem stc_sc (s : Slo) : (stc s).all sc = true := rfl
abbrev sts (o : Bool) (xs : List Slo) : C := .sl o xs.length 9 (flat stc xs)
abbrev pln (o : Bool) (xs : List Slo) (b f : Int) : List C := [sts o xs, .v (.int .i64 b), .v (.int .i64 f)]
def ticksOk (xs : List Slo) : Prop := ∀ s ∈ xs, 1 ≤ s.2 ∧ s.2 ≤ 240
def cyc : List Slo → Int → Int
  | [], _ => 0
  | s :: r, b => (s.2 + b) + cyc r b
theorem cyc_app (b : Int) : ∀ xs ys : List Slo, cyc (xs ++ ys) b = cyc xs b + cyc ys b
  | [], ys => by simp [cyc]
  | s :: r, ys => by simp only [List.cons_append, cyc, cyc_app b r ys]; omega
theorem cyc_step {xs : List Slo} {b : Int} {i : Nat} (h : i < xs.length) : cyc (xs.take i) b + (xs[i].2 + b) = cyc (xs.take (i + 1)) b := by
  rw [List.take_succ_eq_append_getElem h, cyc_app]
  simp [cyc]
theorem cyc_rng {b : Int} (hb : 0 ≤ b ∧ b ≤ 240) : ∀ {xs : List Slo}, ticksOk xs → (xs.length : Int) ≤ cyc xs b ∧ cyc xs b ≤ 480 * xs.length
  | [], _ => by simp [cyc]
  | s :: r, h => by
    have h1 := h s (by simp)
    have h2 := cyc_rng hb (xs := r) fun x hx => h x (by simp [hx])
    simp only [cyc, List.length_cons]
    push_cast
    omega
theorem tk_take {xs : List Slo} (h : ticksOk xs) (i : Nat) : ticksOk (xs.take i) := fun s hs => h s (List.mem_of_mem_take hs)
theorem tk_at {xs : List Slo} (h : ticksOk xs) {i : Nat} (hi : i < xs.length) : 1 ≤ xs[i].2 ∧ xs[i].2 ≤ 240 := h _ (List.getElem_mem hi)
def okP (xs : List Slo) (b f : Int) : Prop := ((1 ≤ (xs.length : Int) ∧ (xs.length : Int) ≤ 8) ∧ ticksOk xs ∧ (0 ≤ b ∧ b ≤ 240)) ∧ cyc xs b ≤ 240 ∧ (0 ≤ f ∧ f ≤ cyc xs b - 1)
instance (xs : List Slo) : Decidable (ticksOk xs) := by unfold ticksOk; infer_instance
instance (xs : List Slo) (b f : Int) : Decidable (okP xs b f) := by unfold okP; infer_instance
theorem tk_of {xs : List Slo} (h : ¬ ∃ s ∈ xs, ¬ (1 ≤ s.2 ∧ s.2 ≤ 240)) : ticksOk xs := fun s hm => Decidable.byContradiction fun h1 => h ⟨s, hm, h1⟩
theorem tk_not {xs : List Slo} (h : ∃ s ∈ xs, ¬ (1 ≤ s.2 ∧ s.2 ≤ 240)) : ¬ ticksOk xs := fun ht => by
  obtain ⟨s, hm, h1⟩ := h
  exact h1 (ht s hm)
theorem okP_cyc {xs : List Slo} {b f : Int} (h : okP xs b f) : 1 ≤ cyc xs b ∧ cyc xs b ≤ 240 := by
  have h1 := cyc_rng h.1.2.2 h.1.2.1
  have h2 := h.1.1.1
  exact ⟨by omega, h.2.1⟩
/-- The first code of a plan that is to be shifted. -/
def pcR (xs : List Slo) (b f : Int) (r : Bool) : Int := if okP xs b f then (if r then 0 else 2) else 1
def turnR (xs : List Slo) (b f by' : Int) : Int := ((f + by').tmod (cyc xs b) + cyc xs b).tmod (cyc xs b)
abbrev inBy (by' : Int) : Prop := -1000000 ≤ by' ∧ by' ≤ 1000000
def shR (xs : List Slo) (b f by' : Int) : (List Slo × Int × Int) × Int :=
  if okP xs b f then (if inBy by' then ((xs, b, turnR xs b f by'), 0) else (([], 0, 0), 2)) else (([], 0, 0), 1)
theorem sh_len {xs : List Slo} {b f by' : Int} : (shR xs b f by').1.1.length ≤ xs.length := by
  unfold shR
  split
  · split
    · exact Nat.le_refl _
    · exact Nat.zero_le _
  · exact Nat.zero_le _
theorem pc_t {xs : List Slo} {b f by' : Int} (_ : inBy by') (h : ¬ pcR xs b f true = 0) : shR xs b f by' = (([], 0, 0), pcR xs b f true) := by
  unfold pcR at h ⊢
  unfold shR
  by_cases h1 : okP xs b f
  · rw [if_pos h1] at h
    exact absurd rfl h
  · rw [if_neg h1, if_neg h1]
theorem pc_f {xs : List Slo} {b f by' : Int} (hr : ¬ inBy by') : shR xs b f by' = (([], 0, 0), pcR xs b f false) := by
  unfold pcR shR
  by_cases h1 : okP xs b f
  · rw [if_pos h1, if_pos h1, if_neg hr]
    rfl
  · rw [if_neg h1, if_neg h1]
theorem pc_f0 {xs : List Slo} {b f : Int} : ¬ pcR xs b f false = 0 := by
  unfold pcR
  by_cases h1 : okP xs b f
  · rw [if_pos h1]; decide
  · rw [if_neg h1]; decide
theorem pc_ok {xs : List Slo} {b f : Int} (h : pcR xs b f true = 0) : okP xs b f := by
  unfold pcR at h
  by_cases h1 : okP xs b f
  · exact h1
  · rw [if_neg h1] at h
    exact absurd h (by decide)
theorem sh_ok {xs : List Slo} {b f by' : Int} (h : okP xs b f) (hr : inBy by') : shR xs b f by' = ((xs, b, turnR xs b f by'), 0) := by
  unfold shR
  rw [if_pos h, if_pos hr]
theorem tmod_in {a n : Int} (h : 1 ≤ n) : -n ≤ a.tmod n ∧ a.tmod n ≤ n := by
  have h1 := Int.tmod_lt_of_pos a (show 0 < n by omega)
  have h2 := Int.tmod_lt_of_pos (-a) (show 0 < n by omega)
  rw [Int.neg_tmod] at h2
  omega
/-- The reference's own length of a round: it leaves early. -/
def cyS : List Slo → Int → Int → Int
  | [], _, a => a
  | s :: r, b, a => if (1 ≤ s.2 ∧ s.2 ≤ 240) ∧ (0 ≤ b ∧ b ≤ 240) then (if 240 < a + (s.2 + b) then a + (s.2 + b) else cyS r b (a + (s.2 + b))) else 241
theorem cyS_ok {b : Int} : ∀ {xs : List Slo} {a : Int}, ticksOk xs → 0 ≤ b ∧ b ≤ 240 → a + cyc xs b ≤ 240 → cyS xs b a = a + cyc xs b
  | [], a, _, _, _ => by simp [cyS, cyc]
  | s :: r, a, h, hb, hc => by
    have h1 := h s (by simp)
    have h3 : ticksOk r := fun x hx => h x (by simp [hx])
    have h2 := cyc_rng hb h3
    simp only [cyc] at hc ⊢
    unfold cyS
    rw [if_pos ⟨h1, hb⟩, if_neg (by omega), cyS_ok h3 hb (by omega)]
    omega
theorem cyS_le {b : Int} : ∀ {xs : List Slo} {a : Int}, 1 ≤ xs.length → cyS xs b a ≤ 240 → ticksOk xs ∧ (0 ≤ b ∧ b ≤ 240) ∧ a + cyc xs b ≤ 240
  | [s], a, _, h => by
    unfold cyS at h
    split at h
    · rename_i h1
      split at h
      · omega
      · refine ⟨fun x hx => by simp at hx; subst hx; exact h1.1, h1.2, ?_⟩
        simp only [cyc]
        omega
    · omega
  | s :: s' :: r, a, _, h => by
    unfold cyS at h
    split at h
    · rename_i h1
      split at h
      · omega
      · obtain ⟨k1, k2, k3⟩ := cyS_le (xs := s' :: r) (by simp) h
        refine ⟨fun x hx => ?_, h1.2, ?_⟩
        · rcases List.mem_cons.1 hx with rfl | hx
          · exact h1.1
          · exact k1 x hx
        · have e : cyc (s :: s' :: r) b = (s.2 + b) + cyc (s' :: r) b := rfl
          omega
    · omega
theorem cyS_nn {b : Int} : ∀ {xs : List Slo} {a : Int}, 0 ≤ a → 0 ≤ cyS xs b a
  | [], a, h => h
  | s :: r, a, h => by
    unfold cyS
    split
    · split
      · omega
      · exact cyS_nn (by omega)
    · decide
theorem cyS_at {xs : List Slo} {b a : Int} {i : Nat} (h : i < xs.length) : cyS (xs.drop i) b a = if (1 ≤ xs[i].2 ∧ xs[i].2 ≤ 240) ∧ (0 ≤ b ∧ b ≤ 240) then (if 240 < a + (xs[i].2 + b) then a + (xs[i].2 + b) else cyS (xs.drop (i + 1)) b (a + (xs[i].2 + b))) else 241 := by
  rw [List.drop_eq_getElem_cons h, cyS]
theorem okS {xs : List Slo} {b f : Int} (h1 : 1 ≤ (xs.length : Int) ∧ (xs.length : Int) ≤ 8) : (cyS xs b 0 ≤ 240 ∧ (0 ≤ f ∧ f ≤ cyS xs b 0 - 1)) ↔ okP xs b f := by
  constructor
  · rintro ⟨h2, h3⟩
    obtain ⟨k1, k2, k3⟩ := cyS_le (by omega) h2
    rw [cyS_ok k1 k2 k3] at h3
    exact ⟨⟨h1, k1, k2⟩, by omega, by omega⟩
  · rintro ⟨⟨-, k1, k2⟩, k3, k4⟩
    rw [cyS_ok k1 k2 (by omega)]
    exact ⟨by omega, by omega⟩
theorem cyS_cyc {xs : List Slo} {b f : Int} (h : okP xs b f) : cyS xs b 0 = cyc xs b := by
  rw [cyS_ok h.1.2.1 h.1.2.2 (by have := h.2.1; omega)]
  omega
def shW (r : (List Slo × Int × Int) × Int) : V := .tup [.agg (pln true r.1.1 r.1.2.1 r.1.2.2), cI r.2]
theorem cInR (a lo hi : Int) : PureC X 37 [cI a, cI lo, cI hi] (cB (decide (lo ≤ a ∧ a ≤ hi))) := by
  refine PureC.of_body (drawD_ok X) (fun _ _ => Go.Proofs.Try.call37 _ _) Go.Proofs.Try.func37 rfl (n := 15) rfl ?_
  refine w_seq ?_
  refine w_reg rfl ?_
  refine v_assign (c := .v (.bool false)) rfl ?_
  refine v_nil ?_
  refine q_n ?_
  refine w_seq ?_
  refine w_reg rfl ?_
  refine v_move rfl ?_
  refine v_move rfl ?_
  refine v_leq lay2 rfl rfl (fun h1 => ?_) (fun h1 => ?_)
  rotate_left
  · refine v_move rfl ?_
    refine v_guard_off rfl rfl rfl ?_
    refine v_guard_off rfl rfl rfl ?_
    refine v_guard_off rfl rfl rfl ?_
    refine v_pick_f (v := .v (.bool false)) rfl rfl ?_
    refine v_assign rfl ?_
    refine v_nil ?_
    refine q_n ?_
    refine w_ret ?_
    refine r_r rfl ?_
    exact a_b (by simp <;> omega)
  refine v_move rfl ?_
  refine v_guard_on rfl rfl ?_
  refine v_move rfl ?_
  refine v_guard_on rfl rfl ?_
  refine v_move rfl ?_
  refine v_guard_on rfl rfl ?_
  refine v_leq lay2 rfl rfl (fun h2 => ?_) (fun h2 => ?_)
  · refine v_pick_t rfl rfl ?_
    refine v_assign rfl ?_
    refine v_nil ?_
    refine q_n ?_
    refine w_ret ?_
    refine r_r rfl ?_
    exact a_b (by simp <;> omega)
  refine v_pick_t rfl rfl ?_
  refine v_assign rfl ?_
  refine v_nil ?_
  refine q_n ?_
  refine w_ret ?_
  refine r_r rfl ?_
  exact a_b (by simp <;> omega)
theorem cIn (a lo hi : Int) : PureC X 32 [cI a, cI lo, cI hi] (cB (decide (lo ≤ a ∧ a ≤ hi))) := by
  refine PureC.of_body (drawD_ok X) (fun _ _ => Go.Proofs.Try.call32 _ _) Go.Proofs.Try.func32 rfl (n := 15) rfl ?_
  refine w_seq ?_
  refine w_reg rfl ?_
  refine v_assign (c := .v (.bool false)) rfl ?_
  refine v_nil ?_
  refine q_n ?_
  refine w_seq ?_
  refine w_reg rfl ?_
  refine v_move rfl ?_
  refine v_move rfl ?_
  refine v_geq lay2 rfl rfl (fun h1 => ?_) (fun h1 => ?_)
  rotate_left
  · refine v_move rfl ?_
    refine v_guard_off rfl rfl rfl ?_
    refine v_guard_off rfl rfl rfl ?_
    refine v_guard_off rfl rfl rfl ?_
    refine v_pick_f (v := .v (.bool false)) rfl rfl ?_
    refine v_assign rfl ?_
    refine v_nil ?_
    refine q_n ?_
    refine w_ret ?_
    refine r_r rfl ?_
    exact a_b (by simp <;> omega)
  refine v_move rfl ?_
  refine v_guard_on rfl rfl ?_
  refine v_move rfl ?_
  refine v_guard_on rfl rfl ?_
  refine v_move rfl ?_
  refine v_guard_on rfl rfl ?_
  refine v_leq lay2 rfl rfl (fun h2 => ?_) (fun h2 => ?_)
  · refine v_pick_t rfl rfl ?_
    refine v_assign rfl ?_
    refine v_nil ?_
    refine q_n ?_
    refine w_ret ?_
    refine r_r rfl ?_
    exact a_b (by simp <;> omega)
  refine v_pick_t rfl rfl ?_
  refine v_assign rfl ?_
  refine v_nil ?_
  refine q_n ?_
  refine w_ret ?_
  refine r_r rfl ?_
  exact a_b (by simp <;> omega)
theorem cCodeIft (x : Int) : PureC X 61 [cB true, cI x] (cI x) := by
  refine PureC.of_body (drawD_ok X) (fun _ _ => Go.Proofs.Try.call61 _ _) Go.Proofs.Try.func61 rfl (n := 7) rfl ?_
  refine w_seq ?_
  refine w_reg rfl ?_
  refine v_assign (c := .v (.int .i64 0)) rfl ?_
  refine v_nil ?_
  refine q_n ?_
  refine w_seq ?_
  refine w_seq ?_
  refine w_reg rfl ?_
  refine v_move rfl ?_
  refine v_nil ?_
  refine q_n ?_
  refine w_t rfl ?_
  refine w_seq ?_
  refine w_reg rfl ?_
  refine v_move rfl ?_
  refine v_assign rfl ?_
  refine v_nil ?_
  refine q_n ?_
  refine w_ret (q_r ?_)
  refine r_r rfl ?_
  exact tr_v
theorem cCodeIff (x : Int) : PureC X 61 [cB false, cI x] (cI 0) := by
  refine PureC.of_body (drawD_ok X) (fun _ _ => Go.Proofs.Try.call61 _ _) Go.Proofs.Try.func61 rfl (n := 7) rfl ?_
  refine w_seq ?_
  refine w_reg rfl ?_
  refine v_assign (c := .v (.int .i64 0)) rfl ?_
  refine v_nil ?_
  refine q_n ?_
  refine w_seq ?_
  refine w_seq ?_
  refine w_reg rfl ?_
  refine v_move rfl ?_
  refine v_nil ?_
  refine q_n ?_
  refine w_f rfl ?_
  refine w_skip ?_
  refine q_n ?_
  refine w_seq ?_
  refine w_reg rfl ?_
  refine v_assign (c := .v (.int .i64 0)) rfl ?_
  refine v_nil ?_
  refine q_n ?_
  refine w_ret ?_
  refine r_r rfl ?_
  exact tr_v
theorem cCodeIf (b : Bool) (x : Int) : PureC X 61 [cB b, cI x] (cI (if b then x else 0)) := by
  cases b
  · exact cCodeIff x
  · exact cCodeIft x
theorem cFirst (xs : List Int) (hx : xs.length ≤ 2 ^ 40) : PureC X 60 [.c (ints false xs)] (cI (firstNZ xs)) := by
  refine PureC.of_body (drawD_ok X) (fun _ _ => Go.Proofs.Try.call60 _ _) Go.Proofs.Try.func60 rfl (n := 15) rfl ?_
  refine w_seq ?_
  refine w_reg rfl ?_
  refine v_assign (c := .v (.int .i64 0)) rfl ?_
  refine v_nil ?_
  refine q_n ?_
  refine w_seq ?_
  refine w_seq ?_
  refine w_reg rfl ?_
  refine v_move rfl ?_
  refine v_len_sl lay36 rfl ?_
  refine v_move (c := .v (.int .i64 0)) rfl ?_
  refine v_nil ?_
  refine q_n ?_
  refine w_block ?_
  refine w_loop (fun k sl H => ∃ i : Nat, k = xs.length - i ∧ i ≤ xs.length ∧ (∀ x ∈ xs.take i, x = 0) ∧ sl = sls [(5, .c (ints false xs)), (6, cI xs.length), (7, cI i)] ∧ H = []) ?_ ?_
  · refine ⟨_, _, _, ?_, 0, rfl, Nat.zero_le _, by simp, rfl, rfl⟩
    exact turn0 ⟨tr_sl, tr_v, tr_v, trivial⟩
  rintro k sl H ⟨i, rfl, hi, hp, rfl, rfl⟩
  refine w_seq ?_
  refine w_reg rfl ?_
  refine v_lss lay3 rfl rfl (fun h1 => ?_) (fun h1 => ?_)
  rotate_left
  · refine v_nil ?_
    refine q_n ?_
    refine w_seq ?_
    refine w_f rfl ?_
    refine w_exit ?_
    refine q_e ?_
    refine q_e ?_
    refine q_hit ?_
    refine q_n ?_
    refine w_seq ?_
    refine w_reg rfl ?_
    refine v_assign (c := .v (.int .i64 0)) rfl ?_
    refine v_nil ?_
    refine q_n ?_
    refine w_ret ?_
    refine r_r rfl ?_
    obtain rfl : i = xs.length := by omega
    rw [List.take_length] at hp
    exact a_i (firstNZ_none hp).symm
  have hj : i < xs.length := by omega
  refine v_nil ?_
  refine q_n ?_
  refine w_seq ?_
  refine w_t rfl ?_
  refine w_skip ?_
  refine q_n ?_
  refine w_seq ?_
  refine w_block ?_
  refine w_seq ?_
  refine w_reg rfl ?_
  refine v_idx_e (k := 1) (i) int_len lay36 lay2 rfl rfl rfl (rfl) rfl (rfl) ((by omega : i < xs.length)) ?_
  refine v_load_vw (.c (.v _)) lay2 rfl rfl rfl ?_
  refine v_assign rfl ?_
  refine v_nil ?_
  refine q_n ?_
  refine w_seq ?_
  refine w_reg rfl ?_
  refine v_move rfl ?_
  refine v_neq lay2 rfl rfl (fun h3 => ?_) (fun h3 => ?_)
  · refine v_nil ?_
    refine q_n ?_
    refine w_t rfl ?_
    refine w_seq ?_
    refine w_reg rfl ?_
    refine v_move rfl ?_
    refine v_assign rfl ?_
    refine v_nil ?_
    refine q_n ?_
    refine w_ret (q_br (q_r (q_r (q_br (q_r ?_)))))
    refine r_r rfl ?_
    exact a_i (firstNZ_hit hj hp h3).symm
  refine v_nil ?_
  refine q_n ?_
  refine w_f rfl ?_
  refine w_skip ?_
  refine q_bn ?_
  refine q_n ?_
  refine w_reg rfl ?_
  refine v_add lay3 rfl rfl (i64r (by omega)) ?_
  refine v_move rfl ?_
  refine v_nil ?_
  refine q_n ?_
  refine ⟨_, _, _, ?_, ⟨i + 1, rfl, by omega, all_step hj hp h3, rfl, rfl⟩, by omega⟩
  exact turn0 ⟨tr_sl, tr_v, tr_v, trivial⟩
theorem cPlace (a n : Int) (hn : 0 ≤ n ∧ n ≤ 2 ^ 40) : PureC X 81 [cI a, cI n] (cB (decide (0 ≤ a ∧ a ≤ n - 1))) := by
  refine PureC.of_body (drawD_ok X) (fun _ _ => Go.Proofs.Try.call81 _ _) Go.Proofs.Try.func81 rfl (n := 9) rfl ?_
  refine w_seq ?_
  refine w_reg rfl ?_
  refine v_assign (c := .v (.bool false)) rfl ?_
  refine v_nil ?_
  refine q_n ?_
  refine w_seq ?_
  refine w_reg rfl ?_
  refine v_move rfl ?_
  refine v_move rfl ?_
  refine v_sub lay2 rfl rfl (i64r (by omega)) ?_
  refine v_callb (cInR _ _ _) rfl rfl (.cons vw_v (.cons vw_v (.cons vw_v .nil))) (fun h1 => ?_) (fun h1 => ?_)
  · refine v_assign rfl ?_
    refine v_nil ?_
    refine q_n ?_
    refine w_ret ?_
    refine r_r rfl ?_
    exact a_b (by simp_all)
  refine v_assign rfl ?_
  refine v_nil ?_
  refine q_n ?_
  refine w_ret ?_
  refine r_r rfl ?_
  exact a_b (by simp_all)
theorem c54 (s : Slo) : PureC X 54 [.agg (stc s)] (cB (decide (¬ (1 ≤ s.2 ∧ s.2 ≤ 240)))) := by
  refine PureC.of_body (drawD_ok X) (fun _ _ => Go.Proofs.Try.call54 _ _) Go.Proofs.Try.func54 rfl (n := 7) rfl ?_
  refine w_seq ?_
  refine w_reg rfl ?_
  refine v_box (m := 0) (H' := [_]) lay82 rfl rfl rfl ?_
  refine v_assign (c := .v (.bool false)) rfl ?_
  refine v_nil ?_
  refine q_n ?_
  refine w_seq ?_
  refine w_reg rfl ?_
  refine v_fa_pt (off' := 8) lay82 rfl rfl rfl ?_
  refine v_load_pt (.c _) lay2 rfl rfl rfl rfl ?_
  refine v_callb (cInR _ _ _) rfl rfl (.cons vw_v (.cons vw_v (.cons vw_v .nil))) (fun h1 => ?_) (fun h1 => ?_)
  rotate_left
  · refine v_not true rfl rfl ?_
    refine v_assign rfl ?_
    refine v_nil ?_
    refine q_n ?_
    refine w_ret ?_
    refine r_r rfl ?_
    exact a_b (by simp_all)
  refine v_not false rfl rfl ?_
  refine v_assign rfl ?_
  refine v_nil ?_
  refine q_n ?_
  refine w_ret ?_
  refine r_r rfl ?_
  exact a_b (by simp_all)
theorem c75 (g : FuncId) (pr : Slo → Prop) [DecidablePred pr] (xs : List Slo) (hx : xs.length ≤ 2 ^ 40) (hF : ∀ x ∈ xs, PureC X g [.agg (stc x)] (cB (decide (pr x)))) : PureC X 75 [.c (.sl false xs.length 9 (flat stc xs)), .c (.fn g [])] (cI (fix pr xs)) := by
  refine PureC.of_body (drawD_ok X) (fun _ _ => Go.Proofs.Try.call75 _ _) Go.Proofs.Try.func75 rfl (n := 19) rfl ?_
  refine w_seq ?_
  refine w_reg rfl ?_
  refine v_assign (c := .v (.int .i64 0)) rfl ?_
  refine v_nil ?_
  refine q_n ?_
  refine w_seq ?_
  refine w_seq ?_
  refine w_reg rfl ?_
  refine v_move rfl ?_
  refine v_len_sl lay26 rfl ?_
  refine v_move (c := .v (.int .i64 0)) rfl ?_
  refine v_nil ?_
  refine q_n ?_
  refine w_block ?_
  refine w_loop (fun k sl H => ∃ i : Nat, k = xs.length - i ∧ i ≤ xs.length ∧ (∀ x ∈ xs.take i, ¬ pr x) ∧ sl = sls [(0, .c (.sl false xs.length 9 (flat stc xs))), (1, .c (.fn g [])), (7, cI xs.length), (8, cI i)] ∧ H = []) ?_ ?_
  · refine ⟨_, _, _, ?_, 0, rfl, Nat.zero_le _, by simp, rfl, rfl⟩
    exact turn0 ⟨tr_sl, tr_fn0, tr_v, tr_v, trivial⟩
  rintro k sl H ⟨i, rfl, hi, hp, rfl, rfl⟩
  refine w_seq ?_
  refine w_reg rfl ?_
  refine v_lss lay3 rfl rfl (fun h1 => ?_) (fun h1 => ?_)
  rotate_left
  · refine v_nil ?_
    refine q_n ?_
    refine w_seq ?_
    refine w_f rfl ?_
    refine w_exit ?_
    refine q_e ?_
    refine q_e ?_
    refine q_hit ?_
    refine q_n ?_
    refine w_seq ?_
    refine w_reg rfl ?_
    refine v_assign (c := .v (.int .i64 (-1))) rfl ?_
    refine v_nil ?_
    refine q_n ?_
    refine w_ret ?_
    refine r_r rfl ?_
    obtain rfl : i = xs.length := by omega
    rw [List.take_length] at hp
    exact a_i (fix_none hp).symm
  have hj : i < xs.length := by omega
  refine v_nil ?_
  refine q_n ?_
  refine w_seq ?_
  refine w_t rfl ?_
  refine w_skip ?_
  refine q_n ?_
  refine w_seq ?_
  refine w_block ?_
  refine w_seq ?_
  refine w_reg rfl ?_
  refine v_move rfl ?_
  refine v_assign rfl ?_
  refine v_nil ?_
  refine q_n ?_
  refine w_seq ?_
  refine w_reg rfl ?_
  refine v_move rfl ?_
  refine v_move rfl ?_
  refine v_move rfl ?_
  refine v_idx_e (k := 9) (i) stc_len lay26 lay82 rfl rfl rfl (rfl) rfl (rfl) ((by omega : i < xs.length)) ?_
  refine v_load_vw (.agg [.v _, .v _, .v _, .v _, .v _, .v _, .v _, .v _, .v _]) lay82 rfl rfl rfl ?_
  refine v_callb (hF _ (List.getElem_mem hj)) rfl rfl (.cons (vw_agg (.cons vw_v (.cons vw_v (.cons vw_v (.cons vw_v (.cons vw_v (.cons vw_v (.cons vw_v (.cons vw_v (.cons vw_v .nil)))))))))) .nil) (fun h3 => ?_) (fun h3 => ?_)
  · refine v_nil ?_
    refine q_n ?_
    refine w_t rfl ?_
    refine w_seq ?_
    refine w_reg rfl ?_
    refine v_move rfl ?_
    refine v_assign rfl ?_
    refine v_nil ?_
    refine q_n ?_
    refine w_ret (q_br (q_r (q_r (q_br (q_r ?_)))))
    refine r_r rfl ?_
    exact a_i (fix_hit hj hp h3).symm
  refine v_nil ?_
  refine q_n ?_
  refine w_f rfl ?_
  refine w_skip ?_
  refine q_bn ?_
  refine q_n ?_
  refine w_reg rfl ?_
  refine v_add lay3 rfl rfl (i64r (by omega)) ?_
  refine v_move rfl ?_
  refine v_nil ?_
  refine q_n ?_
  refine ⟨_, _, _, ?_, ⟨i + 1, rfl, by omega, all_step hj hp h3, rfl, rfl⟩, by omega⟩
  exact turn0 ⟨tr_sl, tr_fn0, tr_v, tr_v, trivial⟩
theorem c53 (g : FuncId) (pr : Slo → Prop) [DecidablePred pr] (xs : List Slo) (hx : xs.length ≤ 2 ^ 40) (hF : ∀ x ∈ xs, PureC X g [.agg (stc x)] (cB (decide (pr x)))) : PureC X 53 [.c (.sl false xs.length 9 (flat stc xs)), .c (.fn g [])] (cB (decide (∃ x ∈ xs, pr x))) := by
  refine PureC.of_body (drawD_ok X) (fun _ _ => Go.Proofs.Try.call53 _ _) Go.Proofs.Try.func53 rfl (n := 9) rfl ?_
  refine w_seq ?_
  refine w_reg rfl ?_
  refine v_assign (c := .v (.bool false)) rfl ?_
  refine v_nil ?_
  refine q_n ?_
  refine w_seq ?_
  refine w_reg rfl ?_
  refine v_move rfl ?_
  refine v_move rfl ?_
  refine v_call (c75 _ _ _ hx hF) rfl rfl rfl (.cons vw_sl (.cons (vw_fn .nil) .nil)) ?_
  refine v_geq lay3 rfl rfl (fun h1 => ?_) (fun h1 => ?_)
  · refine v_assign rfl ?_
    refine v_nil ?_
    refine q_n ?_
    refine w_ret ?_
    refine r_r rfl ?_
    exact a_b (by simp only [true_iff]; exact (fix_ge _ _).1 h1)
  refine v_assign rfl ?_
  refine v_nil ?_
  refine q_n ?_
  refine w_ret ?_
  refine r_r rfl ?_
  exact a_b (by simp only [Bool.false_eq_true, false_iff]; exact fun h => h1 ((fix_ge _ _).2 h))
theorem c40 (xs : List Slo) (b f : Int) (hs : ticksOk xs) (hb : 0 ≤ b ∧ b ≤ 240) (hx : xs.length ≤ 8) : PureC X 40 [.agg (pln false xs b f)] (cI (cyc xs b)) := by
  refine PureC.of_body (drawD_ok X) (fun _ _ => Go.Proofs.Try.call40 _ _) Go.Proofs.Try.func40 rfl (n := 22) rfl ?_
  refine w_seq ?_
  refine w_reg rfl ?_
  refine v_box (m := 0) (H' := [_]) lay28 rfl rfl rfl ?_
  refine v_assign (c := .v (.int .i64 0)) rfl ?_
  refine v_nil ?_
  refine q_n ?_
  refine w_seq ?_
  refine w_reg rfl ?_
  refine v_assign (c := .v (.int .i64 0)) rfl ?_
  refine v_nil ?_
  refine q_n ?_
  refine w_seq ?_
  refine w_seq ?_
  refine w_reg rfl ?_
  refine v_fa_pt (off' := 0) lay28 rfl rfl rfl ?_
  refine v_load_pt (.c _) lay26 rfl rfl rfl rfl ?_
  refine v_len_sl lay26 rfl ?_
  refine v_move (c := .v (.int .i64 0)) rfl ?_
  refine v_nil ?_
  refine q_n ?_
  refine w_block ?_
  refine w_loop (fun k sl H => ∃ i : Nat, k = xs.length - i ∧ i ≤ xs.length ∧ sl = sls [(1, .c (.pt 0 0)), (3, cI (cyc (xs.take i) b)), (7, .c (sts false xs)), (8, cI xs.length), (9, cI i)] ∧ H = [⟨pln false xs b f, 28, true⟩]) ?_ ?_
  · refine ⟨_, _, _, ?_, 0, rfl, Nat.zero_le _, rfl, rfl⟩
    exact turn [some 0] rfl rfl rfl ⟨⟨_, rfl, .cons tr_sl (.cons tr_v (.cons tr_v .nil))⟩, trivial⟩ ⟨tr_pt rfl, tr_v, tr_sl, tr_v, tr_v, trivial⟩
  rintro k sl H ⟨i, rfl, hi, rfl, rfl⟩
  have hc := cyc_rng hb (tk_take hs i)
  rw [List.length_take] at hc
  refine w_seq ?_
  refine w_reg rfl ?_
  refine v_lss lay3 rfl rfl (fun h1 => ?_) (fun h1 => ?_)
  rotate_left
  · refine v_nil ?_
    refine q_n ?_
    refine w_seq ?_
    refine w_f rfl ?_
    refine w_exit ?_
    refine q_e ?_
    refine q_e ?_
    refine q_hit ?_
    refine q_n ?_
    refine w_seq ?_
    refine w_reg rfl ?_
    refine v_move rfl ?_
    refine v_assign rfl ?_
    refine v_nil ?_
    refine q_n ?_
    refine w_ret ?_
    refine r_r rfl ?_
    obtain rfl : i = xs.length := by omega
    exact a_i (by rw [List.take_length])
  have hi1 : i < xs.length := by omega
  have ht := tk_at hs hi1
  refine v_nil ?_
  refine q_n ?_
  refine w_seq ?_
  refine w_t rfl ?_
  refine w_skip ?_
  refine q_n ?_
  refine w_seq ?_
  refine w_block ?_
  refine w_seq ?_
  refine w_reg rfl ?_
  refine v_idx_e (k := 9) (i) stc_len lay26 lay82 rfl rfl rfl (rfl) rfl (rfl) (hi1) ?_
  refine v_load_vw (.agg [.v _, .v _, .v _, .v _, .v _, .v _, .v _, .v _, .v _]) lay82 rfl rfl rfl ?_
  refine v_alloc (m := 1) (H' := [_, ⟨[.v _, .v _, .v _, .v _, .v _, .v _, .v _, .v _, .v _], 82, true⟩]) lay82 rfl rfl ?_
  refine v_store (H' := [_, ⟨[_, _, _, _, _, _, _, _, _], 82, true⟩]) lay82 rfl rfl rfl rfl rfl rfl ?_
  refine v_nil ?_
  refine q_n ?_
  refine w_reg rfl ?_
  refine v_move rfl ?_
  refine v_fa_pt (off' := 8) lay82 rfl rfl rfl ?_
  refine v_load_pt (.c _) lay2 rfl rfl rfl rfl ?_
  refine v_fa_pt (off' := 1) lay28 rfl rfl rfl ?_
  refine v_load_pt (.c _) lay2 rfl rfl rfl rfl ?_
  refine v_add lay2 rfl rfl (i64r (by omega)) ?_
  refine v_add lay2 rfl rfl (i64r (by omega)) ?_
  refine v_assign rfl ?_
  refine v_nil ?_
  refine q_bn ?_
  refine q_n ?_
  refine w_reg rfl ?_
  refine v_add lay3 rfl rfl (i64r (by omega)) ?_
  refine v_move rfl ?_
  refine v_nil ?_
  refine q_n ?_
  refine ⟨_, _, _, ?_, ⟨i + 1, rfl, by omega, rfl, rfl⟩, by omega⟩
  exact turn [some 0] rfl rfl rfl ⟨⟨_, rfl, .cons tr_sl (.cons tr_v (.cons tr_v .nil))⟩, trivial⟩ ⟨tr_pt rfl, tr_i (cyc_step (by omega)), tr_sl, tr_v, tr_v, trivial⟩
theorem c26 (xs : List Slo) (b f : Int) (hx : xs.length ≤ 2 ^ 40) : PureC X 26 [.agg (pln false xs b f)] (cB (decide (okP xs b f))) := by
  refine PureC.of_body (drawD_ok X) (fun _ _ => Go.Proofs.Try.call26 _ _) Go.Proofs.Try.func26 rfl (n := 33) rfl ?_
  refine w_seq ?_
  refine w_reg rfl ?_
  refine v_box (m := 0) (H' := [_]) lay28 rfl rfl rfl ?_
  refine v_assign (c := .v (.bool false)) rfl ?_
  refine v_nil ?_
  refine q_n ?_
  refine w_seq ?_
  refine w_reg rfl ?_
  refine v_fa_pt (off' := 0) lay28 rfl rfl rfl ?_
  refine v_load_pt (.c _) lay26 rfl rfl rfl rfl ?_
  refine v_callb (c53 54 (fun s => ¬ (1 ≤ s.2 ∧ s.2 ≤ 240)) _ hx (fun s _ => c54 s)) rfl rfl (.cons vw_sl (.cons (vw_fn .nil) .nil)) (fun h1 => ?_) (fun h1 => ?_)
  · have hs := tk_not h1
    refine v_assign rfl ?_
    refine v_nil ?_
    refine q_n ?_
    refine w_seq ?_
    refine w_draw [0, 1, 3, 7, 15, 31, 63, 127, 255, 511, 1023, 2047, 4095, 8191, 16383, 32767, 65535, 131071, 262143, 524287, 1048575, 524287, 2621439, 6815743, 16777215, 33554431, 67108863] [⟨0, 0, []⟩, ⟨1, 0, []⟩, ⟨2, 0, []⟩, ⟨3, 0, []⟩, ⟨4, 0, []⟩, ⟨5, 0, []⟩, ⟨6, 0, []⟩, ⟨7, 0, []⟩, ⟨8, 0, []⟩, ⟨9, 0, []⟩, ⟨10, 0, []⟩, ⟨11, 0, []⟩, ⟨12, 0, []⟩, ⟨13, 0, []⟩, ⟨14, 0, []⟩, ⟨15, 0, []⟩, ⟨16, 0, []⟩, ⟨17, 0, []⟩, ⟨18, 0, []⟩, ⟨19, 0, []⟩, ⟨20, 0, []⟩, ⟨21, 0, []⟩, ⟨22, 0, []⟩, ⟨23, 0, []⟩, ⟨24, 0, []⟩, ⟨25, 0, []⟩, ⟨26, 0, []⟩] rfl rfl ?_
    refine d_q rfl rfl rfl rfl rfl ?_
    refine v_fa_pt (off' := 0) lay28 rfl rfl rfl ?_
    refine v_nil ?_
    refine d_q rfl rfl rfl rfl rfl ?_
    refine v_load_pt (.c _) lay26 rfl rfl rfl rfl ?_
    refine v_nil ?_
    refine d_q rfl rfl rfl rfl rfl ?_
    refine v_len_sl lay26 rfl ?_
    refine v_nil ?_
    refine d_callb (cInR _ _ _) rfl rfl rfl rfl (.cons vw_v (.cons vw_v (.cons vw_v .nil))) (fun h2 => ?_) (fun h2 => ?_)
    rotate_left
    · refine d_q rfl rfl rfl rfl rfl ?_
      refine v_move rfl ?_
      refine v_nil ?_
      refine d_off rfl rfl ?_
      refine d_off rfl rfl ?_
      refine d_q rfl rfl rfl rfl rfl ?_
      refine v_pick_f (v := .v (.bool false)) rfl rfl ?_
      refine v_nil ?_
      refine d_q rfl rfl rfl rfl rfl ?_
      refine v_move rfl ?_
      refine v_nil ?_
      refine d_off rfl rfl ?_
      refine d_off rfl rfl ?_
      refine d_off rfl rfl ?_
      refine d_q rfl rfl rfl rfl rfl ?_
      refine v_pick_f (v := .v (.bool false)) rfl rfl ?_
      refine v_nil ?_
      refine d_q rfl rfl rfl rfl rfl ?_
      refine v_move rfl ?_
      refine v_nil ?_
      refine d_off rfl rfl ?_
      refine d_off rfl rfl ?_
      refine d_off rfl rfl ?_
      refine d_q rfl rfl rfl rfl rfl ?_
      refine v_pick_f (v := .v (.bool false)) rfl rfl ?_
      refine v_nil ?_
      refine d_q rfl rfl rfl rfl rfl ?_
      refine v_move rfl ?_
      refine v_nil ?_
      refine d_off rfl rfl ?_
      refine d_off rfl rfl ?_
      refine d_off rfl rfl ?_
      refine d_off rfl rfl ?_
      refine d_off rfl rfl ?_
      refine d_off rfl rfl ?_
      refine d_q rfl rfl rfl rfl rfl ?_
      refine v_pick_f (v := .v (.bool false)) rfl rfl ?_
      refine v_nil ?_
      refine d_q rfl rfl rfl rfl rfl ?_
      refine v_assign rfl ?_
      refine v_nil ?_
      refine d_nil ?_
      refine q_n ?_
      refine w_ret ?_
      refine r_r rfl ?_
      exact a_b (by unfold okP; first | omega | (simp_all; done) | (simp_all; omega))
    refine d_q rfl rfl rfl rfl rfl ?_
    refine v_move rfl ?_
    refine v_nil ?_
    refine d_q rfl rfl rfl rfl rfl ?_
    refine v_move rfl ?_
    refine v_nil ?_
    refine d_q rfl rfl rfl rfl rfl ?_
    refine v_not false rfl rfl ?_
    refine v_nil ?_
    refine d_q rfl rfl rfl rfl rfl ?_
    refine v_pick_t rfl rfl ?_
    refine v_nil ?_
    refine d_q rfl rfl rfl rfl rfl ?_
    refine v_move rfl ?_
    refine v_nil ?_
    refine d_off rfl rfl ?_
    refine d_off rfl rfl ?_
    refine d_off rfl rfl ?_
    refine d_q rfl rfl rfl rfl rfl ?_
    refine v_pick_f (v := .v (.bool false)) rfl rfl ?_
    refine v_nil ?_
    refine d_q rfl rfl rfl rfl rfl ?_
    refine v_move rfl ?_
    refine v_nil ?_
    refine d_off rfl rfl ?_
    refine d_off rfl rfl ?_
    refine d_off rfl rfl ?_
    refine d_q rfl rfl rfl rfl rfl ?_
    refine v_pick_f (v := .v (.bool false)) rfl rfl ?_
    refine v_nil ?_
    refine d_q rfl rfl rfl rfl rfl ?_
    refine v_move rfl ?_
    refine v_nil ?_
    refine d_off rfl rfl ?_
    refine d_off rfl rfl ?_
    refine d_off rfl rfl ?_
    refine d_off rfl rfl ?_
    refine d_off rfl rfl ?_
    refine d_off rfl rfl ?_
    refine d_q rfl rfl rfl rfl rfl ?_
    refine v_pick_f (v := .v (.bool false)) rfl rfl ?_
    refine v_nil ?_
    refine d_q rfl rfl rfl rfl rfl ?_
    refine v_assign rfl ?_
    refine v_nil ?_
    refine d_nil ?_
    refine q_n ?_
    refine w_ret ?_
    refine r_r rfl ?_
    exact a_b (by unfold okP; first | omega | (simp_all; done) | (simp_all; omega))
  have hs := tk_of h1
  refine v_assign rfl ?_
  refine v_nil ?_
  refine q_n ?_
  refine w_seq ?_
  refine w_draw [0, 1, 3, 7, 15, 31, 63, 127, 255, 511, 1023, 2047, 4095, 8191, 16383, 32767, 65535, 131071, 262143, 524287, 1048575, 524287, 2621439, 6815743, 16777215, 33554431, 67108863] [⟨0, 0, []⟩, ⟨1, 0, []⟩, ⟨2, 0, []⟩, ⟨3, 0, []⟩, ⟨4, 0, []⟩, ⟨5, 0, []⟩, ⟨6, 0, []⟩, ⟨7, 0, []⟩, ⟨8, 0, []⟩, ⟨9, 0, []⟩, ⟨10, 0, []⟩, ⟨11, 0, []⟩, ⟨12, 0, []⟩, ⟨13, 0, []⟩, ⟨14, 0, []⟩, ⟨15, 0, []⟩, ⟨16, 0, []⟩, ⟨17, 0, []⟩, ⟨18, 0, []⟩, ⟨19, 0, []⟩, ⟨20, 0, []⟩, ⟨21, 0, []⟩, ⟨22, 0, []⟩, ⟨23, 0, []⟩, ⟨24, 0, []⟩, ⟨25, 0, []⟩, ⟨26, 0, []⟩] rfl rfl ?_
  refine d_q rfl rfl rfl rfl rfl ?_
  refine v_fa_pt (off' := 0) lay28 rfl rfl rfl ?_
  refine v_nil ?_
  refine d_q rfl rfl rfl rfl rfl ?_
  refine v_load_pt (.c _) lay26 rfl rfl rfl rfl ?_
  refine v_nil ?_
  refine d_q rfl rfl rfl rfl rfl ?_
  refine v_len_sl lay26 rfl ?_
  refine v_nil ?_
  refine d_callb (cInR _ _ _) rfl rfl rfl rfl (.cons vw_v (.cons vw_v (.cons vw_v .nil))) (fun h3 => ?_) (fun h3 => ?_)
  rotate_left
  · refine d_q rfl rfl rfl rfl rfl ?_
    refine v_move rfl ?_
    refine v_nil ?_
    refine d_off rfl rfl ?_
    refine d_off rfl rfl ?_
    refine d_q rfl rfl rfl rfl rfl ?_
    refine v_pick_f (v := .v (.bool false)) rfl rfl ?_
    refine v_nil ?_
    refine d_q rfl rfl rfl rfl rfl ?_
    refine v_move rfl ?_
    refine v_nil ?_
    refine d_off rfl rfl ?_
    refine d_off rfl rfl ?_
    refine d_off rfl rfl ?_
    refine d_q rfl rfl rfl rfl rfl ?_
    refine v_pick_f (v := .v (.bool false)) rfl rfl ?_
    refine v_nil ?_
    refine d_q rfl rfl rfl rfl rfl ?_
    refine v_move rfl ?_
    refine v_nil ?_
    refine d_off rfl rfl ?_
    refine d_off rfl rfl ?_
    refine d_off rfl rfl ?_
    refine d_q rfl rfl rfl rfl rfl ?_
    refine v_pick_f (v := .v (.bool false)) rfl rfl ?_
    refine v_nil ?_
    refine d_q rfl rfl rfl rfl rfl ?_
    refine v_move rfl ?_
    refine v_nil ?_
    refine d_off rfl rfl ?_
    refine d_off rfl rfl ?_
    refine d_off rfl rfl ?_
    refine d_off rfl rfl ?_
    refine d_off rfl rfl ?_
    refine d_off rfl rfl ?_
    refine d_q rfl rfl rfl rfl rfl ?_
    refine v_pick_f (v := .v (.bool false)) rfl rfl ?_
    refine v_nil ?_
    refine d_q rfl rfl rfl rfl rfl ?_
    refine v_assign rfl ?_
    refine v_nil ?_
    refine d_nil ?_
    refine q_n ?_
    refine w_ret ?_
    refine r_r rfl ?_
    exact a_b (by unfold okP; first | omega | (simp_all; done) | (simp_all; omega))
  refine d_q rfl rfl rfl rfl rfl ?_
  refine v_move rfl ?_
  refine v_nil ?_
  refine d_q rfl rfl rfl rfl rfl ?_
  refine v_move rfl ?_
  refine v_nil ?_
  refine d_q rfl rfl rfl rfl rfl ?_
  refine v_not true rfl rfl ?_
  refine v_nil ?_
  refine d_q rfl rfl rfl rfl rfl ?_
  refine v_pick_t rfl rfl ?_
  refine v_nil ?_
  refine d_q rfl rfl rfl rfl rfl ?_
  refine v_move rfl ?_
  refine v_nil ?_
  refine d_q rfl rfl rfl rfl rfl ?_
  refine v_fa_pt (off' := 1) lay28 rfl rfl rfl ?_
  refine v_nil ?_
  refine d_q rfl rfl rfl rfl rfl ?_
  refine v_load_pt (.c _) lay2 rfl rfl rfl rfl ?_
  refine v_nil ?_
  refine d_callb (cInR _ _ _) rfl rfl rfl rfl (.cons vw_v (.cons vw_v (.cons vw_v .nil))) (fun h4 => ?_) (fun h4 => ?_)
  rotate_left
  · refine d_q rfl rfl rfl rfl rfl ?_
    refine v_pick_t rfl rfl ?_
    refine v_nil ?_
    refine d_q rfl rfl rfl rfl rfl ?_
    refine v_move rfl ?_
    refine v_nil ?_
    refine d_off rfl rfl ?_
    refine d_off rfl rfl ?_
    refine d_off rfl rfl ?_
    refine d_q rfl rfl rfl rfl rfl ?_
    refine v_pick_f (v := .v (.bool false)) rfl rfl ?_
    refine v_nil ?_
    refine d_q rfl rfl rfl rfl rfl ?_
    refine v_move rfl ?_
    refine v_nil ?_
    refine d_off rfl rfl ?_
    refine d_off rfl rfl ?_
    refine d_off rfl rfl ?_
    refine d_off rfl rfl ?_
    refine d_off rfl rfl ?_
    refine d_off rfl rfl ?_
    refine d_q rfl rfl rfl rfl rfl ?_
    refine v_pick_f (v := .v (.bool false)) rfl rfl ?_
    refine v_nil ?_
    refine d_q rfl rfl rfl rfl rfl ?_
    refine v_assign rfl ?_
    refine v_nil ?_
    refine d_nil ?_
    refine q_n ?_
    refine w_ret ?_
    refine r_r rfl ?_
    exact a_b (by unfold okP; first | omega | (simp_all; done) | (simp_all; omega))
  have hc := cyc_rng h4 hs
  refine d_q rfl rfl rfl rfl rfl ?_
  refine v_pick_t rfl rfl ?_
  refine v_nil ?_
  refine d_q rfl rfl rfl rfl rfl ?_
  refine v_move rfl ?_
  refine v_nil ?_
  refine d_q rfl rfl rfl rfl rfl ?_
  refine v_load_pt (.agg [_, _, _]) lay28 rfl rfl rfl rfl ?_
  refine v_nil ?_
  refine d_call (c40 _ _ _ hs (by omega) (by omega)) rfl rfl rfl rfl rfl (.cons (vw_agg (.cons vw_sl (.cons vw_v (.cons vw_v .nil)))) .nil) ?_
  refine d_q rfl rfl rfl rfl rfl ?_
  refine v_leq lay2 rfl rfl (fun h5 => ?_) (fun h5 => ?_)
  rotate_left
  · refine v_nil ?_
    refine d_q rfl rfl rfl rfl rfl ?_
    refine v_pick_t rfl rfl ?_
    refine v_nil ?_
    refine d_q rfl rfl rfl rfl rfl ?_
    refine v_move rfl ?_
    refine v_nil ?_
    refine d_off rfl rfl ?_
    refine d_off rfl rfl ?_
    refine d_off rfl rfl ?_
    refine d_off rfl rfl ?_
    refine d_off rfl rfl ?_
    refine d_off rfl rfl ?_
    refine d_q rfl rfl rfl rfl rfl ?_
    refine v_pick_f (v := .v (.bool false)) rfl rfl ?_
    refine v_nil ?_
    refine d_q rfl rfl rfl rfl rfl ?_
    refine v_assign rfl ?_
    refine v_nil ?_
    refine d_nil ?_
    refine q_n ?_
    refine w_ret ?_
    refine r_r rfl ?_
    exact a_b (by unfold okP; first | omega | (simp_all; done) | (simp_all; omega))
  refine v_nil ?_
  refine d_q rfl rfl rfl rfl rfl ?_
  refine v_pick_t rfl rfl ?_
  refine v_nil ?_
  refine d_q rfl rfl rfl rfl rfl ?_
  refine v_move rfl ?_
  refine v_nil ?_
  refine d_q rfl rfl rfl rfl rfl ?_
  refine v_fa_pt (off' := 2) lay28 rfl rfl rfl ?_
  refine v_nil ?_
  refine d_q rfl rfl rfl rfl rfl ?_
  refine v_load_pt (.c _) lay2 rfl rfl rfl rfl ?_
  refine v_nil ?_
  refine d_q rfl rfl rfl rfl rfl ?_
  refine v_load_pt (.agg [_, _, _]) lay28 rfl rfl rfl rfl ?_
  refine v_nil ?_
  refine d_call (c40 _ _ _ hs (by omega) (by omega)) rfl rfl rfl rfl rfl (.cons (vw_agg (.cons vw_sl (.cons vw_v (.cons vw_v .nil)))) .nil) ?_
  refine d_q rfl rfl rfl rfl rfl ?_
  refine v_sub lay2 rfl rfl (i64r (by omega)) ?_
  refine v_nil ?_
  refine d_callb (cInR _ _ _) rfl rfl rfl rfl (.cons vw_v (.cons vw_v (.cons vw_v .nil))) (fun h6 => ?_) (fun h6 => ?_)
  · refine d_q rfl rfl rfl rfl rfl ?_
    refine v_pick_t rfl rfl ?_
    refine v_nil ?_
    refine d_q rfl rfl rfl rfl rfl ?_
    refine v_assign rfl ?_
    refine v_nil ?_
    refine d_nil ?_
    refine q_n ?_
    refine w_ret ?_
    refine r_r rfl ?_
    exact a_b (by unfold okP; first | omega | (simp_all; done) | (simp_all; omega))
  refine d_q rfl rfl rfl rfl rfl ?_
  refine v_pick_t rfl rfl ?_
  refine v_nil ?_
  refine d_q rfl rfl rfl rfl rfl ?_
  refine v_assign rfl ?_
  refine v_nil ?_
  refine d_nil ?_
  refine q_n ?_
  refine w_ret ?_
  refine r_r rfl ?_
  exact a_b (by unfold okP; first | omega | (simp_all; done) | (simp_all; omega))
theorem c36t (xs : List Slo) (b f : Int) (hx : xs.length ≤ 2 ^ 40) : PureC X 36 [.agg (pln false xs b f), cB true] (cI (pcR xs b f true)) := by
  refine PureC.of_body (drawD_ok X) (fun _ _ => Go.Proofs.Try.call36 _ _) Go.Proofs.Try.func36 rfl (n := 14) rfl ?_
  refine w_seq ?_
  refine w_reg rfl ?_
  refine v_box (m := 0) (H' := [_]) lay28 rfl rfl rfl ?_
  refine v_assign (c := .v (.int .i64 0)) rfl ?_
  refine v_nil ?_
  refine q_n ?_
  refine w_seq ?_
  refine w_reg rfl ?_
  refine v_load_pt (.agg [_, _, _]) lay28 rfl rfl rfl rfl ?_
  refine v_callb (c26 _ _ _ hx) rfl rfl (.cons (vw_agg (.cons vw_sl (.cons vw_v (.cons vw_v .nil)))) .nil) (fun h1 => ?_) (fun h1 => ?_)
  rotate_left
  · refine v_not true rfl rfl ?_
    refine v_call (cCodeIf _ _) rfl rfl rfl (.cons vw_v (.cons vw_v .nil)) ?_
    refine v_move rfl ?_
    refine v_not false rfl rfl ?_
    refine v_call (cCodeIf _ _) rfl rfl rfl (.cons vw_v (.cons vw_v .nil)) ?_
    refine v_lit (flat int [_, _]) (H' := [_, _]) lay36 lay2 rfl rfl ⟨by decide, by decide⟩ rfl rfl ?_
    refine v_call (cFirst [_, _] (Nat.le_of_ble_eq_true rfl)) rfl rfl rfl (.cons (vw_mu2 int_sc int_len rfl (by first | (simp; done) | (simp; omega))) .nil) ?_
    refine v_assign rfl ?_
    refine v_nil ?_
    refine q_n ?_
    refine w_ret ?_
    refine r_r rfl ?_
    exact a_i (by unfold pcR; simp [h1, firstNZ])
  refine v_not false rfl rfl ?_
  refine v_call (cCodeIf _ _) rfl rfl rfl (.cons vw_v (.cons vw_v .nil)) ?_
  refine v_move rfl ?_
  refine v_not false rfl rfl ?_
  refine v_call (cCodeIf _ _) rfl rfl rfl (.cons vw_v (.cons vw_v .nil)) ?_
  refine v_lit (flat int [_, _]) (H' := [_, _]) lay36 lay2 rfl rfl ⟨by decide, by decide⟩ rfl rfl ?_
  refine v_call (cFirst [_, _] (Nat.le_of_ble_eq_true rfl)) rfl rfl rfl (.cons (vw_mu2 int_sc int_len rfl (by first | (simp; done) | (simp; omega))) .nil) ?_
  refine v_assign rfl ?_
  refine v_nil ?_
  refine q_n ?_
  refine w_ret ?_
  refine r_r rfl ?_
  exact a_i (by unfold pcR; simp [h1, firstNZ])
theorem c36f (xs : List Slo) (b f : Int) (hx : xs.length ≤ 2 ^ 40) : PureC X 36 [.agg (pln false xs b f), cB false] (cI (pcR xs b f false)) := by
  refine PureC.of_body (drawD_ok X) (fun _ _ => Go.Proofs.Try.call36 _ _) Go.Proofs.Try.func36 rfl (n := 14) rfl ?_
  refine w_seq ?_
  refine w_reg rfl ?_
  refine v_box (m := 0) (H' := [_]) lay28 rfl rfl rfl ?_
  refine v_assign (c := .v (.int .i64 0)) rfl ?_
  refine v_nil ?_
  refine q_n ?_
  refine w_seq ?_
  refine w_reg rfl ?_
  refine v_load_pt (.agg [_, _, _]) lay28 rfl rfl rfl rfl ?_
  refine v_callb (c26 _ _ _ hx) rfl rfl (.cons (vw_agg (.cons vw_sl (.cons vw_v (.cons vw_v .nil)))) .nil) (fun h1 => ?_) (fun h1 => ?_)
  rotate_left
  · refine v_not true rfl rfl ?_
    refine v_call (cCodeIf _ _) rfl rfl rfl (.cons vw_v (.cons vw_v .nil)) ?_
    refine v_move rfl ?_
    refine v_not true rfl rfl ?_
    refine v_call (cCodeIf _ _) rfl rfl rfl (.cons vw_v (.cons vw_v .nil)) ?_
    refine v_lit (flat int [_, _]) (H' := [_, _]) lay36 lay2 rfl rfl ⟨by decide, by decide⟩ rfl rfl ?_
    refine v_call (cFirst [_, _] (Nat.le_of_ble_eq_true rfl)) rfl rfl rfl (.cons (vw_mu2 int_sc int_len rfl (by first | (simp; done) | (simp; omega))) .nil) ?_
    refine v_assign rfl ?_
    refine v_nil ?_
    refine q_n ?_
    refine w_ret ?_
    refine r_r rfl ?_
    exact a_i (by unfold pcR; simp [h1, firstNZ])
  refine v_not false rfl rfl ?_
  refine v_call (cCodeIf _ _) rfl rfl rfl (.cons vw_v (.cons vw_v .nil)) ?_
  refine v_move rfl ?_
  refine v_not true rfl rfl ?_
  refine v_call (cCodeIf _ _) rfl rfl rfl (.cons vw_v (.cons vw_v .nil)) ?_
  refine v_lit (flat int [_, _]) (H' := [_, _]) lay36 lay2 rfl rfl ⟨by decide, by decide⟩ rfl rfl ?_
  refine v_call (cFirst [_, _] (Nat.le_of_ble_eq_true rfl)) rfl rfl rfl (.cons (vw_mu2 int_sc int_len rfl (by first | (simp; done) | (simp; omega))) .nil) ?_
  refine v_assign rfl ?_
  refine v_nil ?_
  refine q_n ?_
  refine w_ret ?_
  refine r_r rfl ?_
  exact a_i (by unfold pcR; simp [h1, firstNZ])
theorem c39 (a n : Int) (hn : 1 ≤ n ∧ n ≤ 240) (_ : -2000000 ≤ a ∧ a ≤ 2000000) : PureC X 39 [cI a, cI n] (cI ((a.tmod n + n).tmod n)) := by
  refine PureC.of_body (drawD_ok X) (fun _ _ => Go.Proofs.Try.call39 _ _) Go.Proofs.Try.func39 rfl (n := 12) rfl ?_
  refine w_seq ?_
  refine w_reg rfl ?_
  refine v_assign (c := .v (.int .i64 0)) rfl ?_
  refine v_nil ?_
  refine q_n ?_
  refine w_seq ?_
  refine w_reg rfl ?_
  refine v_move rfl ?_
  refine v_move rfl ?_
  refine v_rem lay2 rfl rfl (by omega) ?_
  refine v_move rfl ?_
  refine v_add lay2 rfl rfl (i64r (by have := tmod_in (a := a) hn.1; omega)) ?_
  refine v_move rfl ?_
  refine v_rem lay2 rfl rfl (by omega) ?_
  refine v_assign rfl ?_
  refine v_nil ?_
  refine q_n ?_
  refine w_ret ?_
  refine r_r rfl ?_
  exact tr_v
theorem c62l (xs : List Slo) (hx : xs.length ≤ 2 ^ 40) : LiveC X 62 [.c (.sl false xs.length 9 (flat stc xs))] (.c (.mu 0 0 xs.length 9)) [⟨flat stc xs, 82, true⟩] := by
  refine LiveC.of_body (drawD_ok X) (fun _ _ => Go.Proofs.Try.call62 _ _) Go.Proofs.Try.func62 rfl (n := 8) rfl ?_
  refine w_seq ?_
  refine w_reg rfl ?_
  refine v_assign rfl ?_
  refine v_nil ?_
  refine q_n ?_
  refine w_seq ?_
  refine w_seq ?_
  refine w_reg rfl ?_
  refine v_move rfl ?_
  refine v_eqnil rfl lay26 rfl rfl (fun h1 => ?_) ?_
  · refine v_nil ?_
    refine q_n ?_
    refine w_t rfl ?_
    refine w_seq ?_
    refine w_reg rfl ?_
    refine v_assign rfl ?_
    refine v_nil ?_
    refine q_n ?_
    refine w_ret (q_r ?_)
    refine r_r rfl ?_
    have hxs : xs = [] := List.eq_nil_of_length_eq_zero h1.1
    subst hxs
    exact l_ans [none] rfl rfl ⟨rfl, trivial⟩ (tr_nil rfl)
  refine v_nil ?_
  refine q_n ?_
  refine w_f rfl ?_
  refine w_skip ?_
  refine q_n ?_
  refine w_seq ?_
  refine w_reg rfl ?_
  refine v_lit (flat stc []) (H' := [_]) lay26 lay82 rfl rfl ⟨by decide, by decide⟩ rfl rfl ?_
  refine v_move rfl ?_
  refine v_app_flat_sl (H' := [_, _]) stc_sc stc_len lay26 lay82 rfl rfl (by simp) rfl rfl rfl (by unfold maxLen; simp only []; omega) rfl rfl ?_
  refine v_assign rfl ?_
  refine v_nil ?_
  refine q_n ?_
  refine w_ret ?_
  refine r_r rfl ?_
  exact l_ans [some 1] rfl rfl ⟨⟨_, rfl, trc_flat stc_sc (by simp)⟩, trivial⟩ (tr_mun rfl (by simp))
theorem c38l (xs : List Slo) (b f : Int) (hx : xs.length ≤ 2 ^ 40) : LiveC X 38 [.agg (pln false xs b f)] (.agg [.mu 0 0 xs.length 9, .v (.int .i64 b), .v (.int .i64 f)]) [⟨flat stc xs, 82, true⟩] := by
  refine LiveC.of_body (drawD_ok X) (fun _ _ => Go.Proofs.Try.call38 _ _) Go.Proofs.Try.func38 rfl (n := 8) rfl ?_
  refine w_seq ?_
  refine w_reg rfl ?_
  refine v_box (m := 0) (H' := [_]) lay28 rfl rfl rfl ?_
  refine v_alloc (m := 1) (H' := [_, ⟨[.v _, .v _, .v _], 28, true⟩]) lay28 rfl rfl ?_
  refine v_nil ?_
  refine q_n ?_
  refine w_seq ?_
  refine w_reg rfl ?_
  refine v_fa_pt (off' := 0) lay28 rfl rfl rfl ?_
  refine v_load_pt (.c _) lay26 rfl rfl rfl rfl ?_
  refine v_live1 (N := 2) (H' := [_, _, _]) (c62l _ (by omega)) (sc_flat stc_sc _) rfl rfl rfl rfl rfl rfl (.cons vw_sl .nil) ?_
  refine v_fa_pt (off' := 0) lay28 rfl rfl rfl ?_
  refine v_store (H' := [⟨[_, _, _], 28, true⟩, _, _]) lay26 rfl rfl rfl rfl rfl rfl ?_
  refine v_nil ?_
  refine q_n ?_
  refine w_seq ?_
  refine w_reg rfl ?_
  refine v_load_pt (.agg [_, _, _]) lay28 rfl rfl rfl rfl ?_
  refine v_store (H' := [_, ⟨[_, _, _], 28, true⟩, _]) lay28 rfl rfl rfl rfl rfl rfl ?_
  refine v_nil ?_
  refine q_n ?_
  refine w_ret ?_
  refine r_r rfl ?_
  exact l_ans [some 2] rfl rfl ⟨⟨_, rfl, trc_flat stc_sc rfl⟩, trivial⟩ (tr_agg (.cons (tr_mu rfl) (.cons tr_v (.cons tr_v .nil))))
theorem c9l (xs : List Slo) (b f by' : Int) (hx : xs.length ≤ 2 ^ 40) : LiveC X 9 [.agg (pln false xs b f), cI by'] (.tup [.agg [.mu 0 0 (shR xs b f by').1.1.length 9, .v (.int .i64 (shR xs b f by').1.2.1), .v (.int .i64 (shR xs b f by').1.2.2)], cI (shR xs b f by').2]) [⟨flat stc (shR xs b f by').1.1, 82, true⟩] := by
  refine LiveC.of_body (drawD_ok X) (fun _ _ => Go.Proofs.Try.call9 _ _) Go.Proofs.Try.func9 rfl (n := 27) rfl ?_
  refine w_seq ?_
  refine w_reg rfl ?_
  refine v_box (m := 0) (H' := [_]) lay28 rfl rfl rfl ?_
  refine v_alloc (m := 1) (H' := [_, ⟨[.v _, .v _, .v _], 28, true⟩]) lay28 rfl rfl ?_
  refine v_assign (c := .v (.int .i64 0)) rfl ?_
  refine v_nil ?_
  refine q_n ?_
  refine w_seq ?_
  refine w_seq ?_
  refine w_draw [0, 0, 2, 7, 15] [⟨0, 0, []⟩, ⟨1, 0, []⟩, ⟨2, 0, []⟩, ⟨3, 0, []⟩, ⟨4, 0, []⟩] rfl rfl ?_
  refine d_q rfl rfl rfl rfl rfl ?_
  refine v_load_pt (.agg [_, _, _]) lay28 rfl rfl rfl rfl ?_
  refine v_nil ?_
  refine d_q rfl rfl rfl rfl rfl ?_
  refine v_move rfl ?_
  refine v_nil ?_
  refine d_callb (cInR _ _ _) rfl rfl rfl rfl (.cons vw_v (.cons vw_v (.cons vw_v .nil))) (fun h1 => ?_) (fun h1 => ?_)
  rotate_left
  · refine d_call (c36f _ _ _ hx) rfl rfl rfl rfl rfl (.cons (vw_agg (.cons vw_sl (.cons vw_v (.cons vw_v .nil)))) (.cons vw_v .nil)) ?_
    refine d_q rfl rfl rfl rfl rfl ?_
    refine v_assign rfl ?_
    refine v_nil ?_
    refine d_nil ?_
    refine q_n ?_
    refine w_seq ?_
    refine w_reg rfl ?_
    refine v_move rfl ?_
    refine v_neq lay2 rfl rfl (fun h3 => ?_) (fun h3 => ?_)
    rotate_left
    · exact absurd h3 pc_f0
    refine v_nil ?_
    refine q_n ?_
    refine w_t rfl ?_
    refine w_seq ?_
    refine w_reg rfl ?_
    refine v_build [(0, 1), (1, 1), (2, 1)] [.v _, .v _, .v _] lay28 rfl rfl ?_
    refine v_move rfl ?_
    refine v_store (H' := [_, ⟨[_, _, _], 28, true⟩]) lay28 rfl rfl rfl rfl rfl rfl ?_
    refine v_assign rfl ?_
    refine v_nil ?_
    refine q_n ?_
    refine w_ret (q_r ?_)
    refine r_r rfl ?_
    rw [pc_f h1]
    exact l_ans [none] rfl rfl ⟨rfl, trivial⟩ (a_tup (.cons (tr_agg (.cons (tr_nil rfl) (.cons tr_v (.cons tr_v .nil)))) (.cons tr_v .nil)))
  refine d_call (c36t _ _ _ hx) rfl rfl rfl rfl rfl (.cons (vw_agg (.cons vw_sl (.cons vw_v (.cons vw_v .nil)))) (.cons vw_v .nil)) ?_
  refine d_q rfl rfl rfl rfl rfl ?_
  refine v_assign rfl ?_
  refine v_nil ?_
  refine d_nil ?_
  refine q_n ?_
  refine w_seq ?_
  refine w_reg rfl ?_
  refine v_move rfl ?_
  refine v_neq lay2 rfl rfl (fun h2 => ?_) (fun h2 => ?_)
  · refine v_nil ?_
    refine q_n ?_
    refine w_t rfl ?_
    refine w_seq ?_
    refine w_reg rfl ?_
    refine v_build [(0, 1), (1, 1), (2, 1)] [.v _, .v _, .v _] lay28 rfl rfl ?_
    refine v_move rfl ?_
    refine v_store (H' := [_, ⟨[_, _, _], 28, true⟩]) lay28 rfl rfl rfl rfl rfl rfl ?_
    refine v_assign rfl ?_
    refine v_nil ?_
    refine q_n ?_
    refine w_ret (q_r ?_)
    refine r_r rfl ?_
    rw [pc_t h1 h2]
    exact l_ans [none] rfl rfl ⟨rfl, trivial⟩ (a_tup (.cons (tr_agg (.cons (tr_nil rfl) (.cons tr_v (.cons tr_v .nil)))) (.cons tr_v .nil)))
  have hk := pc_ok h2
  obtain ⟨⟨hk1, hs, hk2⟩, hk3, hk4⟩ := id hk
  refine v_nil ?_
  refine q_n ?_
  refine w_f rfl ?_
  refine w_skip ?_
  refine q_n ?_
  refine w_seq ?_
  refine w_reg rfl ?_
  refine v_load_pt (.agg [_, _, _]) lay28 rfl rfl rfl rfl ?_
  refine v_live1 (N := 2) (H' := [_, _, _]) (c38l _ _ _ (by omega)) (sc_flat stc_sc _) rfl rfl rfl rfl rfl rfl (.cons (vw_agg (.cons vw_sl (.cons vw_v (.cons vw_v .nil)))) .nil) ?_
  refine v_alloc (m := 3) (H' := [_, _, _, ⟨[.v _, .v _, .v _], 28, true⟩]) lay28 rfl rfl ?_
  refine v_store (H' := [_, _, _, ⟨[_, _, _], 28, true⟩]) lay28 rfl rfl rfl rfl rfl rfl ?_
  refine v_nil ?_
  refine q_n ?_
  refine w_seq ?_
  refine w_draw [0, 1, 0, 7, 0, 16, 63, 127, 255] [⟨0, 0, []⟩, ⟨1, 0, []⟩, ⟨2, 0, []⟩, ⟨3, 0, []⟩, ⟨4, 0, []⟩, ⟨5, 0, []⟩, ⟨6, 0, []⟩, ⟨7, 0, []⟩, ⟨8, 1, []⟩] rfl rfl ?_
  refine d_q rfl rfl rfl rfl rfl ?_
  refine v_fa_pt (off' := 2) lay28 rfl rfl rfl ?_
  refine v_nil ?_
  refine d_q rfl rfl rfl rfl rfl ?_
  refine v_load_pt (.c _) lay2 rfl rfl rfl rfl ?_
  refine v_nil ?_
  refine d_q rfl rfl rfl rfl rfl ?_
  refine v_move rfl ?_
  refine v_nil ?_
  refine d_q rfl rfl rfl rfl rfl ?_
  refine v_add lay2 rfl rfl (i64r (by omega)) ?_
  refine v_nil ?_
  refine d_q rfl rfl rfl rfl rfl ?_
  refine v_load_pt (.agg [_, _, _]) lay28 rfl rfl rfl rfl ?_
  refine v_nil ?_
  refine d_call (c40 _ _ _ hs (by omega) (by omega)) rfl rfl rfl rfl rfl (.cons (vw_agg (.cons vw_sl (.cons vw_v (.cons vw_v .nil)))) .nil) ?_
  refine d_call (c39 _ _ (okP_cyc hk) (by omega)) rfl rfl rfl rfl rfl (.cons vw_v (.cons vw_v .nil)) ?_
  refine d_q rfl rfl rfl rfl rfl ?_
  refine v_fa_pt (off' := 2) lay28 rfl rfl rfl ?_
  refine v_nil ?_
  refine d_e rfl rfl rfl ?_
  refine v_store (H' := [_, _, _, ⟨[_, _, _], 28, true⟩]) lay2 rfl rfl rfl rfl rfl rfl ?_
  refine v_nil ⟨again_nil, ?_⟩
  refine d_nil ?_
  refine q_n ?_
  refine w_seq ?_
  refine w_reg rfl ?_
  refine v_load_pt (.agg [_, _, _]) lay28 rfl rfl rfl rfl ?_
  refine v_store (H' := [_, ⟨[_, _, _], 28, true⟩, _, _]) lay28 rfl rfl rfl rfl rfl rfl ?_
  refine v_assign (c := .v (.int .i64 0)) rfl ?_
  refine v_nil ?_
  refine q_n ?_
  refine w_ret ?_
  refine r_r rfl ?_
  rw [sh_ok hk h1]
  exact l_ans [some 2] rfl rfl ⟨⟨_, rfl, trc_flat stc_sc rfl⟩, trivial⟩ (a_tup (.cons (tr_agg (.cons (tr_mu rfl) (.cons tr_v (.cons tr_v .nil)))) (.cons tr_v .nil)))
theorem sh_frz (r : (List Slo × Int × Int) × Int) : TrV [⟨flat stc r.1.1, 82, true⟩] [] (.tup [.agg [.mu 0 0 r.1.1.length 9, .v (.int .i64 r.1.2.1), .v (.int .i64 r.1.2.2)], cI r.2]) (shW r) := a_tup (.cons (a_agg (.cons (a_flat stc_sc stc_len rfl rfl) (.cons tr_v (.cons tr_v .nil)))) (.cons tr_v .nil))
theorem c9 (xs : List Slo) (b f by' : Int) (hx : xs.length ≤ 2 ^ 40) : PureC X 9 [.agg (pln false xs b f), cI by'] (shW (shR xs b f by')) := (c9l xs b f by' hx).pure (sh_frz _)
end Go.VL
namespace Go.VL
open Go.RowKit
set_option maxRecDepth 20000
set_option maxHeartbeats 8000000
theorem c33 (xs : List Slo) (b f : Int) (hx : xs.length ≤ 2 ^ 40) : PureC X 33 [.c (.vw false (pln true xs b f) 0)] (cI (cyS xs b 0)) := by
  refine PureC.of_body (drawD_ok X) (fun _ _ => Go.Proofs.Try.call33 _ _) Go.Proofs.Try.func33 rfl (n := 51) rfl ?_
  refine w_seq ?_
  refine w_reg rfl ?_
  refine v_assign (c := .v (.int .i64 0)) rfl ?_
  refine v_nil ?_
  refine q_n ?_
  refine w_seq ?_
  refine w_reg rfl ?_
  refine v_assign (c := .v (.int .i64 0)) rfl ?_
  refine v_nil ?_
  refine q_n ?_
  refine w_seq ?_
  refine w_seq ?_
  refine w_reg rfl ?_
  refine v_assign (c := .v (.int .i64 0)) rfl ?_
  refine v_nil ?_
  refine q_n ?_
  refine w_block ?_
  refine w_loop (fun k sl H => ∃ (i : Nat) (a : Int), k = xs.length - i ∧ i ≤ xs.length ∧ cyS (xs.drop i) b a = cyS xs b 0 ∧ (0 ≤ a ∧ a ≤ 240) ∧ sl = sls [(0, .c (.vw false (pln true xs b f) 0)), (3, cI a), (4, cI i)] ∧ H = []) ?_ ?_
  · refine ⟨_, _, _, ?_, 0, 0, rfl, Nat.zero_le _, rfl, by decide, rfl, rfl⟩
    exact turn0 ⟨tr_vw, tr_v, tr_v, trivial⟩
  rintro k sl H ⟨i, a, rfl, hi, hp, ha, rfl, rfl⟩
  refine w_seq ?_
  refine w_seq ?_
  refine w_reg rfl ?_
  refine v_move rfl ?_
  refine v_move rfl ?_
  refine v_nil_vw rfl ?_
  refine v_fa_vw (off' := 0) lay28 rfl rfl rfl ?_
  refine v_load_vw (.c (_)) lay26 rfl rfl rfl ?_
  refine v_len_sl lay26 rfl ?_
  refine v_lss lay3 rfl rfl (fun h1 => ?_) (fun h1 => ?_)
  rotate_left
  · refine v_nil ?_
    refine q_n ?_
    refine w_f rfl ?_
    refine w_exit ?_
    refine q_e ?_
    refine q_e ?_
    refine q_hit ?_
    refine q_n ?_
    refine w_seq ?_
    refine w_reg rfl ?_
    refine v_move rfl ?_
    refine v_assign rfl ?_
    refine v_nil ?_
    refine q_n ?_
    refine w_ret ?_
    refine r_r rfl ?_
    first | exact a_i (by rw [← hp, cyS_at hi1, if_neg (by omega)]) | exact a_i (by rw [← hp, cyS_at hi1, if_pos ⟨by assumption, by assumption⟩, if_pos (by omega)]) | exact a_i (by obtain rfl : i = xs.length := (by omega); rw [List.drop_length] at hp; exact hp)
  have hi1 : i < xs.length := by omega
  refine v_nil ?_
  refine q_n ?_
  refine w_t rfl ?_
  refine w_skip ?_
  refine q_n ?_
  refine w_seq ?_
  refine w_block ?_
  refine w_seq ?_
  refine w_seq ?_
  refine w_reg rfl ?_
  refine v_move rfl ?_
  refine v_nil_vw rfl ?_
  refine v_fa_vw (off' := 0) lay28 rfl rfl rfl ?_
  refine v_load_vw (.c (_)) lay26 rfl rfl rfl ?_
  refine v_move rfl ?_
  refine v_idx_e (k := 9) (i) stc_len lay26 lay82 rfl rfl rfl (rfl) rfl (rfl) (hi1) ?_
  refine v_fa_vw (off' := 8) lay82 rfl rfl rfl ?_
  refine v_load_vw (.c (.v _)) lay2 rfl rfl rfl ?_
  refine v_callb (cIn _ _ _) rfl rfl (.cons vw_v (.cons vw_v (.cons vw_v .nil))) (fun h3 => ?_) (fun h3 => ?_)
  rotate_left
  · refine v_not true rfl rfl ?_
    refine v_move rfl ?_
    refine v_guard_off rfl rfl rfl ?_
    refine v_guard_off rfl rfl rfl ?_
    refine v_guard_off rfl rfl rfl ?_
    refine v_guard_off rfl rfl rfl ?_
    refine v_guard_off rfl rfl rfl ?_
    refine v_guard_off rfl rfl rfl ?_
    refine v_pick_t (v := .v (.bool true)) rfl rfl ?_
    refine v_nil ?_
    refine q_n ?_
    refine w_t rfl ?_
    refine w_seq ?_
    refine w_reg rfl ?_
    refine v_assign (c := .v (.int .i64 241)) rfl ?_
    refine v_nil ?_
    refine q_n ?_
    refine w_ret (q_r (q_br (q_r (q_r (q_br (q_r ?_))))))
    refine r_r rfl ?_
    first | exact a_i (by rw [← hp, cyS_at hi1, if_neg (by omega)]) | exact a_i (by rw [← hp, cyS_at hi1, if_pos ⟨by assumption, by assumption⟩, if_pos (by omega)]) | exact a_i (by obtain rfl : i = xs.length := (by omega); rw [List.drop_length] at hp; exact hp)
  refine v_not false rfl rfl ?_
  refine v_move rfl ?_
  refine v_guard_on rfl rfl ?_
  refine v_move rfl ?_
  refine v_guard_on rfl rfl ?_
  refine v_nil_vw rfl ?_
  refine v_guard_on rfl rfl ?_
  refine v_fa_vw (off' := 1) lay28 rfl rfl rfl ?_
  refine v_guard_on rfl rfl ?_
  refine v_load_vw (.c (.v _)) lay2 rfl rfl rfl ?_
  refine v_guard_on rfl rfl ?_
  refine v_callb (cIn _ _ _) rfl rfl (.cons vw_v (.cons vw_v (.cons vw_v .nil))) (fun h4 => ?_) (fun h4 => ?_)
  rotate_left
  · refine v_guard_on rfl rfl ?_
    refine v_not true rfl rfl ?_
    refine v_pick_f rfl rfl ?_
    refine v_nil ?_
    refine q_n ?_
    refine w_t rfl ?_
    refine w_seq ?_
    refine w_reg rfl ?_
    refine v_assign (c := .v (.int .i64 241)) rfl ?_
    refine v_nil ?_
    refine q_n ?_
    refine w_ret (q_r (q_br (q_r (q_r (q_br (q_r ?_))))))
    refine r_r rfl ?_
    first | exact a_i (by rw [← hp, cyS_at hi1, if_neg (by omega)]) | exact a_i (by rw [← hp, cyS_at hi1, if_pos ⟨by assumption, by assumption⟩, if_pos (by omega)]) | exact a_i (by obtain rfl : i = xs.length := (by omega); rw [List.drop_length] at hp; exact hp)
  refine v_guard_on rfl rfl ?_
  refine v_not false rfl rfl ?_
  refine v_pick_f rfl rfl ?_
  refine v_nil ?_
  refine q_n ?_
  refine w_f rfl ?_
  refine w_skip ?_
  refine q_n ?_
  refine w_seq ?_
  refine w_draw [0, 0, 2, 6, 14, 0, 62, 126, 254, 0, 512, 1536, 3584, 8190, 16383, 32767] [⟨0, 0, []⟩, ⟨1, 0, []⟩, ⟨2, 0, []⟩, ⟨3, 0, []⟩, ⟨4, 0, []⟩, ⟨5, 0, []⟩, ⟨6, 0, []⟩, ⟨7, 0, []⟩, ⟨8, 0, []⟩, ⟨9, 0, []⟩, ⟨10, 0, []⟩, ⟨11, 0, []⟩, ⟨12, 0, []⟩, ⟨13, 0, []⟩, ⟨14, 0, []⟩, ⟨15, 0, []⟩] rfl rfl ?_
  refine d_q rfl rfl rfl rfl rfl ?_
  refine v_move rfl ?_
  refine v_nil ?_
  refine d_q rfl rfl rfl rfl rfl ?_
  refine v_move rfl ?_
  refine v_nil ?_
  refine d_q rfl rfl rfl rfl rfl ?_
  refine v_nil_vw rfl ?_
  refine v_nil ?_
  refine d_q rfl rfl rfl rfl rfl ?_
  refine v_fa_vw (off' := 0) lay28 rfl rfl rfl ?_
  refine v_nil ?_
  refine d_q rfl rfl rfl rfl rfl ?_
  refine v_load_vw (.c (_)) lay26 rfl rfl rfl ?_
  refine v_nil ?_
  refine d_q rfl rfl rfl rfl rfl ?_
  refine v_move rfl ?_
  refine v_nil ?_
  refine d_q rfl rfl rfl rfl rfl ?_
  refine v_idx_e (k := 9) (i) stc_len lay26 lay82 rfl rfl rfl (rfl) rfl (rfl) (hi1) ?_
  refine v_nil ?_
  refine d_q rfl rfl rfl rfl rfl ?_
  refine v_fa_vw (off' := 8) lay82 rfl rfl rfl ?_
  refine v_nil ?_
  refine d_q rfl rfl rfl rfl rfl ?_
  refine v_load_vw (.c (.v _)) lay2 rfl rfl rfl ?_
  refine v_nil ?_
  refine d_q rfl rfl rfl rfl rfl ?_
  refine v_move rfl ?_
  refine v_nil ?_
  refine d_q rfl rfl rfl rfl rfl ?_
  refine v_nil_vw rfl ?_
  refine v_nil ?_
  refine d_q rfl rfl rfl rfl rfl ?_
  refine v_fa_vw (off' := 1) lay28 rfl rfl rfl ?_
  refine v_nil ?_
  refine d_q rfl rfl rfl rfl rfl ?_
  refine v_load_vw (.c (.v _)) lay2 rfl rfl rfl ?_
  refine v_nil ?_
  refine d_q rfl rfl rfl rfl rfl ?_
  refine v_add lay2 rfl rfl (i64r (by omega)) ?_
  refine v_nil ?_
  refine d_q rfl rfl rfl rfl rfl ?_
  refine v_add lay2 rfl rfl (i64r (by omega)) ?_
  refine v_nil ?_
  refine d_q rfl rfl rfl rfl rfl ?_
  refine v_assign rfl ?_
  refine v_nil ?_
  refine d_nil ?_
  refine q_n ?_
  refine w_seq ?_
  refine w_reg rfl ?_
  refine v_move rfl ?_
  refine v_gtr lay2 rfl rfl (fun h6 => ?_) (fun h6 => ?_)
  rotate_left
  · refine v_nil ?_
    refine q_n ?_
    refine w_f rfl ?_
    refine w_skip ?_
    refine q_bn ?_
    refine q_n ?_
    refine w_reg rfl ?_
    refine v_move rfl ?_
    refine v_add lay3 rfl rfl (i64r (by omega)) ?_
    refine v_assign rfl ?_
    refine v_nil ?_
    refine q_n ?_
    rw [cyS_at hi1, if_pos ⟨by assumption, by assumption⟩, if_neg (by omega)] at hp
    refine ⟨_, _, _, ?_, ⟨i + 1, a + (xs[i].2 + b), rfl, by omega, hp, by omega, rfl, rfl⟩, by omega⟩
    exact turn0 ⟨tr_vw, tr_v, tr_v, trivial⟩
  refine v_nil ?_
  refine q_n ?_
  refine w_t rfl ?_
  refine w_seq ?_
  refine w_reg rfl ?_
  refine v_move rfl ?_
  refine v_assign rfl ?_
  refine v_nil ?_
  refine q_n ?_
  refine w_ret (q_br (q_r (q_r (q_br (q_r ?_)))))
  refine r_r rfl ?_
  first | exact a_i (by rw [← hp, cyS_at hi1, if_neg (by omega)]) | exact a_i (by rw [← hp, cyS_at hi1, if_pos ⟨by assumption, by assumption⟩, if_pos (by omega)]) | exact a_i (by obtain rfl : i = xs.length := (by omega); rw [List.drop_length] at hp; exact hp)
theorem c31 (xs : List Slo) (b f : Int) (hx : xs.length ≤ 2 ^ 40) : PureC X 31 [.c (.vw false (pln true xs b f) 0)] (cB (decide (okP xs b f))) := by
  refine PureC.of_body (drawD_ok X) (fun _ _ => Go.Proofs.Try.call31 _ _) Go.Proofs.Try.func31 rfl (n := 24) rfl ?_
  refine w_seq ?_
  refine w_reg rfl ?_
  refine v_assign (c := .v (.bool false)) rfl ?_
  refine v_nil ?_
  refine q_n ?_
  refine w_seq ?_
  refine w_seq ?_
  refine w_reg rfl ?_
  refine v_move rfl ?_
  refine v_nil_vw rfl ?_
  refine v_fa_vw (off' := 0) lay28 rfl rfl rfl ?_
  refine v_load_vw (.c (_)) lay26 rfl rfl rfl ?_
  refine v_len_sl lay26 rfl ?_
  refine v_callb (cIn _ _ _) rfl rfl (.cons vw_v (.cons vw_v (.cons vw_v .nil))) (fun h1 => ?_) (fun h1 => ?_)
  rotate_left
  · refine v_not true rfl rfl ?_
    refine v_nil ?_
    refine q_n ?_
    refine w_t rfl ?_
    refine w_seq ?_
    refine w_reg rfl ?_
    refine v_assign (c := .v (.bool false)) rfl ?_
    refine v_nil ?_
    refine q_n ?_
    refine w_ret (q_r ?_)
    refine r_r rfl ?_
    exact a_b (by simp only [Bool.false_eq_true, false_iff]; exact fun h => h1 h.1.1)
  have hO := okS (xs := xs) (b := b) (f := f) h1
  refine v_not false rfl rfl ?_
  refine v_nil ?_
  refine q_n ?_
  refine w_f rfl ?_
  refine w_skip ?_
  refine q_n ?_
  refine w_seq ?_
  refine w_reg rfl ?_
  refine v_move rfl ?_
  refine v_call (c33 _ _ _ hx) rfl rfl rfl (.cons vw_vw .nil) ?_
  refine v_assign rfl ?_
  refine v_nil ?_
  refine q_n ?_
  refine w_seq ?_
  refine w_reg rfl ?_
  refine v_move rfl ?_
  refine v_leq lay2 rfl rfl (fun h2 => ?_) (fun h2 => ?_)
  rotate_left
  · refine v_move rfl ?_
    refine v_guard_off rfl rfl rfl ?_
    refine v_guard_off rfl rfl rfl ?_
    refine v_guard_off rfl rfl rfl ?_
    refine v_guard_off rfl rfl rfl ?_
    refine v_guard_off rfl rfl rfl ?_
    refine v_guard_off rfl rfl rfl ?_
    refine v_guard_off rfl rfl rfl ?_
    refine v_pick_f (v := .v (.bool false)) rfl rfl ?_
    refine v_assign rfl ?_
    refine v_nil ?_
    refine q_n ?_
    refine w_ret ?_
    refine r_r rfl ?_
    exact a_b (by rw [← hO]; simp only [Bool.false_eq_true, false_iff]; exact fun h => h2 h.1)
  have hn := cyS_nn (xs := xs) (b := b) (a := 0) (by decide)
  refine v_move rfl ?_
  refine v_guard_on rfl rfl ?_
  refine v_move rfl ?_
  refine v_guard_on rfl rfl ?_
  refine v_nil_vw rfl ?_
  refine v_guard_on rfl rfl ?_
  refine v_fa_vw (off' := 2) lay28 rfl rfl rfl ?_
  refine v_guard_on rfl rfl ?_
  refine v_load_vw (.c (.v _)) lay2 rfl rfl rfl ?_
  refine v_guard_on rfl rfl ?_
  refine v_move rfl ?_
  refine v_guard_on rfl rfl ?_
  refine v_sub lay2 rfl rfl (i64r (by omega)) ?_
  refine v_guard_on rfl rfl ?_
  refine v_callb (cIn _ _ _) rfl rfl (.cons vw_v (.cons vw_v (.cons vw_v .nil))) (fun h3 => ?_) (fun h3 => ?_)
  · refine v_pick_t rfl rfl ?_
    refine v_assign rfl ?_
    refine v_nil ?_
    refine q_n ?_
    refine w_ret ?_
    refine r_r rfl ?_
    exact a_b (by rw [← hO]; simp only [true_iff]; exact ⟨h2, h3⟩)
  refine v_pick_t rfl rfl ?_
  refine v_assign rfl ?_
  refine v_nil ?_
  refine q_n ?_
  refine w_ret ?_
  refine r_r rfl ?_
  exact a_b (by rw [← hO]; simp only [Bool.false_eq_true, false_iff]; exact fun h => h3 h.2)
theorem c34l (xs : List Slo) (b f q : Int) (hx : xs.length ≤ 2 ^ 40) : LiveC X 34 [.c (.vw false (pln true xs b f) 0), cI q] (.agg [.mu 0 0 xs.length 9, .v (.int .i64 b), .v (.int .i64 q)]) [⟨flat stc xs, 82, true⟩] := by
  refine LiveC.of_body (drawD_ok X) (fun _ _ => Go.Proofs.Try.call34 _ _) Go.Proofs.Try.func34 rfl (n := 17) rfl ?_
  refine w_seq ?_
  refine w_reg rfl ?_
  refine v_alloc (m := 0) (H' := [⟨[.v _, .v _, .v _], 28, true⟩]) lay28 rfl rfl ?_
  refine v_nil ?_
  refine q_n ?_
  refine w_seq ?_
  refine w_draw [0, 0, 2, 6, 14, 31, 0, 64, 192, 448, 0, 2047, 4095] [⟨1, 0, []⟩, ⟨2, 0, []⟩, ⟨3, 0, []⟩, ⟨4, 0, []⟩, ⟨6, 0, []⟩, ⟨7, 0, []⟩, ⟨8, 0, []⟩, ⟨9, 0, []⟩, ⟨10, 0, []⟩, ⟨0, 1, [4, 9]⟩, ⟨5, 1, [9]⟩, ⟨11, 0, []⟩, ⟨12, 1, []⟩] rfl rfl ?_
  refine d_q rfl rfl rfl rfl rfl ?_
  refine v_move rfl ?_
  refine v_nil ?_
  refine d_q rfl rfl rfl rfl rfl ?_
  refine v_nil_vw rfl ?_
  refine v_nil ?_
  refine d_q rfl rfl rfl rfl rfl ?_
  refine v_fa_vw (off' := 0) lay28 rfl rfl rfl ?_
  refine v_nil ?_
  refine d_q rfl rfl rfl rfl rfl ?_
  refine v_load_vw (.c (_)) lay26 rfl rfl rfl ?_
  refine v_nil ?_
  refine d_q rfl rfl rfl rfl rfl ?_
  refine v_move rfl ?_
  refine v_nil ?_
  refine d_q rfl rfl rfl rfl rfl ?_
  refine v_nil_vw rfl ?_
  refine v_nil ?_
  refine d_q rfl rfl rfl rfl rfl ?_
  refine v_fa_vw (off' := 1) lay28 rfl rfl rfl ?_
  refine v_nil ?_
  refine d_q rfl rfl rfl rfl rfl ?_
  refine v_load_vw (.c (.v _)) lay2 rfl rfl rfl ?_
  refine v_nil ?_
  refine d_q rfl rfl rfl rfl rfl ?_
  refine v_move rfl ?_
  refine v_nil ?_
  refine d_e rfl rfl rfl ?_
  refine v_lit (flat stc []) (H' := [_, _]) lay26 lay82 rfl rfl ⟨by decide, by decide⟩ rfl rfl ?_
  refine v_nil ⟨⟨ag_load_vw (.c (.v _)) lay2 rfl rfl rfl, ⟨ag_load_vw (.c (_)) lay26 rfl rfl rfl, trivial⟩⟩, ?_⟩
  refine d_e rfl rfl rfl ?_
  refine v_app_flat_sl (H' := [_, _, _]) stc_sc stc_len lay26 lay82 rfl rfl (by simp) rfl rfl rfl (by unfold maxLen; simp only []; omega) rfl rfl ?_
  refine v_nil ⟨⟨ag_load_vw (.c (.v _)) lay2 rfl rfl rfl, ⟨trivial, trivial⟩⟩, ?_⟩
  refine d_q rfl rfl rfl rfl rfl ?_
  refine v_build [(0, 1), (1, 1), (2, 1)] [_, .v _, .v _] lay28 rfl rfl ?_
  refine v_nil ?_
  refine d_e rfl rfl rfl ?_
  refine v_store (H' := [⟨[_, _, _], 28, true⟩, _, _]) lay28 rfl rfl rfl rfl rfl rfl ?_
  refine v_nil ⟨again_nil, ?_⟩
  refine d_nil ?_
  refine q_n ?_
  refine w_ret ?_
  refine r_r rfl ?_
  exact l_ans [some 2] rfl rfl ⟨⟨_, rfl, trc_flat stc_sc (by simp)⟩, trivial⟩ (tr_agg (.cons (tr_mun rfl (by simp)) (.cons tr_v (.cons tr_v .nil))))
theorem c7l (xs : List Slo) (b f by' : Int) (hx : xs.length ≤ 2 ^ 40) : LiveC X 7 [.agg (pln false xs b f), cI by'] (.tup [.agg [.mu 0 0 (shR xs b f by').1.1.length 9, .v (.int .i64 (shR xs b f by').1.2.1), .v (.int .i64 (shR xs b f by').1.2.2)], cI (shR xs b f by').2]) [⟨flat stc (shR xs b f by').1.1, 82, true⟩] := by
  refine LiveC.of_body (drawD_ok X) (fun _ _ => Go.Proofs.Try.call7 _ _) Go.Proofs.Try.func7 rfl (n := 26) rfl ?_
  refine w_seq ?_
  refine w_reg rfl ?_
  refine v_box (m := 0) (H' := [_]) lay28 rfl rfl rfl ?_
  refine v_alloc (m := 1) (H' := [_, ⟨[.v _, .v _, .v _], 28, true⟩]) lay28 rfl rfl ?_
  refine v_assign (c := .v (.int .i64 0)) rfl ?_
  refine v_nil ?_
  refine q_n ?_
  refine w_seq ?_
  refine w_seq ?_
  refine w_reg rfl ?_
  refine v_callb (c31 _ _ _ hx) rfl rfl (.cons (vw_pt rfl (.cons (.sl (fun h => by cases h)) (.cons .v (.cons .v .nil)))) .nil) (fun h1 => ?_) (fun h1 => ?_)
  rotate_left
  · refine v_not true rfl rfl ?_
    refine v_nil ?_
    refine q_n ?_
    refine w_t rfl ?_
    refine w_seq ?_
    refine w_reg rfl ?_
    refine v_build [(0, 1), (1, 1), (2, 1)] [.v _, .v _, .v _] lay28 rfl rfl ?_
    refine v_store (H' := [_, ⟨[_, _, _], 28, true⟩]) lay28 rfl rfl rfl rfl rfl rfl ?_
    refine v_assign (c := .v (.int .i64 1)) rfl ?_
    refine v_nil ?_
    refine q_n ?_
    refine w_ret (q_r ?_)
    refine r_r rfl ?_
    unfold shR
    rw [if_neg h1]
    exact l_ans [none] rfl rfl ⟨rfl, trivial⟩ (a_tup (.cons (tr_agg (.cons (tr_nil rfl) (.cons tr_v (.cons tr_v .nil)))) (.cons tr_v .nil)))
  refine v_not false rfl rfl ?_
  refine v_nil ?_
  refine q_n ?_
  refine w_f rfl ?_
  refine w_skip ?_
  refine q_n ?_
  refine w_seq ?_
  refine w_seq ?_
  refine w_reg rfl ?_
  refine v_move rfl ?_
  refine v_callb (cIn _ _ _) rfl rfl (.cons vw_v (.cons vw_v (.cons vw_v .nil))) (fun h2 => ?_) (fun h2 => ?_)
  rotate_left
  · refine v_not true rfl rfl ?_
    refine v_nil ?_
    refine q_n ?_
    refine w_t rfl ?_
    refine w_seq ?_
    refine w_reg rfl ?_
    refine v_build [(0, 1), (1, 1), (2, 1)] [.v _, .v _, .v _] lay28 rfl rfl ?_
    refine v_store (H' := [_, ⟨[_, _, _], 28, true⟩]) lay28 rfl rfl rfl rfl rfl rfl ?_
    refine v_assign (c := .v (.int .i64 2)) rfl ?_
    refine v_nil ?_
    refine q_n ?_
    refine w_ret (q_r ?_)
    refine r_r rfl ?_
    unfold shR
    rw [if_pos h1, if_neg h2]
    exact l_ans [none] rfl rfl ⟨rfl, trivial⟩ (a_tup (.cons (tr_agg (.cons (tr_nil rfl) (.cons tr_v (.cons tr_v .nil)))) (.cons tr_v .nil)))
  refine v_not false rfl rfl ?_
  refine v_nil ?_
  refine q_n ?_
  refine w_f rfl ?_
  refine w_skip ?_
  refine q_n ?_
  refine w_seq ?_
  refine w_reg rfl ?_
  refine v_call (c33 _ _ _ hx) rfl rfl rfl (.cons (vw_pt rfl (.cons (.sl (fun h => by cases h)) (.cons .v (.cons .v .nil)))) .nil) ?_
  refine v_assign rfl ?_
  refine v_nil ?_
  refine q_n ?_
  refine w_seq ?_
  refine w_reg rfl ?_
  refine v_fa_pt (off' := 2) lay28 rfl rfl rfl ?_
  refine v_load_pt (.c _) lay2 rfl rfl rfl rfl ?_
  refine v_move rfl ?_
  refine v_add lay2 rfl rfl (i64r (by first | omega | (have h8 := h1.2; have h9 := h1.2.1; omega))) ?_
  refine v_move rfl ?_
  have hcy := okP_cyc h1
  rw [← cyS_cyc h1] at hcy
  have hT := tmod_in (a := f + by') hcy.1
  obtain ⟨-, hk3, hk4⟩ := id h1
  refine v_rem lay2 rfl rfl (by omega) ?_
  refine v_move rfl ?_
  refine v_add lay2 rfl rfl (i64r (by first | omega | (have h8 := h1.2; have h9 := h1.2.1; omega))) ?_
  refine v_move rfl ?_
  refine v_rem lay2 rfl rfl (by omega) ?_
  refine v_live1 (N := 2) (H' := [_, _, _]) (c34l _ _ _ _ (by omega)) (sc_flat stc_sc _) rfl rfl rfl rfl rfl rfl (.cons (vw_pt rfl (.cons (.sl (fun h => by cases h)) (.cons .v (.cons .v .nil)))) (.cons vw_v .nil)) ?_
  refine v_store (H' := [_, ⟨[_, _, _], 28, true⟩, _]) lay28 rfl rfl rfl rfl rfl rfl ?_
  refine v_assign (c := .v (.int .i64 0)) rfl ?_
  refine v_nil ?_
  refine q_n ?_
  refine w_ret ?_
  refine r_r rfl ?_
  rw [sh_ok h1 h2]
  unfold turnR
  rw [← cyS_cyc h1]
  exact l_ans [some 2] rfl rfl ⟨⟨_, rfl, trc_flat stc_sc rfl⟩, trivial⟩ (a_tup (.cons (tr_agg (.cons (tr_mu rfl) (.cons tr_v (.cons tr_v .nil)))) (.cons tr_v .nil)))
theorem c7 (xs : List Slo) (b f by' : Int) (hx : xs.length ≤ 2 ^ 40) : PureC X 7 [.agg (pln false xs b f), cI by'] (shW (shR xs b f by')) := (c7l xs b f by' hx).pure (sh_frz _)
end Go.VL
namespace Go.VL
open Go.RowKit
set_option maxRecDepth 20000
set_option maxHeartbeats 8000000
instance : DecidableEq Ph := fun g h => decidable_of_iff (∀ i : Fin 8, g i = h i) ⟨funext, fun e i => by rw [e]⟩
def zS : Slo := (fun _ => false, 0)
def zg : Ph := fun _ => false
theorem pl_ld (g : Ph) {i : Nat} (h : i < 8) (h' : i < (pl g).length) : mkV false (sub (bo ((pl g)[i]'h')) 0 1) = some (.c (.v (.bool (g ⟨i, h⟩)))) := by
  rw [pl_get g h]
  rfl
def smark (a : Int) (i : Nat) : Slo := (fun j => decide ((a + 9 * i + j.val).tmod 3 = 0), a + 9 * i + 8)
theorem st_put (s : Slo) {j : Nat} (hj : j < 8) (b : Bool) : stc (putG s.1 j b, s.2) = setCells (stc s) (0 + j * 1) [.v (.bool b)] := by
  rw [show 0 + j * 1 = j by omega]
  exact (phc_set s.1 [.v (.int .i64 s.2)] hj b).symm
theorem st_tick (g : Ph) (x : Int) (s : Slo) (h : s.1 = g) : stc (g, x) = setCells (stc s) 8 [.v (.int .i64 x)] := by
  subst h
  rfl
theorem st_get (s : Slo) {j : Nat} (hj : j < 8) : mkV false (reowns false (sub (stc s) (0 + j * 1) 1)) = some (.c (.v (.bool (s.1 ⟨j, hj⟩)))) := by
  rw [show 0 + j * 1 = j by omega]
  have e : sub (stc s) j 1 = [.v (.bool (s.1 ⟨j, hj⟩))] := phc_sub s.1 [.v (.int .i64 s.2)] hj
  rw [e]
  rfl
theorem mix_put2 (g h : Ph) {i : Nat} (hi : i < 8) {b : Bool} (e : g ⟨i, hi⟩ = b) : putG (mixG i g h) i b = mixG (i + 1) g h := by
  rw [← e, mix_put]
theorem sm_bit (a : Int) (i : Nat) {j : Nat} (hj : j < 8) : (smark a i).1 ⟨j, hj⟩ = decide ((a + 9 * i + j).tmod 3 = 0) := rfl
theorem sm_get {a : Int} {n i : Nat} (h : i < ((List.range n).map (smark a)).length) : ((List.range n).map (smark a))[i] = smark a i := mk_at h
theorem marks_at {α : Type} {f : Nat → α} {i : Nat} {xs : List α} (h : i < xs.length) (h' : i < (marks f i xs).length) : (marks f i xs)[i] = xs[i] := by
  have e : (marks f i xs)[i]? = some xs[i] := by
    unfold marks
    rw [List.getElem?_append_right (by simp)]
    simp [h]
  exact Option.some.inj ((List.getElem?_eq_getElem h').symm.trans e)
/-- In the midst of a slot. -/
def mid (a : Int) (i j : Nat) (xs : List Slo) (s : Slo) : List Slo := (marks (smark a) i xs).set i (mixG j (smark a i).1 s.1, s.2)
theorem mid_len {a : Int} {i j : Nat} {xs : List Slo} {s : Slo} (h : i < xs.length) : (mid a i j xs s).length = xs.length := by unfold mid; rw [List.length_set, marks_len (by omega)]
theorem mid_get {a : Int} {i j : Nat} {xs : List Slo} {s : Slo} (h : i < (mid a i j xs s).length) : (mid a i j xs s)[i] = (mixG j (smark a i).1 s.1, s.2) := List.getElem_set_self h
theorem mid_0 {a : Int} {i : Nat} {xs : List Slo} (h : i < xs.length) : mid a i 0 xs xs[i] = marks (smark a) i xs := by
  unfold mid
  rw [mix_0]
  have h' : i < (marks (smark a) i xs).length := by rw [marks_len (by omega)]; exact h
  have e : ((xs[i].1, xs[i].2) : Slo) = (marks (smark a) i xs)[i] := by rw [marks_at h h']
  rw [e, List.set_getElem_self]
theorem mid_step {a : Int} {i j : Nat} {xs : List Slo} {s : Slo} (hj : j < 8) {b : Bool} (e : (smark a i).1 ⟨j, hj⟩ = b) : (mid a i j xs s).set i (putG (mixG j (smark a i).1 s.1) j b, s.2) = mid a i (j + 1) xs s := by
  unfold mid
  rw [List.set_set, mix_put2 _ _ hj e]
theorem mid_end {a : Int} {i : Nat} {xs : List Slo} {s : Slo} (h : i < xs.length) {x : Int} (hx : x = a + 9 * i + 8) : (mid a i 8 xs s).set i ((smark a i).1, x) = marks (smark a) (i + 1) xs := by
  unfold mid
  rw [List.set_set, hx]
  exact marks_step (f := smark a) h
theorem slo_ext (a b : Slo) : a = b ↔ a.1 = b.1 ∧ a.2 = b.2 := Prod.ext_iff
theorem c78 (g : Ph) : PureC X 78 [.agg (phc g)] (.agg (phc g)) := by
  refine PureC.of_body (drawD_ok X) (fun _ _ => Go.Proofs.Try.call78 _ _) Go.Proofs.Try.func78 rfl (n := 15) rfl ?_
  refine w_seq ?_
  refine w_reg rfl ?_
  refine v_box (m := 0) (H' := [_]) lay79 rfl rfl rfl ?_
  refine v_alloc (m := 1) (H' := [_, ⟨[.v _, .v _, .v _, .v _, .v _, .v _, .v _, .v _], 80, true⟩]) lay80 rfl rfl ?_
  refine v_nil ?_
  refine q_n ?_
  refine w_seq ?_
  refine w_reg rfl ?_
  refine v_alloc (m := 2) (H' := [_, _, ⟨[.v _, .v _, .v _, .v _, .v _, .v _, .v _, .v _], 80, true⟩]) lay80 rfl rfl ?_
  refine v_nil ?_
  refine q_n ?_
  refine w_seq ?_
  refine w_seq ?_
  refine w_reg rfl ?_
  refine v_assign (c := .v (.int .i64 0)) rfl ?_
  refine v_nil ?_
  refine q_n ?_
  refine w_block ?_
  refine w_loop (fun k sl H => ∃ i : Nat, k = 8 - i ∧ i ≤ 8 ∧ sl = sls [(1, .c (.pt 0 0)), (2, .c (.pt 1 0)), (3, .c (.pt 2 0)), (4, cI i)] ∧ H = [⟨flat bo (pl g), 79, true⟩, ⟨flat bo (pl zg), 80, true⟩, ⟨flat bo (pl (mixG i g zg)), 80, true⟩]) ?_ ?_
  · refine ⟨_, _, _, ?_, 0, rfl, Nat.zero_le _, rfl, rfl⟩
    exact turn [some 0, some 1, some 2] rfl rfl rfl ⟨⟨_, rfl, trc_flat bo_sc rfl⟩, ⟨_, rfl, trc_flat bo_sc rfl⟩, ⟨_, rfl, trc_flat bo_sc (by rw [mix_0]; rfl)⟩, trivial⟩ ⟨tr_pt rfl, tr_pt rfl, tr_pt rfl, tr_v, trivial⟩
  rintro k sl H ⟨i, rfl, hi, rfl, rfl⟩
  refine w_seq ?_
  refine w_seq ?_
  refine w_reg rfl ?_
  refine v_move rfl ?_
  refine v_lss lay3 rfl rfl (fun h1 => ?_) (fun h1 => ?_)
  rotate_left
  · refine v_nil ?_
    refine q_n ?_
    refine w_f rfl ?_
    refine w_exit ?_
    refine q_e ?_
    refine q_e ?_
    refine q_hit ?_
    refine q_n ?_
    refine w_seq ?_
    refine w_reg rfl ?_
    refine v_load_pt (.agg [_, _, _, _, _, _, _, _]) lay80 rfl rfl rfl rfl ?_
    refine v_store (H' := [_, ⟨[_, _, _, _, _, _, _, _], 80, true⟩, _]) lay80 rfl rfl rfl rfl rfl rfl ?_
    refine v_nil ?_
    refine q_n ?_
    refine w_ret ?_
    refine r_r rfl ?_
    obtain rfl : i = 8 := by omega
    exact a_agg (.cons tr_v (.cons tr_v (.cons tr_v (.cons tr_v (.cons tr_v (.cons tr_v (.cons tr_v (.cons tr_v .nil))))))))
  have hi1 : i < 8 := by omega
  refine v_nil ?_
  refine q_n ?_
  refine w_t rfl ?_
  refine w_skip ?_
  refine q_n ?_
  refine w_seq ?_
  refine w_block ?_
  refine w_reg rfl ?_
  refine v_move rfl ?_
  refine v_move rfl ?_
  refine v_idx_arr_e (k := 1) (i) lay79 lay4 rfl rfl rfl (rfl) (hi1) ?_
  refine v_load_flat_e (enc := bo) (ys := pl g) i 0 (.c (.v (.bool (g ⟨i, hi1⟩)))) bo_len lay4 rfl rfl (by omega) hi1 (by decide) (pl_ld g hi1 _) ?_
  refine v_idx_arr_e (k := 1) (i) lay80 lay4 rfl rfl rfl (rfl) (hi1) ?_
  refine v_store_flat (H' := [_, _, _]) i 0 (g ⟨i, hi1⟩) bo_len lay4 rfl rfl rfl (by omega) (by rw [pl_len]; exact hi1) rfl rfl (rfl) rfl ?_
  refine v_nil ?_
  refine q_bn ?_
  refine q_n ?_
  refine w_reg rfl ?_
  refine v_move rfl ?_
  refine v_add lay3 rfl rfl (i64r (by omega)) ?_
  refine v_assign rfl ?_
  refine v_nil ?_
  refine q_n ?_
  refine ⟨_, _, _, ?_, ⟨i + 1, rfl, by omega, rfl, rfl⟩, by omega⟩
  exact turn [some 0, some 1, some 2] rfl rfl rfl ⟨⟨_, rfl, trc_flat bo_sc rfl⟩, ⟨_, rfl, trc_flat bo_sc rfl⟩, ⟨_, rfl, trc_flat bo_sc (congrArg (flat bo) ((pl_set _ hi1 _).trans (congrArg pl (mix_put _ _ hi1))))⟩, trivial⟩ ⟨tr_pt rfl, tr_pt rfl, tr_pt rfl, tr_v, trivial⟩
theorem c59 (s : Slo) : PureC X 59 [.agg (stc s)] (.agg (stc s)) := by
  refine PureC.of_body (drawD_ok X) (fun _ _ => Go.Proofs.Try.call59 _ _) Go.Proofs.Try.func59 rfl (n := 12) rfl ?_
  refine w_seq ?_
  refine w_reg rfl ?_
  refine v_box (m := 0) (H' := [_]) lay92 rfl rfl rfl ?_
  refine v_alloc (m := 1) (H' := [_, ⟨[.v _, .v _, .v _, .v _, .v _, .v _, .v _, .v _, .v _], 82, true⟩]) lay82 rfl rfl ?_
  refine v_nil ?_
  refine q_n ?_
  refine w_seq ?_
  refine w_reg rfl ?_
  refine v_alloc (m := 2) (H' := [_, _, ⟨[.v _, .v _, .v _, .v _, .v _, .v _, .v _, .v _, .v _], 82, true⟩]) lay82 rfl rfl ?_
  refine v_nil ?_
  refine q_n ?_
  refine w_seq ?_
  refine w_reg rfl ?_
  refine v_fa_pt (off' := 0) lay92 rfl rfl rfl ?_
  refine v_load_pt (.agg [_, _, _, _, _, _, _, _]) lay79 rfl rfl rfl rfl ?_
  refine v_call (c78 _) rfl rfl rfl (.cons (vw_agg (.cons vw_v (.cons vw_v (.cons vw_v (.cons vw_v (.cons vw_v (.cons vw_v (.cons vw_v (.cons vw_v .nil))))))))) .nil) ?_
  refine v_fa_pt (off' := 0) lay82 rfl rfl rfl ?_
  refine v_store (H' := [_, _, ⟨[_, _, _, _, _, _, _, _, _], 82, true⟩]) lay80 rfl rfl rfl rfl rfl rfl ?_
  refine v_nil ?_
  refine q_n ?_
  refine w_seq ?_
  refine w_reg rfl ?_
  refine v_fa_pt (off' := 8) lay92 rfl rfl rfl ?_
  refine v_load_pt (.c _) lay2 rfl rfl rfl rfl ?_
  refine v_fa_pt (off' := 8) lay82 rfl rfl rfl ?_
  refine v_store (H' := [_, _, ⟨[_, _, _, _, _, _, _, _, _], 82, true⟩]) lay2 rfl rfl rfl rfl rfl rfl ?_
  refine v_nil ?_
  refine q_n ?_
  refine w_seq ?_
  refine w_reg rfl ?_
  refine v_load_pt (.agg [_, _, _, _, _, _, _, _, _]) lay82 rfl rfl rfl rfl ?_
  refine v_store (H' := [_, ⟨[_, _, _, _, _, _, _, _, _], 82, true⟩, _]) lay82 rfl rfl rfl rfl rfl rfl ?_
  refine v_nil ?_
  refine q_n ?_
  refine w_ret ?_
  refine r_r rfl ?_
  exact a_agg (.cons tr_v (.cons tr_v (.cons tr_v (.cons tr_v (.cons tr_v (.cons tr_v (.cons tr_v (.cons tr_v (.cons tr_v .nil)))))))))
theorem c35l (xs : List Slo) (hx : xs.length ≤ 2 ^ 40) : LiveC X 35 [.c (.sl false xs.length 9 (flat stc xs))] (.c (.mu 0 0 xs.length 9)) [⟨flat stc xs, 82, true⟩] := by
  refine LiveC.of_body (drawD_ok X) (fun _ _ => Go.Proofs.Try.call35 _ _) Go.Proofs.Try.func35 rfl (n := 23) rfl ?_
  refine w_seq ?_
  refine w_reg rfl ?_
  refine v_assign rfl ?_
  refine v_nil ?_
  refine q_n ?_
  refine w_seq ?_
  refine w_reg rfl ?_
  refine v_move rfl ?_
  refine v_len_sl lay22 rfl ?_
  refine v_make (enc := stc) (a0 := zS) (m := 0) (H' := [_]) rfl lay26 lay82 rfl rfl rfl rfl (xs.length) (rfl) (by unfold maxLen; simp only []; omega) rfl rfl ?_
  refine v_assign rfl ?_
  refine v_nil ?_
  refine q_n ?_
  refine w_seq ?_
  refine w_seq ?_
  refine w_reg rfl ?_
  refine v_assign (c := .v (.int .i64 0)) rfl ?_
  refine v_nil ?_
  refine q_n ?_
  refine w_block ?_
  refine w_loop (fun k sl H => ∃ i : Nat, k = xs.length - i ∧ i ≤ xs.length ∧ sl = sls [(0, .c (.sl false xs.length 9 (flat stc xs))), (3, .c (.mu 0 0 xs.length 9)), (4, cI i)] ∧ H = [⟨flat stc (xs.take i ++ List.replicate (xs.length - i) zS), 82, true⟩]) ?_ ?_
  · refine ⟨_, _, _, ?_, 0, rfl, Nat.zero_le _, rfl, rfl⟩
    exact turn [some 0] rfl rfl rfl ⟨⟨_, rfl, .stay (stays_flat stc_sc _)⟩, trivial⟩ ⟨tr_sl, tr_mu rfl, tr_v, trivial⟩
  rintro k sl H ⟨i, rfl, hi, rfl, rfl⟩
  refine w_seq ?_
  refine w_seq ?_
  refine w_reg rfl ?_
  refine v_move rfl ?_
  refine v_move rfl ?_
  refine v_len_sl lay22 rfl ?_
  refine v_lss lay3 rfl rfl (fun h1 => ?_) (fun h1 => ?_)
  rotate_left
  · refine v_nil ?_
    refine q_n ?_
    refine w_f rfl ?_
    refine w_exit ?_
    refine q_e ?_
    refine q_e ?_
    refine q_hit ?_
    refine q_n ?_
    refine w_seq ?_
    refine w_reg rfl ?_
    refine v_move rfl ?_
    refine v_assign rfl ?_
    refine v_nil ?_
    refine q_n ?_
    refine w_ret ?_
    refine r_r rfl ?_
    obtain rfl : i = xs.length := by omega
    exact l_ans [some 0] rfl rfl ⟨⟨_, rfl, trc_flat stc_sc (by simp)⟩, trivial⟩ (tr_mu rfl)
  have hi1 : i < xs.length := by omega
  refine v_nil ?_
  refine q_n ?_
  refine w_t rfl ?_
  refine w_skip ?_
  refine q_n ?_
  refine w_seq ?_
  refine w_block ?_
  refine w_reg rfl ?_
  refine v_move rfl ?_
  refine v_move rfl ?_
  refine v_move rfl ?_
  refine v_move rfl ?_
  refine v_idx_e (k := 9) (i) stc_len lay22 lay92 rfl rfl rfl (rfl) rfl (rfl) ((by omega : i < xs.length)) ?_
  refine v_load_vw (.agg [.v _, .v _, .v _, .v _, .v _, .v _, .v _, .v _, .v _]) lay92 rfl rfl rfl ?_
  refine v_call (c59 _) rfl rfl rfl (.cons (vw_agg (.cons vw_v (.cons vw_v (.cons vw_v (.cons vw_v (.cons vw_v (.cons vw_v (.cons vw_v (.cons vw_v (.cons vw_v .nil)))))))))) .nil) ?_
  refine v_idx_mu_e (k := 9) (off := 0) (i) lay26 lay82 rfl rfl rfl (rfl) ((by omega : i < xs.length)) ?_
  refine v_store_flat (H' := [_]) i 0 (xs[i]) stc_len lay82 rfl rfl rfl (by omega) (by simp; omega) rfl rfl (rfl) rfl ?_
  refine v_nil ?_
  refine q_bn ?_
  refine q_n ?_
  refine w_reg rfl ?_
  refine v_move rfl ?_
  refine v_add lay3 rfl rfl (i64r (by omega)) ?_
  refine v_assign rfl ?_
  refine v_nil ?_
  refine q_n ?_
  refine ⟨_, _, _, ?_, ⟨i + 1, rfl, by omega, rfl, rfl⟩, by omega⟩
  exact turn [some 0] rfl rfl rfl ⟨⟨_, rfl, by rw [fill_step hi1]; exact .stay (stays_flat stc_sc _)⟩, trivial⟩ ⟨tr_sl, tr_mu rfl, tr_v, trivial⟩
theorem c35 (xs : List Slo) (hx : xs.length ≤ 2 ^ 40) : PureC X 35 [.c (.sl false xs.length 9 (flat stc xs))] (.c (.sl true xs.length 9 (flat stc xs))) := by
  refine PureC.of_body (drawD_ok X) (fun _ _ => Go.Proofs.Try.call35 _ _) Go.Proofs.Try.func35 rfl (n := 23) rfl ?_
  refine w_seq ?_
  refine w_reg rfl ?_
  refine v_assign rfl ?_
  refine v_nil ?_
  refine q_n ?_
  refine w_seq ?_
  refine w_reg rfl ?_
  refine v_move rfl ?_
  refine v_len_sl lay22 rfl ?_
  refine v_make (enc := stc) (a0 := zS) (m := 0) (H' := [_]) rfl lay26 lay82 rfl rfl rfl rfl (xs.length) (rfl) (by unfold maxLen; simp only []; omega) rfl rfl ?_
  refine v_assign rfl ?_
  refine v_nil ?_
  refine q_n ?_
  refine w_seq ?_
  refine w_seq ?_
  refine w_reg rfl ?_
  refine v_assign (c := .v (.int .i64 0)) rfl ?_
  refine v_nil ?_
  refine q_n ?_
  refine w_block ?_
  refine w_loop (fun k sl H => ∃ i : Nat, k = xs.length - i ∧ i ≤ xs.length ∧ sl = sls [(0, .c (.sl false xs.length 9 (flat stc xs))), (3, .c (.mu 0 0 xs.length 9)), (4, cI i)] ∧ H = [⟨flat stc (xs.take i ++ List.replicate (xs.length - i) zS), 82, true⟩]) ?_ ?_
  · refine ⟨_, _, _, ?_, 0, rfl, Nat.zero_le _, rfl, rfl⟩
    exact turn [some 0] rfl rfl rfl ⟨⟨_, rfl, .stay (stays_flat stc_sc _)⟩, trivial⟩ ⟨tr_sl, tr_mu rfl, tr_v, trivial⟩
  rintro k sl H ⟨i, rfl, hi, rfl, rfl⟩
  refine w_seq ?_
  refine w_seq ?_
  refine w_reg rfl ?_
  refine v_move rfl ?_
  refine v_move rfl ?_
  refine v_len_sl lay22 rfl ?_
  refine v_lss lay3 rfl rfl (fun h1 => ?_) (fun h1 => ?_)
  rotate_left
  · refine v_nil ?_
    refine q_n ?_
    refine w_f rfl ?_
    refine w_exit ?_
    refine q_e ?_
    refine q_e ?_
    refine q_hit ?_
    refine q_n ?_
    refine w_seq ?_
    refine w_reg rfl ?_
    refine v_move rfl ?_
    refine v_assign rfl ?_
    refine v_nil ?_
    refine q_n ?_
    refine w_ret ?_
    refine r_r rfl ?_
    obtain rfl : i = xs.length := by omega
    exact a_flat (t := 82) stc_sc stc_len (by simp) rfl
  have hi1 : i < xs.length := by omega
  refine v_nil ?_
  refine q_n ?_
  refine w_t rfl ?_
  refine w_skip ?_
  refine q_n ?_
  refine w_seq ?_
  refine w_block ?_
  refine w_reg rfl ?_
  refine v_move rfl ?_
  refine v_move rfl ?_
  refine v_move rfl ?_
  refine v_move rfl ?_
  refine v_idx_e (k := 9) (i) stc_len lay22 lay92 rfl rfl rfl (rfl) rfl (rfl) ((by omega : i < xs.length)) ?_
  refine v_load_vw (.agg [.v _, .v _, .v _, .v _, .v _, .v _, .v _, .v _, .v _]) lay92 rfl rfl rfl ?_
  refine v_call (c59 _) rfl rfl rfl (.cons (vw_agg (.cons vw_v (.cons vw_v (.cons vw_v (.cons vw_v (.cons vw_v (.cons vw_v (.cons vw_v (.cons vw_v (.cons vw_v .nil)))))))))) .nil) ?_
  refine v_idx_mu_e (k := 9) (off := 0) (i) lay26 lay82 rfl rfl rfl (rfl) ((by omega : i < xs.length)) ?_
  refine v_store_flat (H' := [_]) i 0 (xs[i]) stc_len lay82 rfl rfl rfl (by omega) (by simp; omega) rfl rfl (rfl) rfl ?_
  refine v_nil ?_
  refine q_bn ?_
  refine q_n ?_
  refine w_reg rfl ?_
  refine v_move rfl ?_
  refine v_add lay3 rfl rfl (i64r (by omega)) ?_
  refine v_assign rfl ?_
  refine v_nil ?_
  refine q_n ?_
  refine ⟨_, _, _, ?_, ⟨i + 1, rfl, by omega, rfl, rfl⟩, by omega⟩
  exact turn [some 0] rfl rfl rfl ⟨⟨_, rfl, by rw [fill_step hi1]; exact .stay (stays_flat stc_sc _)⟩, trivial⟩ ⟨tr_sl, tr_mu rfl, tr_v, trivial⟩
theorem c8l (xs : List Slo) (b f : Int) (hx : xs.length ≤ 2 ^ 40) : LiveC X 8 [.agg (pln false xs b f)] (.agg [.mu 0 0 xs.length 9, .v (.int .i64 b), .v (.int .i64 f)]) [⟨flat stc xs, 82, true⟩] := by
  refine LiveC.of_body (drawD_ok X) (fun _ _ => Go.Proofs.Try.call8 _ _) Go.Proofs.Try.func8 rfl (n := 15) rfl ?_
  refine w_seq ?_
  refine w_reg rfl ?_
  refine v_box (m := 0) (H' := [_]) lay24 rfl rfl rfl ?_
  refine v_alloc (m := 1) (H' := [_, ⟨[.v _, .v _, .v _], 28, true⟩]) lay28 rfl rfl ?_
  refine v_nil ?_
  refine q_n ?_
  refine w_seq ?_
  refine w_reg rfl ?_
  refine v_alloc (m := 2) (H' := [_, _, ⟨[.v _, .v _, .v _], 28, true⟩]) lay28 rfl rfl ?_
  refine v_nil ?_
  refine q_n ?_
  refine w_seq ?_
  refine w_reg rfl ?_
  refine v_fa_pt (off' := 0) lay24 rfl rfl rfl ?_
  refine v_load_pt (.c _) lay22 rfl rfl rfl rfl ?_
  refine v_live1 (N := 3) (H' := [_, _, _, _]) (c35l _ (by omega)) (sc_flat stc_sc _) rfl rfl rfl rfl rfl rfl (.cons vw_sl .nil) ?_
  refine v_fa_pt (off' := 0) lay28 rfl rfl rfl ?_
  refine v_store (H' := [_, _, ⟨[_, _, _], 28, true⟩, _]) lay26 rfl rfl rfl rfl rfl rfl ?_
  refine v_nil ?_
  refine q_n ?_
  refine w_seq ?_
  refine w_reg rfl ?_
  refine v_fa_pt (off' := 1) lay24 rfl rfl rfl ?_
  refine v_load_pt (.c _) lay2 rfl rfl rfl rfl ?_
  refine v_fa_pt (off' := 1) lay28 rfl rfl rfl ?_
  refine v_store (H' := [_, _, ⟨[_, _, _], 28, true⟩, _]) lay2 rfl rfl rfl rfl rfl rfl ?_
  refine v_nil ?_
  refine q_n ?_
  refine w_seq ?_
  refine w_reg rfl ?_
  refine v_fa_pt (off' := 2) lay24 rfl rfl rfl ?_
  refine v_load_pt (.c _) lay2 rfl rfl rfl rfl ?_
  refine v_fa_pt (off' := 2) lay28 rfl rfl rfl ?_
  refine v_store (H' := [_, _, ⟨[_, _, _], 28, true⟩, _]) lay2 rfl rfl rfl rfl rfl rfl ?_
  refine v_nil ?_
  refine q_n ?_
  refine w_seq ?_
  refine w_reg rfl ?_
  refine v_load_pt (.agg [_, _, _]) lay28 rfl rfl rfl rfl ?_
  refine v_store (H' := [_, ⟨[_, _, _], 28, true⟩, _, _]) lay28 rfl rfl rfl rfl rfl rfl ?_
  refine v_nil ?_
  refine q_n ?_
  refine w_ret ?_
  refine r_r rfl ?_
  exact l_ans [some 3] rfl rfl ⟨⟨_, rfl, trc_flat stc_sc rfl⟩, trivial⟩ (tr_agg (.cons (tr_mu rfl) (.cons tr_v (.cons tr_v .nil))))
theorem c8 (xs : List Slo) (b f : Int) (hx : xs.length ≤ 2 ^ 40) : PureC X 8 [.agg (pln false xs b f)] (.agg (pln true xs b f)) := by
  refine PureC.of_body (drawD_ok X) (fun _ _ => Go.Proofs.Try.call8 _ _) Go.Proofs.Try.func8 rfl (n := 15) rfl ?_
  refine w_seq ?_
  refine w_reg rfl ?_
  refine v_box (m := 0) (H' := [_]) lay24 rfl rfl rfl ?_
  refine v_alloc (m := 1) (H' := [_, ⟨[.v _, .v _, .v _], 28, true⟩]) lay28 rfl rfl ?_
  refine v_nil ?_
  refine q_n ?_
  refine w_seq ?_
  refine w_reg rfl ?_
  refine v_alloc (m := 2) (H' := [_, _, ⟨[.v _, .v _, .v _], 28, true⟩]) lay28 rfl rfl ?_
  refine v_nil ?_
  refine q_n ?_
  refine w_seq ?_
  refine w_reg rfl ?_
  refine v_fa_pt (off' := 0) lay24 rfl rfl rfl ?_
  refine v_load_pt (.c _) lay22 rfl rfl rfl rfl ?_
  refine v_call (c35 _ (by omega)) rfl rfl rfl (.cons vw_sl .nil) ?_
  refine v_fa_pt (off' := 0) lay28 rfl rfl rfl ?_
  refine v_store (H' := [_, _, ⟨[_, _, _], 28, true⟩]) lay26 rfl rfl rfl rfl rfl rfl ?_
  refine v_nil ?_
  refine q_n ?_
  refine w_seq ?_
  refine w_reg rfl ?_
  refine v_fa_pt (off' := 1) lay24 rfl rfl rfl ?_
  refine v_load_pt (.c _) lay2 rfl rfl rfl rfl ?_
  refine v_fa_pt (off' := 1) lay28 rfl rfl rfl ?_
  refine v_store (H' := [_, _, ⟨[_, _, _], 28, true⟩]) lay2 rfl rfl rfl rfl rfl rfl ?_
  refine v_nil ?_
  refine q_n ?_
  refine w_seq ?_
  refine w_reg rfl ?_
  refine v_fa_pt (off' := 2) lay24 rfl rfl rfl ?_
  refine v_load_pt (.c _) lay2 rfl rfl rfl rfl ?_
  refine v_fa_pt (off' := 2) lay28 rfl rfl rfl ?_
  refine v_store (H' := [_, _, ⟨[_, _, _], 28, true⟩]) lay2 rfl rfl rfl rfl rfl rfl ?_
  refine v_nil ?_
  refine q_n ?_
  refine w_seq ?_
  refine w_reg rfl ?_
  refine v_load_pt (.agg [_, _, _]) lay28 rfl rfl rfl rfl ?_
  refine v_store (H' := [_, ⟨[_, _, _], 28, true⟩, _]) lay28 rfl rfl rfl rfl rfl rfl ?_
  refine v_nil ?_
  refine q_n ?_
  refine w_ret ?_
  refine r_r rfl ?_
  exact a_agg (.cons tr_sl (.cons tr_v (.cons tr_v .nil)))
theorem c30 (xs : List Slo) (l : Int) (hl : 0 ≤ l ∧ l ≤ 2 ^ 20) (hx : xs.length ≤ maxLen) : PureC X 30 [.c (.sl false xs.length 9 (flat stc xs)), cI l] (cI (szr xs.length l)) := by
  refine PureC.of_body (drawD_ok X) (fun _ _ => Go.Proofs.Try.call30 _ _) Go.Proofs.Try.func30 rfl (n := 12) rfl ?_
  refine w_seq ?_
  refine w_reg rfl ?_
  refine v_assign (c := .v (.int .i64 0)) rfl ?_
  refine v_nil ?_
  refine q_n ?_
  refine w_seq ?_
  refine w_reg rfl ?_
  refine v_move rfl ?_
  refine v_move rfl ?_
  refine v_len_sl lay22 rfl ?_
  refine v_sub lay3 rfl rfl (i64r (by unfold maxLen at hx; omega)) ?_
  refine v_assign rfl ?_
  refine v_nil ?_
  refine q_n ?_
  refine w_seq ?_
  refine w_seq ?_
  refine w_reg rfl ?_
  refine v_move rfl ?_
  refine v_lss lay3 rfl rfl (fun h1 => ?_) (fun h1 => ?_)
  · refine v_nil ?_
    refine q_n ?_
    refine w_t rfl ?_
    refine w_seq ?_
    refine w_reg rfl ?_
    refine v_assign (c := .v (.int .i64 (-1))) rfl ?_
    refine v_nil ?_
    refine q_n ?_
    refine w_ret (q_r ?_)
    refine r_r rfl ?_
    exact a_i (by unfold szr; rw [if_pos h1])
  refine v_nil ?_
  refine q_n ?_
  refine w_f rfl ?_
  refine w_skip ?_
  refine q_n ?_
  refine w_seq ?_
  refine w_reg rfl ?_
  refine v_move rfl ?_
  refine v_assign rfl ?_
  refine v_nil ?_
  refine q_n ?_
  refine w_ret ?_
  refine r_r rfl ?_
  exact a_i (by unfold szr; rw [if_neg h1])
theorem c6 (xs : List Slo) (b f : Int) (l : Int) (hl : 0 ≤ l ∧ l ≤ 2 ^ 20) (hx : xs.length ≤ maxLen) : PureC X 6 [.agg (pln false xs b f), cI l] (cI (szr xs.length l)) := by
  refine PureC.of_body (drawD_ok X) (fun _ _ => Go.Proofs.Try.call6 _ _) Go.Proofs.Try.func6 rfl (n := 12) rfl ?_
  refine w_seq ?_
  refine w_reg rfl ?_
  refine v_box (m := 0) (H' := [_]) lay24 rfl rfl rfl ?_
  refine v_assign (c := .v (.int .i64 0)) rfl ?_
  refine v_nil ?_
  refine q_n ?_
  refine w_seq ?_
  refine w_reg rfl ?_
  refine v_fa_pt (off' := 0) lay24 rfl rfl rfl ?_
  refine v_load_pt (.c _) lay22 rfl rfl rfl rfl ?_
  refine v_move rfl ?_
  refine v_call (c30 _ _ (by omega) (by assumption)) rfl rfl rfl (.cons vw_sl (.cons vw_v .nil)) ?_
  refine v_assign rfl ?_
  refine v_nil ?_
  refine q_n ?_
  refine w_seq ?_
  refine w_seq ?_
  refine w_reg rfl ?_
  refine v_move rfl ?_
  refine v_lss lay3 rfl rfl (fun h1 => ?_) (fun h1 => ?_)
  rotate_left
  · refine v_nil ?_
    refine q_n ?_
    refine w_f rfl ?_
    refine w_skip ?_
    refine q_n ?_
    refine w_seq ?_
    refine w_reg rfl ?_
    refine v_move rfl ?_
    refine v_assign rfl ?_
    refine v_nil ?_
    refine q_n ?_
    refine w_ret ?_
    refine r_r rfl ?_
    exact a_i rfl
  refine v_nil ?_
  refine q_n ?_
  refine w_t rfl ?_
  refine w_seq ?_
  refine w_reg rfl ?_
  refine v_assign (c := .v (.int .i64 (-1))) rfl ?_
  refine v_nil ?_
  refine q_n ?_
  refine w_ret (q_r ?_)
  refine r_r rfl ?_
  exact a_i (by unfold szr at *; split at h1 <;> omega)
theorem c79 (g g' : Ph) : PureC X 79 [.agg (phc g), .agg (phc g')] (cB (decide (g = g'))) := by
  refine PureC.of_body (drawD_ok X) (fun _ _ => Go.Proofs.Try.call79 _ _) Go.Proofs.Try.func79 rfl (n := 17) rfl ?_
  refine w_seq ?_
  refine w_reg rfl ?_
  refine v_box (m := 0) (H' := [_]) lay80 rfl rfl rfl ?_
  refine v_box (m := 1) (H' := [_, _]) lay80 rfl rfl rfl ?_
  refine v_assign (c := .v (.bool false)) rfl ?_
  refine v_nil ?_
  refine q_n ?_
  refine w_seq ?_
  refine w_seq ?_
  refine w_reg rfl ?_
  refine v_assign (c := .v (.int .i64 0)) rfl ?_
  refine v_nil ?_
  refine q_n ?_
  refine w_block ?_
  refine w_loop (fun k sl H => ∃ i : Nat, k = 8 - i ∧ i ≤ 8 ∧ (∀ j (hj : j < 8), j < i → g ⟨j, hj⟩ = g' ⟨j, hj⟩) ∧ sl = sls [(2, .c (.pt 0 0)), (3, .c (.pt 1 0)), (5, cI i)] ∧ H = [⟨flat bo (pl g), 80, true⟩, ⟨flat bo (pl g'), 80, true⟩]) ?_ ?_
  · refine ⟨_, _, _, ?_, 0, rfl, Nat.zero_le _, fun j hj h => by omega, rfl, rfl⟩
    exact turn [some 0, some 1] rfl rfl rfl ⟨⟨_, rfl, trc_flat bo_sc rfl⟩, ⟨_, rfl, trc_flat bo_sc rfl⟩, trivial⟩ ⟨tr_pt rfl, tr_pt rfl, tr_v, trivial⟩
  rintro k sl H ⟨i, rfl, hi, hp, rfl, rfl⟩
  refine w_seq ?_
  refine w_seq ?_
  refine w_reg rfl ?_
  refine v_move rfl ?_
  refine v_lss lay3 rfl rfl (fun h1 => ?_) (fun h1 => ?_)
  rotate_left
  · refine v_nil ?_
    refine q_n ?_
    refine w_f rfl ?_
    refine w_exit ?_
    refine q_e ?_
    refine q_e ?_
    refine q_hit ?_
    refine q_n ?_
    refine w_seq ?_
    refine w_reg rfl ?_
    refine v_assign (c := .v (.bool true)) rfl ?_
    refine v_nil ?_
    refine q_n ?_
    refine w_ret ?_
    refine r_r rfl ?_
    exact a_b (by simp only [true_iff]; exact ph_ext.2 fun j hj => hp j hj (by omega))
  have hi1 : i < 8 := by omega
  refine v_nil ?_
  refine q_n ?_
  refine w_t rfl ?_
  refine w_skip ?_
  refine q_n ?_
  refine w_seq ?_
  refine w_block ?_
  refine w_seq ?_
  refine w_draw [0, 1, 3, 0, 8, 24, 63] [⟨0, 0, []⟩, ⟨1, 0, []⟩, ⟨2, 0, []⟩, ⟨3, 0, []⟩, ⟨4, 0, []⟩, ⟨5, 0, []⟩, ⟨6, 0, []⟩] rfl rfl ?_
  refine d_q rfl rfl rfl rfl rfl ?_
  refine v_move rfl ?_
  refine v_nil ?_
  refine d_q rfl rfl rfl rfl rfl ?_
  refine v_idx_arr_e (k := 1) (i) lay80 lay4 rfl rfl rfl (rfl) (hi1) ?_
  refine v_nil ?_
  refine d_q rfl rfl rfl rfl rfl ?_
  refine v_load_flat_e (enc := bo) (ys := pl g) i 0 (.c (.v (.bool (g ⟨i, hi1⟩)))) bo_len lay4 rfl rfl (by omega) hi1 (by decide) (pl_ld g hi1 _) ?_
  refine v_nil ?_
  refine d_q rfl rfl rfl rfl rfl ?_
  refine v_move rfl ?_
  refine v_nil ?_
  refine d_q rfl rfl rfl rfl rfl ?_
  refine v_idx_arr_e (k := 1) (i) lay80 lay4 rfl rfl rfl (rfl) (hi1) ?_
  refine v_nil ?_
  refine d_q rfl rfl rfl rfl rfl ?_
  refine v_load_flat_e (enc := bo) (ys := pl g') i 0 (.c (.v (.bool (g' ⟨i, hi1⟩)))) bo_len lay4 rfl rfl (by omega) hi1 (by decide) (pl_ld g' hi1 _) ?_
  refine v_nil ?_
  refine d_q rfl rfl rfl rfl rfl ?_
  refine v_binb lay4 rfl rfl rfl (fun h2 => ?_) (fun h2 => ?_)
  · refine v_nil ?_
    refine d_nil ?_
    refine q_n ?_
    refine w_t rfl ?_
    refine w_seq ?_
    refine w_reg rfl ?_
    refine v_assign (c := .v (.bool false)) rfl ?_
    refine v_nil ?_
    refine q_n ?_
    refine w_ret (q_br (q_r (q_r (q_br (q_r ?_)))))
    refine r_r rfl ?_
    exact a_b (by simp only [Bool.false_eq_true, false_iff]; rintro rfl; simp at h2)
  refine v_nil ?_
  refine d_nil ?_
  refine q_n ?_
  refine w_f rfl ?_
  refine w_skip ?_
  refine q_bn ?_
  refine q_n ?_
  refine w_reg rfl ?_
  refine v_move rfl ?_
  refine v_add lay3 rfl rfl (i64r (by omega)) ?_
  refine v_assign rfl ?_
  refine v_nil ?_
  refine q_n ?_
  refine ⟨_, _, _, ?_, ⟨i + 1, rfl, by omega, fun j hj h => ?_, rfl, rfl⟩, by omega⟩
  · exact turn [some 0, some 1] rfl rfl rfl ⟨⟨_, rfl, trc_flat bo_sc rfl⟩, ⟨_, rfl, trc_flat bo_sc rfl⟩, trivial⟩ ⟨tr_pt rfl, tr_pt rfl, tr_v, trivial⟩
  · rcases Nat.lt_or_eq_of_le (Nat.le_of_lt_succ h) with h | rfl
    · exact hp j hj h
    · simpa using h2
theorem c63 (a b : Slo) : PureC X 63 [.agg (stc a), .agg (stc b)] (cB (decide (a = b))) := by
  refine PureC.of_body (drawD_ok X) (fun _ _ => Go.Proofs.Try.call63 _ _) Go.Proofs.Try.func63 rfl (n := 16) rfl ?_
  refine w_seq ?_
  refine w_reg rfl ?_
  refine v_box (m := 0) (H' := [_]) lay82 rfl rfl rfl ?_
  refine v_box (m := 1) (H' := [_, _]) lay82 rfl rfl rfl ?_
  refine v_assign (c := .v (.bool false)) rfl ?_
  refine v_nil ?_
  refine q_n ?_
  refine w_seq ?_
  refine w_seq ?_
  refine w_reg rfl ?_
  refine v_fa_pt (off' := 0) lay82 rfl rfl rfl ?_
  refine v_load_pt (.agg [_, _, _, _, _, _, _, _]) lay80 rfl rfl rfl rfl ?_
  refine v_fa_pt (off' := 0) lay82 rfl rfl rfl ?_
  refine v_load_pt (.agg [_, _, _, _, _, _, _, _]) lay80 rfl rfl rfl rfl ?_
  refine v_callb (c79 _ _) rfl rfl (.cons (vw_agg (.cons vw_v (.cons vw_v (.cons vw_v (.cons vw_v (.cons vw_v (.cons vw_v (.cons vw_v (.cons vw_v .nil))))))))) (.cons (vw_agg (.cons vw_v (.cons vw_v (.cons vw_v (.cons vw_v (.cons vw_v (.cons vw_v (.cons vw_v (.cons vw_v .nil))))))))) .nil)) (fun h1 => ?_) (fun h1 => ?_)
  rotate_left
  · refine v_not true rfl rfl ?_
    refine v_nil ?_
    refine q_n ?_
    refine w_t rfl ?_
    refine w_seq ?_
    refine w_reg rfl ?_
    refine v_assign (c := .v (.bool false)) rfl ?_
    refine v_nil ?_
    refine q_n ?_
    refine w_ret (q_r ?_)
    refine r_r rfl ?_
    exact a_b (by rw [slo_ext]; simp_all)
  refine v_not false rfl rfl ?_
  refine v_nil ?_
  refine q_n ?_
  refine w_f rfl ?_
  refine w_skip ?_
  refine q_n ?_
  refine w_seq ?_
  refine w_seq ?_
  refine w_reg rfl ?_
  refine v_fa_pt (off' := 8) lay82 rfl rfl rfl ?_
  refine v_load_pt (.c _) lay2 rfl rfl rfl rfl ?_
  refine v_fa_pt (off' := 8) lay82 rfl rfl rfl ?_
  refine v_load_pt (.c _) lay2 rfl rfl rfl rfl ?_
  refine v_neq lay2 rfl rfl (fun h2 => ?_) (fun h2 => ?_)
  · refine v_nil ?_
    refine q_n ?_
    refine w_t rfl ?_
    refine w_seq ?_
    refine w_reg rfl ?_
    refine v_assign (c := .v (.bool false)) rfl ?_
    refine v_nil ?_
    refine q_n ?_
    refine w_ret (q_r ?_)
    refine r_r rfl ?_
    exact a_b (by rw [slo_ext]; simp_all)
  refine v_nil ?_
  refine q_n ?_
  refine w_f rfl ?_
  refine w_skip ?_
  refine q_n ?_
  refine w_seq ?_
  refine w_reg rfl ?_
  refine v_assign (c := .v (.bool true)) rfl ?_
  refine v_nil ?_
  refine q_n ?_
  refine w_ret ?_
  refine r_r rfl ?_
  exact a_b (by rw [slo_ext]; simp_all)
theorem c41 (xs ys : List Slo) (hx : xs.length ≤ 2 ^ 40) : PureC X 41 [.c (.sl false xs.length 9 (flat stc xs)), .c (.sl false ys.length 9 (flat stc ys))] (cB (decide (xs = ys))) := by
  refine PureC.of_body (drawD_ok X) (fun _ _ => Go.Proofs.Try.call41 _ _) Go.Proofs.Try.func41 rfl (n := 27) rfl ?_
  refine w_seq ?_
  refine w_reg rfl ?_
  refine v_assign (c := .v (.bool false)) rfl ?_
  refine v_nil ?_
  refine q_n ?_
  refine w_seq ?_
  refine w_seq ?_
  refine w_reg rfl ?_
  refine v_move rfl ?_
  refine v_len_sl lay26 rfl ?_
  refine v_move rfl ?_
  refine v_len_sl lay26 rfl ?_
  refine v_neq lay3 rfl rfl (fun h1 => ?_) (fun h1 => ?_)
  · refine v_nil ?_
    refine q_n ?_
    refine w_t rfl ?_
    refine w_seq ?_
    refine w_reg rfl ?_
    refine v_assign (c := .v (.bool false)) rfl ?_
    refine v_nil ?_
    refine q_n ?_
    refine w_ret (q_r ?_)
    refine r_r rfl ?_
    exact a_b (by simp only [Bool.false_eq_true, false_iff]; rintro rfl; exact h1 rfl)
  refine v_nil ?_
  refine q_n ?_
  refine w_f rfl ?_
  refine w_skip ?_
  refine q_n ?_
  refine w_seq ?_
  refine w_seq ?_
  refine w_reg rfl ?_
  refine v_assign (c := .v (.int .i64 0)) rfl ?_
  refine v_nil ?_
  refine q_n ?_
  refine w_block ?_
  refine w_loop (fun k sl H => ∃ i : Nat, k = xs.length - i ∧ i ≤ xs.length ∧ xs.take i = ys.take i ∧ sl = sls [(0, .c (.sl false xs.length 9 (flat stc xs))), (1, .c (.sl false ys.length 9 (flat stc ys))), (5, cI i)] ∧ H = []) ?_ ?_
  · refine ⟨_, _, _, ?_, 0, rfl, Nat.zero_le _, rfl, rfl, rfl⟩
    exact turn0 ⟨tr_sl, tr_sl, tr_v, trivial⟩
  rintro k sl H ⟨i, rfl, hi, hp, rfl, rfl⟩
  refine w_seq ?_
  refine w_seq ?_
  refine w_reg rfl ?_
  refine v_move rfl ?_
  refine v_move rfl ?_
  refine v_len_sl lay26 rfl ?_
  refine v_lss lay3 rfl rfl (fun h2 => ?_) (fun h2 => ?_)
  rotate_left
  · refine v_nil ?_
    refine q_n ?_
    refine w_f rfl ?_
    refine w_exit ?_
    refine q_e ?_
    refine q_e ?_
    refine q_hit ?_
    refine q_n ?_
    refine w_seq ?_
    refine w_reg rfl ?_
    refine v_assign (c := .v (.bool true)) rfl ?_
    refine v_nil ?_
    refine q_n ?_
    refine w_ret ?_
    refine r_r rfl ?_
    exact a_b (by simp only [true_iff]; exact take_all_eq hp (by omega) (by omega))
  have i1 : i < xs.length := by omega
  have i2 : i < ys.length := by omega
  refine v_nil ?_
  refine q_n ?_
  refine w_t rfl ?_
  refine w_skip ?_
  refine q_n ?_
  refine w_seq ?_
  refine w_block ?_
  refine w_seq ?_
  refine w_draw [0, 0, 3, 7, 0, 0, 48, 112, 255, 511] [⟨0, 0, []⟩, ⟨1, 0, []⟩, ⟨2, 0, []⟩, ⟨3, 0, []⟩, ⟨4, 0, []⟩, ⟨5, 0, []⟩, ⟨6, 0, []⟩, ⟨7, 0, []⟩, ⟨8, 0, []⟩, ⟨9, 0, []⟩] rfl rfl ?_
  refine d_q rfl rfl rfl rfl rfl ?_
  refine v_move rfl ?_
  refine v_nil ?_
  refine d_q rfl rfl rfl rfl rfl ?_
  refine v_move rfl ?_
  refine v_nil ?_
  refine d_q rfl rfl rfl rfl rfl ?_
  refine v_idx_e (k := 9) (i) stc_len lay26 lay82 rfl rfl rfl (rfl) rfl (rfl) ((by omega : i < xs.length)) ?_
  refine v_nil ?_
  refine d_q rfl rfl rfl rfl rfl ?_
  refine v_load_vw (.agg [.v _, .v _, .v _, .v _, .v _, .v _, .v _, .v _, .v _]) lay82 rfl rfl rfl ?_
  refine v_nil ?_
  refine d_q rfl rfl rfl rfl rfl ?_
  refine v_move rfl ?_
  refine v_nil ?_
  refine d_q rfl rfl rfl rfl rfl ?_
  refine v_move rfl ?_
  refine v_nil ?_
  refine d_q rfl rfl rfl rfl rfl ?_
  refine v_idx_e (k := 9) (i) stc_len lay26 lay82 rfl rfl rfl (rfl) rfl (rfl) ((by omega : i < ys.length)) ?_
  refine v_nil ?_
  refine d_q rfl rfl rfl rfl rfl ?_
  refine v_load_vw (.agg [.v _, .v _, .v _, .v _, .v _, .v _, .v _, .v _, .v _]) lay82 rfl rfl rfl ?_
  refine v_nil ?_
  refine d_callb (c63 _ _) rfl rfl rfl rfl (.cons (vw_agg (.cons vw_v (.cons vw_v (.cons vw_v (.cons vw_v (.cons vw_v (.cons vw_v (.cons vw_v (.cons vw_v (.cons vw_v .nil)))))))))) (.cons (vw_agg (.cons vw_v (.cons vw_v (.cons vw_v (.cons vw_v (.cons vw_v (.cons vw_v (.cons vw_v (.cons vw_v (.cons vw_v .nil)))))))))) .nil)) (fun h5 => ?_) (fun h5 => ?_)
  rotate_left
  · refine d_q rfl rfl rfl rfl rfl ?_
    refine v_not true rfl rfl ?_
    refine v_nil ?_
    refine d_nil ?_
    refine q_n ?_
    refine w_t rfl ?_
    refine w_seq ?_
    refine w_reg rfl ?_
    refine v_assign (c := .v (.bool false)) rfl ?_
    refine v_nil ?_
    refine q_n ?_
    refine w_ret (q_br (q_r (q_r (q_br (q_r ?_)))))
    refine r_r rfl ?_
    exact a_b (by simp only [Bool.false_eq_true, false_iff]; exact ne_at i1 i2 h5)
  refine d_q rfl rfl rfl rfl rfl ?_
  refine v_not false rfl rfl ?_
  refine v_nil ?_
  refine d_nil ?_
  refine q_n ?_
  refine w_f rfl ?_
  refine w_skip ?_
  refine q_bn ?_
  refine q_n ?_
  refine w_reg rfl ?_
  refine v_move rfl ?_
  refine v_add lay3 rfl rfl (i64r (by omega)) ?_
  refine v_assign rfl ?_
  refine v_nil ?_
  refine q_n ?_
  refine ⟨_, _, _, ?_, ⟨i + 1, rfl, by omega, take_step_eq hp i1 i2 h5, rfl, rfl⟩, by omega⟩
  exact turn0 ⟨tr_sl, tr_sl, tr_v, trivial⟩
theorem c10 (xs ys : List Slo) (b f b' f' : Int) (hx : xs.length ≤ 2 ^ 40) : PureC X 10 [.agg (pln false xs b f), .agg (pln false ys b' f')] (cB (decide (xs = ys ∧ b = b' ∧ f = f'))) := by
  refine PureC.of_body (drawD_ok X) (fun _ _ => Go.Proofs.Try.call10 _ _) Go.Proofs.Try.func10 rfl (n := 21) rfl ?_
  refine w_seq ?_
  refine w_reg rfl ?_
  refine v_box (m := 0) (H' := [_]) lay28 rfl rfl rfl ?_
  refine v_box (m := 1) (H' := [_, _]) lay28 rfl rfl rfl ?_
  refine v_assign (c := .v (.bool false)) rfl ?_
  refine v_nil ?_
  refine q_n ?_
  refine w_seq ?_
  refine w_seq ?_
  refine w_reg rfl ?_
  refine v_fa_pt (off' := 0) lay28 rfl rfl rfl ?_
  refine v_load_pt (.c _) lay26 rfl rfl rfl rfl ?_
  refine v_fa_pt (off' := 0) lay28 rfl rfl rfl ?_
  refine v_load_pt (.c _) lay26 rfl rfl rfl rfl ?_
  refine v_callb (c41 _ _ (by omega)) rfl rfl (.cons vw_sl (.cons vw_sl .nil)) (fun h1 => ?_) (fun h1 => ?_)
  rotate_left
  · refine v_not true rfl rfl ?_
    refine v_nil ?_
    refine q_n ?_
    refine w_t rfl ?_
    refine w_seq ?_
    refine w_reg rfl ?_
    refine v_assign (c := .v (.bool false)) rfl ?_
    refine v_nil ?_
    refine q_n ?_
    refine w_ret (q_r ?_)
    refine r_r rfl ?_
    exact a_b (by simp_all)
  refine v_not false rfl rfl ?_
  refine v_nil ?_
  refine q_n ?_
  refine w_f rfl ?_
  refine w_skip ?_
  refine q_n ?_
  refine w_seq ?_
  refine w_seq ?_
  refine w_reg rfl ?_
  refine v_fa_pt (off' := 1) lay28 rfl rfl rfl ?_
  refine v_load_pt (.c _) lay2 rfl rfl rfl rfl ?_
  refine v_fa_pt (off' := 1) lay28 rfl rfl rfl ?_
  refine v_load_pt (.c _) lay2 rfl rfl rfl rfl ?_
  refine v_neq lay2 rfl rfl (fun h2 => ?_) (fun h2 => ?_)
  · refine v_nil ?_
    refine q_n ?_
    refine w_t rfl ?_
    refine w_seq ?_
    refine w_reg rfl ?_
    refine v_assign (c := .v (.bool false)) rfl ?_
    refine v_nil ?_
    refine q_n ?_
    refine w_ret (q_r ?_)
    refine r_r rfl ?_
    exact a_b (by simp_all)
  refine v_nil ?_
  refine q_n ?_
  refine w_f rfl ?_
  refine w_skip ?_
  refine q_n ?_
  refine w_seq ?_
  refine w_seq ?_
  refine w_reg rfl ?_
  refine v_fa_pt (off' := 2) lay28 rfl rfl rfl ?_
  refine v_load_pt (.c _) lay2 rfl rfl rfl rfl ?_
  refine v_fa_pt (off' := 2) lay28 rfl rfl rfl ?_
  refine v_load_pt (.c _) lay2 rfl rfl rfl rfl ?_
  refine v_neq lay2 rfl rfl (fun h3 => ?_) (fun h3 => ?_)
  · refine v_nil ?_
    refine q_n ?_
    refine w_t rfl ?_
    refine w_seq ?_
    refine w_reg rfl ?_
    refine v_assign (c := .v (.bool false)) rfl ?_
    refine v_nil ?_
    refine q_n ?_
    refine w_ret (q_r ?_)
    refine r_r rfl ?_
    exact a_b (by simp_all)
  refine v_nil ?_
  refine q_n ?_
  refine w_f rfl ?_
  refine w_skip ?_
  refine q_n ?_
  refine w_seq ?_
  refine w_reg rfl ?_
  refine v_assign (c := .v (.bool true)) rfl ?_
  refine v_nil ?_
  refine q_n ?_
  refine w_ret ?_
  refine r_r rfl ?_
  exact a_b (by simp_all)
theorem c42 (xs : List Slo) (a : Int) (hx : xs.length ≤ 2 ^ 40) (ha : 0 ≤ a ∧ a ≤ 2 ^ 50) : MarkC X 42 xs.length 9 82 (flat stc xs) (.int .i64 a) (.int .i64 (a + 9 * xs.length)) (flat stc ((List.range xs.length).map (smark a))) := by
  refine MarkC.of_body (drawD_ok X) (fun _ _ => Go.Proofs.Try.call42 _ _) Go.Proofs.Try.func42 rfl (sc_flat stc_sc _) (q := 36) rfl ?_
  refine w_seq ?_
  refine w_reg rfl ?_
  refine v_assign (c := .v (.int .i64 0)) rfl ?_
  refine v_nil ?_
  refine q_n ?_
  refine w_seq ?_
  refine w_seq ?_
  refine w_reg rfl ?_
  refine v_assign (c := .v (.int .i64 0)) rfl ?_
  refine v_nil ?_
  refine q_n ?_
  refine w_block ?_
  refine w_loop (fun k sl H => ∃ i : Nat, k = xs.length - i ∧ i ≤ xs.length ∧ sl = sls [(0, .c (.mu 0 0 xs.length 9)), (1, cI (a + 9 * i)), (5, cI i)] ∧ H = [⟨flat stc (marks (smark a) i xs), 82, true⟩]) ?_ ?_
  · refine ⟨_, _, _, ?_, 0, rfl, Nat.zero_le _, rfl, rfl⟩
    exact turn [some 0] rfl rfl rfl ⟨⟨_, rfl, trc_flat stc_sc rfl⟩, trivial⟩ ⟨tr_mu rfl, tr_i (by simp), tr_v, trivial⟩
  rintro k sl H ⟨i, rfl, hi, rfl, rfl⟩
  refine w_seq ?_
  refine w_seq ?_
  refine w_reg rfl ?_
  refine v_move rfl ?_
  refine v_move rfl ?_
  refine v_len_mu lay26 rfl ?_
  refine v_lss lay3 rfl rfl (fun h1 => ?_) (fun h1 => ?_)
  rotate_left
  · refine v_nil ?_
    refine q_n ?_
    refine w_f rfl ?_
    refine w_exit ?_
    refine q_e ?_
    refine q_e ?_
    refine q_hit ?_
    refine q_n ?_
    refine w_seq ?_
    refine w_reg rfl ?_
    refine v_move rfl ?_
    refine v_assign rfl ?_
    refine v_nil ?_
    refine q_n ?_
    refine w_ret ?_
    refine r_r rfl ?_
    obtain rfl : i = xs.length := by omega
    exact ⟨rfl, [], by rw [← marks_all]⟩
  have hi1 : i < xs.length := by omega
  refine v_nil ?_
  refine q_n ?_
  refine w_t rfl ?_
  refine w_skip ?_
  refine q_n ?_
  refine w_seq ?_
  refine w_block ?_
  refine w_seq ?_
  refine w_seq ?_
  refine w_reg rfl ?_
  refine v_assign (c := .v (.int .i64 0)) rfl ?_
  refine v_nil ?_
  refine q_n ?_
  refine w_block ?_
  refine w_loop (fun k sl H => ∃ j : Nat, k = 8 - j ∧ j ≤ 8 ∧ sl = sls [(0, .c (.mu 0 0 xs.length 9)), (1, cI (a + 9 * i + j)), (5, cI i), (6, cI j)] ∧ H = [⟨flat stc (mid a i j xs xs[i]), 82, true⟩]) ?_ ?_
  · refine ⟨_, _, _, ?_, 0, rfl, Nat.zero_le _, rfl, rfl⟩
    exact turn [some 0] rfl rfl rfl ⟨⟨_, rfl, trc_flat stc_sc (congrArg (flat stc) (mid_0 hi1).symm)⟩, trivial⟩ ⟨tr_mu rfl, tr_i (by simp), tr_v, tr_v, trivial⟩
  rintro k sl H ⟨j, rfl, hj, rfl, rfl⟩
  refine w_seq ?_
  refine w_seq ?_
  refine w_reg rfl ?_
  refine v_move rfl ?_
  refine v_lss lay3 rfl rfl (fun h2 => ?_) (fun h2 => ?_)
  rotate_left
  · refine v_nil ?_
    refine q_n ?_
    refine w_f rfl ?_
    refine w_exit ?_
    refine q_e ?_
    refine q_e ?_
    refine q_hit ?_
    refine q_n ?_
    refine w_seq ?_
    refine w_reg rfl ?_
    refine v_move rfl ?_
    refine v_move rfl ?_
    refine v_move rfl ?_
    refine v_idx_mu_e (k := 9) (off := 0) (i) lay26 lay82 rfl rfl rfl (rfl) (hi1) ?_
    refine v_fa_pt (off' := _) lay82 rfl rfl rfl ?_
    refine v_store_flat (H' := [_]) i 8 (((smark a i).1, a + 9 * i + j)) stc_len lay2 rfl rfl rfl (by omega) (by rw [mid_len hi1]; exact hi1) rfl rfl (by rw [mid_get]; exact st_tick _ _ _ (by obtain rfl : j = 8 := (by omega); exact mix_8 _ _)) rfl ?_
    refine v_nil ?_
    refine q_n ?_
    refine w_reg rfl ?_
    refine v_move rfl ?_
    refine v_add lay3 rfl rfl (i64r (by omega)) ?_
    refine v_assign rfl ?_
    refine v_nil ?_
    refine q_bn ?_
    refine q_n ?_
    refine w_reg rfl ?_
    refine v_move rfl ?_
    refine v_add lay3 rfl rfl (i64r (by omega)) ?_
    refine v_assign rfl ?_
    refine v_nil ?_
    refine q_n ?_
    obtain rfl : j = 8 := by omega
    refine ⟨_, _, _, ?_, ⟨i + 1, rfl, by omega, rfl, rfl⟩, by omega⟩
    exact turn [some 0] rfl rfl rfl ⟨⟨_, rfl, trc_flat stc_sc (congrArg (flat stc) (mid_end hi1 (by omega)))⟩, trivial⟩ ⟨tr_mu rfl, tr_i (by push_cast; omega), tr_v, trivial⟩
  have hj1 : j < 8 := by omega
  refine v_nil ?_
  refine q_n ?_
  refine w_t rfl ?_
  refine w_skip ?_
  refine q_n ?_
  refine w_seq ?_
  refine w_block ?_
  refine w_seq ?_
  refine w_reg rfl ?_
  refine v_move rfl ?_
  refine v_move rfl ?_
  refine v_move rfl ?_
  refine v_move rfl ?_
  refine v_rem lay3 rfl rfl (by decide) ?_
  refine v_eql lay3 rfl rfl (fun h3 => ?_) (fun h3 => ?_)
  · have hrm := h3
    refine v_idx_mu_e (k := 9) (off := 0) (i) lay26 lay82 rfl rfl rfl (rfl) (hi1) ?_
    refine v_fa_pt (off' := _) lay82 rfl rfl rfl ?_
    refine v_idx_arr_e (k := 1) (j) lay80 lay4 rfl rfl rfl (rfl) (hj1) ?_
    refine v_store_flat_e (H' := [_]) (i) (0 + j * 1) ((putG (mixG j (smark a i).1 (xs[i]).1) j true, (xs[i]).2)) stc_len lay4 rfl rfl rfl (by omega) (by rw [mid_len hi1]; exact hi1) rfl (by show 0 + j * 1 + 1 ≤ 9; omega) (by rw [mid_get]; exact st_put (mixG j (smark a i).1 (xs[i]).1, (xs[i]).2) hj1 _) rfl ?_
    refine v_nil ?_
    refine q_n ?_
    refine w_reg rfl ?_
    refine v_move rfl ?_
    refine v_add lay3 rfl rfl (i64r (by omega)) ?_
    refine v_assign rfl ?_
    refine v_nil ?_
    refine q_bn ?_
    refine q_n ?_
    refine w_reg rfl ?_
    refine v_move rfl ?_
    refine v_add lay3 rfl rfl (i64r (by omega)) ?_
    refine v_assign rfl ?_
    refine v_nil ?_
    refine q_n ?_
    refine ⟨_, _, _, ?_, ⟨j + 1, rfl, by omega, rfl, rfl⟩, by omega⟩
    exact turn [some 0] rfl rfl rfl ⟨⟨_, rfl, trc_flat stc_sc (congrArg (flat stc) (mid_step hj1 (by rw [sm_bit]; simp [hrm])))⟩, trivial⟩ ⟨tr_mu rfl, tr_i (by push_cast; omega), tr_v, tr_v, trivial⟩
  have hrm := h3
  refine v_idx_mu_e (k := 9) (off := 0) (i) lay26 lay82 rfl rfl rfl (rfl) (hi1) ?_
  refine v_fa_pt (off' := _) lay82 rfl rfl rfl ?_
  refine v_idx_arr_e (k := 1) (j) lay80 lay4 rfl rfl rfl (rfl) (hj1) ?_
  refine v_store_flat_e (H' := [_]) (i) (0 + j * 1) ((putG (mixG j (smark a i).1 (xs[i]).1) j false, (xs[i]).2)) stc_len lay4 rfl rfl rfl (by omega) (by rw [mid_len hi1]; exact hi1) rfl (by show 0 + j * 1 + 1 ≤ 9; omega) (by rw [mid_get]; exact st_put (mixG j (smark a i).1 (xs[i]).1, (xs[i]).2) hj1 _) rfl ?_
  refine v_nil ?_
  refine q_n ?_
  refine w_reg rfl ?_
  refine v_move rfl ?_
  refine v_add lay3 rfl rfl (i64r (by omega)) ?_
  refine v_assign rfl ?_
  refine v_nil ?_
  refine q_bn ?_
  refine q_n ?_
  refine w_reg rfl ?_
  refine v_move rfl ?_
  refine v_add lay3 rfl rfl (i64r (by omega)) ?_
  refine v_assign rfl ?_
  refine v_nil ?_
  refine q_n ?_
  refine ⟨_, _, _, ?_, ⟨j + 1, rfl, by omega, rfl, rfl⟩, by omega⟩
  exact turn [some 0] rfl rfl rfl ⟨⟨_, rfl, trc_flat stc_sc (congrArg (flat stc) (mid_step hj1 (by rw [sm_bit]; simp [hrm])))⟩, trivial⟩ ⟨tr_mu rfl, tr_i (by push_cast; omega), tr_v, tr_v, trivial⟩
theorem c43 (n : Nat) (a : Int) (hx : n ≤ 2 ^ 40) (ha : 0 ≤ a ∧ a ≤ 2 ^ 50) : PureC X 43 [.c (.sl false n 9 (flat stc ((List.range n).map (smark a)))), cI a] (cI (a + 9 * n)) := by
  refine PureC.of_body (drawD_ok X) (fun _ _ => Go.Proofs.Try.call43 _ _) Go.Proofs.Try.func43 rfl (n := 40) rfl ?_
  refine w_seq ?_
  refine w_reg rfl ?_
  refine v_assign (c := .v (.int .i64 0)) rfl ?_
  refine v_nil ?_
  refine q_n ?_
  refine w_seq ?_
  refine w_seq ?_
  refine w_reg rfl ?_
  refine v_assign (c := .v (.int .i64 0)) rfl ?_
  refine v_nil ?_
  refine q_n ?_
  refine w_block ?_
  refine w_loop (fun k sl H => ∃ i : Nat, k = n - i ∧ i ≤ n ∧ sl = sls [(0, .c (.sl false n 9 (flat stc ((List.range n).map (smark a))))), (1, cI (a + 9 * i)), (5, cI i)] ∧ H = []) ?_ ?_
  · refine ⟨_, _, _, ?_, 0, rfl, Nat.zero_le _, rfl, rfl⟩
    exact turn0 ⟨tr_sl, tr_i (by simp), tr_v, trivial⟩
  rintro k sl H ⟨i, rfl, hi, rfl, rfl⟩
  refine w_seq ?_
  refine w_seq ?_
  refine w_reg rfl ?_
  refine v_move rfl ?_
  refine v_move rfl ?_
  refine v_len_sl lay26 rfl ?_
  refine v_lss lay3 rfl rfl (fun h1 => ?_) (fun h1 => ?_)
  rotate_left
  · refine v_nil ?_
    refine q_n ?_
    refine w_f rfl ?_
    refine w_exit ?_
    refine q_e ?_
    refine q_e ?_
    refine q_hit ?_
    refine q_n ?_
    refine w_seq ?_
    refine w_reg rfl ?_
    refine v_move rfl ?_
    refine v_assign rfl ?_
    refine v_nil ?_
    refine q_n ?_
    refine w_ret ?_
    refine r_r rfl ?_
    obtain rfl : i = n := by omega
    exact a_i rfl
  have hi1 : i < n := by omega
  have hi2 : i < ((List.range n).map (smark a)).length := by simpa using hi1
  refine v_nil ?_
  refine q_n ?_
  refine w_t rfl ?_
  refine w_skip ?_
  refine q_n ?_
  refine w_seq ?_
  refine w_block ?_
  refine w_seq ?_
  refine w_seq ?_
  refine w_reg rfl ?_
  refine v_assign (c := .v (.int .i64 0)) rfl ?_
  refine v_nil ?_
  refine q_n ?_
  refine w_block ?_
  refine w_loop (fun k sl H => ∃ j : Nat, k = 8 - j ∧ j ≤ 8 ∧ sl = sls [(0, .c (.sl false n 9 (flat stc ((List.range n).map (smark a))))), (1, cI (a + 9 * i + j)), (5, cI i), (6, cI j)] ∧ H = []) ?_ ?_
  · refine ⟨_, _, _, ?_, 0, rfl, Nat.zero_le _, rfl, rfl⟩
    exact turn0 ⟨tr_sl, tr_i (by simp), tr_v, tr_v, trivial⟩
  rintro k sl H ⟨j, rfl, hj, rfl, rfl⟩
  refine w_seq ?_
  refine w_seq ?_
  refine w_reg rfl ?_
  refine v_move rfl ?_
  refine v_lss lay3 rfl rfl (fun h2 => ?_) (fun h2 => ?_)
  rotate_left
  · refine v_nil ?_
    refine q_n ?_
    refine w_f rfl ?_
    refine w_exit ?_
    refine q_e ?_
    refine q_e ?_
    refine q_hit ?_
    refine q_n ?_
    refine w_seq ?_
    refine w_seq ?_
    refine w_reg rfl ?_
    refine v_move rfl ?_
    refine v_move rfl ?_
    refine v_idx_e (k := 9) (i) stc_len lay26 lay82 rfl rfl rfl (by simp) rfl (rfl) (hi2) ?_
    refine v_fa_vw (off' := 8) lay82 rfl rfl rfl ?_
    refine v_load_vw (.c (.v _)) lay2 rfl rfl rfl ?_
    refine v_move rfl ?_
    refine v_neq lay2 rfl rfl (fun h8 => ?_) (fun h8 => ?_)
    · exact absurd (by rw [sm_get hi2]; obtain rfl : j = 8 := (by omega); rfl) h8
    refine v_nil ?_
    refine q_n ?_
    refine w_f rfl ?_
    refine w_skip ?_
    refine q_n ?_
    refine w_reg rfl ?_
    refine v_move rfl ?_
    refine v_add lay3 rfl rfl (i64r (by omega)) ?_
    refine v_assign rfl ?_
    refine v_nil ?_
    refine q_bn ?_
    refine q_n ?_
    refine w_reg rfl ?_
    refine v_move rfl ?_
    refine v_add lay3 rfl rfl (i64r (by omega)) ?_
    refine v_assign rfl ?_
    refine v_nil ?_
    refine q_n ?_
    obtain rfl : j = 8 := by omega
    refine ⟨_, _, _, ?_, ⟨i + 1, rfl, by omega, rfl, rfl⟩, by omega⟩
    exact turn0 ⟨tr_sl, tr_i (by push_cast; omega), tr_v, trivial⟩
  have hj1 : j < 8 := by omega
  refine v_nil ?_
  refine q_n ?_
  refine w_t rfl ?_
  refine w_skip ?_
  refine q_n ?_
  refine w_seq ?_
  refine w_block ?_
  refine w_seq ?_
  refine w_seq ?_
  refine w_reg rfl ?_
  refine v_move rfl ?_
  refine v_move rfl ?_
  refine v_move rfl ?_
  refine v_idx_e (k := 9) (i) stc_len lay26 lay82 rfl rfl rfl (by simp) rfl (rfl) (hi2) ?_
  refine v_fa_vw (off' := 0) lay82 rfl rfl rfl ?_
  refine v_idx_av_e (k := 1) (j) lay80 lay4 rfl rfl rfl (rfl) (hj1) ?_
  refine v_load_vw_e (.c (.v (.bool ((smark a i).1 ⟨j, hj1⟩)))) lay4 rfl (by rw [sm_get hi2]; show 0 + j * 1 + 1 ≤ 9; omega) (by rw [sm_get hi2]; exact st_get _ hj1) ?_
  refine v_move rfl ?_
  refine v_rem lay3 rfl rfl (by decide) ?_
  refine v_eql lay3 rfl rfl (fun h4 => ?_) (fun h4 => ?_)
  · refine v_binb lay4 rfl rfl rfl (fun h5 => ?_) (fun h5 => ?_)
    · exact absurd h5 (by rw [sm_bit]; simp_all)
    refine v_nil ?_
    refine q_n ?_
    refine w_f rfl ?_
    refine w_skip ?_
    refine q_n ?_
    refine w_reg rfl ?_
    refine v_move rfl ?_
    refine v_add lay3 rfl rfl (i64r (by omega)) ?_
    refine v_assign rfl ?_
    refine v_nil ?_
    refine q_bn ?_
    refine q_n ?_
    refine w_reg rfl ?_
    refine v_move rfl ?_
    refine v_add lay3 rfl rfl (i64r (by omega)) ?_
    refine v_assign rfl ?_
    refine v_nil ?_
    refine q_n ?_
    refine ⟨_, _, _, ?_, ⟨j + 1, rfl, by omega, rfl, rfl⟩, by omega⟩
    exact turn0 ⟨tr_sl, tr_i (by push_cast; omega), tr_v, tr_v, trivial⟩
  refine v_binb lay4 rfl rfl rfl (fun h6 => ?_) (fun h6 => ?_)
  · exact absurd h6 (by rw [sm_bit]; simp_all)
  refine v_nil ?_
  refine q_n ?_
  refine w_f rfl ?_
  refine w_skip ?_
  refine q_n ?_
  refine w_reg rfl ?_
  refine v_move rfl ?_
  refine v_add lay3 rfl rfl (i64r (by omega)) ?_
  refine v_assign rfl ?_
  refine v_nil ?_
  refine q_bn ?_
  refine q_n ?_
  refine w_reg rfl ?_
  refine v_move rfl ?_
  refine v_add lay3 rfl rfl (i64r (by omega)) ?_
  refine v_assign rfl ?_
  refine v_nil ?_
  refine q_n ?_
  refine ⟨_, _, _, ?_, ⟨j + 1, rfl, by omega, rfl, rfl⟩, by omega⟩
  exact turn0 ⟨tr_sl, tr_i (by push_cast; omega), tr_v, tr_v, trivial⟩
theorem c12 (n : Nat) (a b f : Int) (hx : n ≤ 2 ^ 40) (ha : 0 ≤ a ∧ a ≤ 2 ^ 50) : PureC X 12 [.agg [.sl false n 9 (flat stc ((List.range n).map (smark a))), .v (.int .i64 b), .v (.int .i64 f)], cI a] (cI (a + 9 * n)) := by
  refine PureC.of_body (drawD_ok X) (fun _ _ => Go.Proofs.Try.call12 _ _) Go.Proofs.Try.func12 rfl (n := 12) rfl ?_
  refine w_seq ?_
  refine w_reg rfl ?_
  refine v_box (m := 0) (H' := [_]) lay28 rfl rfl rfl ?_
  refine v_assign (c := .v (.int .i64 0)) rfl ?_
  refine v_nil ?_
  refine q_n ?_
  refine w_seq ?_
  refine w_reg rfl ?_
  refine v_fa_pt (off' := 0) lay28 rfl rfl rfl ?_
  refine v_load_pt (.c _) lay26 rfl rfl rfl rfl ?_
  refine v_move rfl ?_
  refine v_call (c43 _ _ (by omega) (by omega)) rfl rfl rfl (.cons vw_sl (.cons vw_v .nil)) ?_
  refine v_assign rfl ?_
  refine v_nil ?_
  refine q_n ?_
  refine w_seq ?_
  refine w_seq ?_
  refine w_reg rfl ?_
  refine v_move rfl ?_
  refine v_lss lay3 rfl rfl (fun h1 => ?_) (fun h1 => ?_)
  · exact absurd h1 (by omega)
  refine v_nil ?_
  refine q_n ?_
  refine w_f rfl ?_
  refine w_skip ?_
  refine q_n ?_
  refine w_seq ?_
  refine w_reg rfl ?_
  refine v_move rfl ?_
  refine v_assign rfl ?_
  refine v_nil ?_
  refine q_n ?_
  refine w_ret ?_
  refine r_r rfl ?_
  exact tr_v
end Go.VL
namespace Go.VL
open Go.RowKit
set_option maxRecDepth 20000
set_option maxHeartbeats 8000000
theorem c3 (xs : List Slo) (b f by' : Int) (hx : xs.length ≤ maxLen) : PureC X 3 [.agg (pln false xs b f), cI by'] (cB true) := by
  refine PureC.of_body (drawD_ok X) (fun _ _ => Go.Proofs.Try.call3 _ _) Go.Proofs.Try.func3 rfl (n := 101) rfl ?_
  refine w_seq ?_
  refine w_reg rfl ?_
  refine v_box (m := 0) (H' := [_]) lay24 rfl rfl rfl ?_
  refine v_assign (c := .v (.bool false)) rfl ?_
  refine v_nil ?_
  refine q_n ?_
  refine w_seq ?_
  refine w_reg rfl ?_
  refine v_assign (c := .v (.int .i64 1048576)) rfl ?_
  refine v_nil ?_
  refine q_n ?_
  refine w_seq ?_
  refine w_reg rfl ?_
  refine v_load_pt (.agg [_, _, _]) lay24 rfl rfl rfl rfl ?_
  refine v_move rfl ?_
  refine v_call (c6 _ _ _ _ (by omega) (by assumption)) rfl rfl rfl (.cons (vw_agg (.cons vw_sl (.cons vw_v (.cons vw_v .nil)))) (.cons vw_v .nil)) ?_
  refine v_assign rfl ?_
  refine v_nil ?_
  refine q_n ?_
  refine w_seq ?_
  refine w_seq ?_
  refine w_reg rfl ?_
  refine v_move rfl ?_
  refine v_lss lay3 rfl rfl (fun h1 => ?_) (fun h1 => ?_)
  · refine v_nil ?_
    refine q_n ?_
    refine w_t rfl ?_
    refine w_seq ?_
    refine w_reg rfl ?_
    refine v_assign (c := .v (.bool true)) rfl ?_
    refine v_nil ?_
    refine q_n ?_
    refine w_ret (q_r ?_)
    refine r_r rfl ?_
    exact tr_v
  have hx2 : xs.length ≤ 2 ^ 40 := by unfold szr at h1; split at h1 <;> omega
  have hln := sh_len (xs := xs) (b := b) (f := f) (by' := by')
  refine v_nil ?_
  refine q_n ?_
  refine w_f rfl ?_
  refine w_skip ?_
  refine q_n ?_
  refine w_seq ?_
  refine w_reg rfl ?_
  refine v_load_pt (.agg [_, _, _]) lay24 rfl rfl rfl rfl ?_
  refine v_call (c8 _ _ _ (by omega)) rfl rfl rfl (.cons (vw_agg (.cons vw_sl (.cons vw_v (.cons vw_v .nil)))) .nil) ?_
  refine v_move rfl ?_
  refine v_call (c7 _ _ _ _ (by omega)) rfl rfl rfl (.cons (vw_agg (.cons vw_sl (.cons vw_v (.cons vw_v .nil)))) (.cons vw_v .nil)) ?_
  refine v_move_t rfl ?_
  refine v_extract_a rfl rfl ?_
  refine v_extract_c rfl rfl ?_
  refine v_alloc (m := 1) (H' := [_, ⟨[.v _, .v _, .v _], 28, true⟩]) lay28 rfl rfl ?_
  refine v_store (H' := [_, ⟨[_, _, _], 28, true⟩]) lay28 rfl rfl rfl rfl rfl rfl ?_
  refine v_assign rfl ?_
  refine v_nil ?_
  refine q_n ?_
  refine w_seq ?_
  refine w_reg rfl ?_
  refine v_load_pt (.agg [_, _, _]) lay24 rfl rfl rfl rfl ?_
  refine v_live1 (N := 2) (H' := [_, _, _]) (c8l _ _ _ (by omega)) (sc_flat stc_sc _) rfl rfl rfl rfl rfl rfl (.cons (vw_agg (.cons vw_sl (.cons vw_v (.cons vw_v .nil)))) .nil) ?_
  refine v_alloc (m := 3) (H' := [_, _, _, ⟨[.v _, .v _, .v _], 28, true⟩]) lay28 rfl rfl ?_
  refine v_store (H' := [_, _, _, ⟨[_, _, _], 28, true⟩]) lay28 rfl rfl rfl rfl rfl rfl ?_
  refine v_nil ?_
  refine q_n ?_
  refine w_seq ?_
  refine w_reg rfl ?_
  refine v_load_pt (.agg [_, _, _]) lay28 rfl rfl rfl rfl ?_
  refine v_move rfl ?_
  refine v_live1 (N := 4) (H' := [_, _, _, _, _]) (c9l _ _ _ _ (by omega)) (sc_flat stc_sc _) rfl rfl rfl rfl rfl rfl (.cons (vw_agg (.cons (vw_mu2 stc_sc stc_len rfl (by first | (simp; done) | (simp; omega))) (.cons vw_v (.cons vw_v .nil)))) (.cons vw_v .nil)) ?_
  refine v_move_t rfl ?_
  refine v_extract_a rfl rfl ?_
  refine v_extract_c rfl rfl ?_
  refine v_alloc (m := 5) (H' := [_, _, _, _, _, ⟨[.v _, .v _, .v _], 28, true⟩]) lay28 rfl rfl ?_
  refine v_store (H' := [_, _, _, _, _, ⟨[_, _, _], 28, true⟩]) lay28 rfl rfl rfl rfl rfl rfl ?_
  refine v_assign rfl ?_
  refine v_nil ?_
  refine q_n ?_
  refine w_seq ?_
  refine w_seq ?_
  refine w_reg rfl ?_
  refine v_load_pt (.agg [_, _, _]) lay28 rfl rfl rfl rfl ?_
  refine v_load_pt (.agg [_, _, _]) lay28 rfl rfl rfl rfl ?_
  refine v_callb (c10 _ _ _ _ _ _ (by omega)) rfl rfl (.cons (vw_agg (.cons (vw_mu2 stc_sc stc_len rfl (by first | (simp; done) | (simp; omega))) (.cons vw_v (.cons vw_v .nil)))) (.cons (vw_agg (.cons vw_sl (.cons vw_v (.cons vw_v .nil)))) .nil)) (fun h2 => ?_) (fun h2 => ?_)
  rotate_left
  · exact absurd ⟨rfl, rfl, rfl⟩ h2
  refine v_not false rfl rfl ?_
  refine v_move rfl ?_
  refine v_guard_on rfl rfl ?_
  refine v_move rfl ?_
  refine v_guard_on rfl rfl ?_
  refine v_move rfl ?_
  refine v_guard_on rfl rfl ?_
  refine v_neq lay2 rfl rfl (fun h3 => ?_) (fun h3 => ?_)
  · exact absurd rfl h3
  refine v_pick_f rfl rfl ?_
  refine v_nil ?_
  refine q_n ?_
  refine w_f rfl ?_
  refine w_skip ?_
  refine q_n ?_
  refine w_seq ?_
  refine w_seq ?_
  refine w_draw [0, 0, 2, 7, 15] [⟨0, 0, []⟩, ⟨1, 0, []⟩, ⟨2, 0, []⟩, ⟨3, 0, []⟩, ⟨4, 0, []⟩] rfl rfl ?_
  refine d_q rfl rfl rfl rfl rfl ?_
  refine v_load_pt (.agg [_, _, _]) lay28 rfl rfl rfl rfl ?_
  refine v_nil ?_
  refine d_q rfl rfl rfl rfl rfl ?_
  refine v_load_pt (.agg [_, _, _]) lay24 rfl rfl rfl rfl ?_
  refine v_nil ?_
  refine d_call (c8 _ _ _ (by omega)) rfl rfl rfl rfl rfl (.cons (vw_agg (.cons vw_sl (.cons vw_v (.cons vw_v .nil)))) .nil) ?_
  refine d_callb (c10 _ _ _ _ _ _ (by omega)) rfl rfl rfl rfl (.cons (vw_agg (.cons (vw_mu2 stc_sc stc_len rfl (by first | (simp; done) | (simp; omega))) (.cons vw_v (.cons vw_v .nil)))) (.cons (vw_agg (.cons vw_sl (.cons vw_v (.cons vw_v .nil)))) .nil)) (fun h4 => ?_) (fun h4 => ?_)
  rotate_left
  · exact absurd ⟨rfl, rfl, rfl⟩ h4
  refine d_q rfl rfl rfl rfl rfl ?_
  refine v_not false rfl rfl ?_
  refine v_nil ?_
  refine d_nil ?_
  refine q_n ?_
  refine w_f rfl ?_
  refine w_skip ?_
  refine q_n ?_
  refine w_seq ?_
  refine w_reg rfl ?_
  refine v_assign (c := .v (.int .i64 1)) rfl ?_
  refine v_nil ?_
  refine q_n ?_
  refine w_seq ?_
  refine w_reg rfl ?_
  refine v_load_pt (.agg [_, _, _]) lay28 rfl rfl rfl rfl ?_
  refine v_move rfl ?_
  refine v_inl (n := 10) (drawD_ok X) (fun _ _ => Go.Proofs.Try.call11 _ _) Go.Proofs.Try.func11 rfl rfl rfl rfl ?_
  refine w_seq ?_
  refine w_reg rfl ?_
  refine v_box (m := 6) (H' := [_, _, _, _, _, _, _]) lay28 rfl rfl rfl ?_
  refine v_assign (c := .v (.int .i64 0)) rfl ?_
  refine v_nil ?_
  refine q_n ?_
  refine w_seq ?_
  refine w_reg rfl ?_
  refine v_fa_pt (off' := 0) lay28 rfl rfl rfl ?_
  refine v_load_pt (.c _) lay26 rfl rfl rfl rfl ?_
  refine v_move rfl ?_
  refine v_mark (H' := [_, _, _, _, _, _, _]) (c42 _ _ (by omega) (by omega)) rfl (sc_flat stc_sc _) (sc_flat stc_sc _) rfl rfl rfl rfl ?_
  refine v_assign rfl ?_
  refine v_nil ?_
  refine q_n ?_
  refine w_seq ?_
  refine w_reg rfl ?_
  refine v_move rfl ?_
  refine v_assign rfl ?_
  refine v_nil ?_
  refine q_n ?_
  refine w_ret ?_
  refine r_r rfl ?_
  refine v_assign rfl ?_
  refine v_nil ?_
  refine q_n ?_
  refine w_seq ?_
  refine w_seq ?_
  refine w_reg rfl ?_
  refine v_move rfl ?_
  refine v_lss lay3 rfl rfl (fun h5 => ?_) (fun h5 => ?_)
  · exact absurd h5 (by omega)
  refine v_move rfl ?_
  refine v_guard_on rfl rfl ?_
  refine v_load_pt (.agg [_, _, _]) lay28 rfl rfl rfl rfl ?_
  refine v_guard_on rfl rfl ?_
  refine v_load_pt (.agg [_, _, _]) lay28 rfl rfl rfl rfl ?_
  refine v_guard_on rfl rfl ?_
  refine v_callb (c10 _ _ _ _ _ _ (by omega)) rfl rfl (.cons (vw_agg (.cons (vw_mu2 stc_sc stc_len rfl (by first | (simp; done) | (simp; omega))) (.cons vw_v (.cons vw_v .nil)))) (.cons (vw_agg (.cons vw_sl (.cons vw_v (.cons vw_v .nil)))) .nil)) (fun h6 => ?_) (fun h6 => ?_)
  rotate_left
  · exact absurd ⟨rfl, rfl, rfl⟩ h6
  refine v_guard_on rfl rfl ?_
  refine v_not false rfl rfl ?_
  refine v_pick_f rfl rfl ?_
  refine v_move rfl ?_
  refine v_guard_on rfl rfl ?_
  refine v_move rfl ?_
  refine v_guard_on rfl rfl ?_
  refine v_move rfl ?_
  refine v_guard_on rfl rfl ?_
  refine v_neq lay2 rfl rfl (fun h7 => ?_) (fun h7 => ?_)
  · exact absurd rfl h7
  refine v_pick_f rfl rfl ?_
  refine v_nil ?_
  refine q_n ?_
  refine w_f rfl ?_
  refine w_skip ?_
  refine q_n ?_
  refine w_seq ?_
  refine w_reg rfl ?_
  refine v_assign (c := .v (.int .i64 1)) rfl ?_
  refine v_nil ?_
  refine q_n ?_
  refine w_seq ?_
  refine w_reg rfl ?_
  refine v_load_pt (.agg [_, _, _]) lay28 rfl rfl rfl rfl ?_
  refine v_move rfl ?_
  refine v_inl (n := 10) (drawD_ok X) (fun _ _ => Go.Proofs.Try.call11 _ _) Go.Proofs.Try.func11 rfl rfl rfl rfl ?_
  refine w_seq ?_
  refine w_reg rfl ?_
  refine v_box (m := 7) (H' := [_, _, _, _, _, _, _, _]) lay28 rfl rfl rfl ?_
  refine v_assign (c := .v (.int .i64 0)) rfl ?_
  refine v_nil ?_
  refine q_n ?_
  refine w_seq ?_
  refine w_reg rfl ?_
  refine v_fa_pt (off' := 0) lay28 rfl rfl rfl ?_
  refine v_load_pt (.c _) lay26 rfl rfl rfl rfl ?_
  refine v_move rfl ?_
  refine v_mark (H' := [_, _, _, _, _, _, _, _]) (c42 _ _ (by omega) (by omega)) rfl (sc_flat stc_sc _) (sc_flat stc_sc _) rfl rfl rfl rfl ?_
  refine v_assign rfl ?_
  refine v_nil ?_
  refine q_n ?_
  refine w_seq ?_
  refine w_reg rfl ?_
  refine v_move rfl ?_
  refine v_assign rfl ?_
  refine v_nil ?_
  refine q_n ?_
  refine w_ret ?_
  refine r_r rfl ?_
  refine v_assign rfl ?_
  refine v_nil ?_
  refine q_n ?_
  refine w_seq ?_
  refine w_reg rfl ?_
  refine v_assign (c := .v (.int .i64 1)) rfl ?_
  refine v_nil ?_
  refine q_n ?_
  refine w_seq ?_
  refine w_reg rfl ?_
  refine v_load_pt (.agg [_, _, _]) lay28 rfl rfl rfl rfl ?_
  refine v_move rfl ?_
  refine v_call (c12 _ _ _ _ (by omega) (by omega)) rfl rfl rfl (.cons (vw_agg (.cons (vw_mu2 stc_sc stc_len rfl (by first | (simp; done) | (simp; omega))) (.cons vw_v (.cons vw_v .nil)))) (.cons vw_v .nil)) ?_
  refine v_assign rfl ?_
  refine v_nil ?_
  refine q_n ?_
  refine w_seq ?_
  refine w_seq ?_
  refine w_reg rfl ?_
  refine v_move rfl ?_
  refine v_lss lay3 rfl rfl (fun h8 => ?_) (fun h8 => ?_)
  · exact absurd h8 (by omega)
  refine v_nil ?_
  refine q_n ?_
  refine w_f rfl ?_
  refine w_skip ?_
  refine q_n ?_
  refine w_seq ?_
  refine w_seq ?_
  refine w_reg rfl ?_
  refine v_move rfl ?_
  refine v_move rfl ?_
  refine v_neq lay3 rfl rfl (fun h9 => ?_) (fun h9 => ?_)
  · exact absurd rfl h9
  refine v_nil ?_
  refine q_n ?_
  refine w_f rfl ?_
  refine w_skip ?_
  refine q_n ?_
  refine w_seq ?_
  refine w_reg rfl ?_
  refine v_load_pt (.agg [_, _, _]) lay24 rfl rfl rfl rfl ?_
  refine v_call (c8 _ _ _ (by omega)) rfl rfl rfl (.cons (vw_agg (.cons vw_sl (.cons vw_v (.cons vw_v .nil)))) .nil) ?_
  refine v_move rfl ?_
  refine v_call (c9 _ _ _ _ (by omega)) rfl rfl rfl (.cons (vw_agg (.cons vw_sl (.cons vw_v (.cons vw_v .nil)))) (.cons vw_v .nil)) ?_
  refine v_move_t rfl ?_
  refine v_extract_a rfl rfl ?_
  refine v_extract_c rfl rfl ?_
  refine v_alloc (m := 8) (H' := [_, _, _, _, _, _, _, _, ⟨[.v _, .v _, .v _], 28, true⟩]) lay28 rfl rfl ?_
  refine v_store (H' := [_, _, _, _, _, _, _, _, ⟨[_, _, _], 28, true⟩]) lay28 rfl rfl rfl rfl rfl rfl ?_
  refine v_assign rfl ?_
  refine v_nil ?_
  refine q_n ?_
  refine w_seq ?_
  refine w_seq ?_
  refine w_reg rfl ?_
  refine v_load_pt (.agg [_, _, _]) lay28 rfl rfl rfl rfl ?_
  refine v_load_pt (.agg [_, _, _]) lay28 rfl rfl rfl rfl ?_
  refine v_callb (c10 _ _ _ _ _ _ (by omega)) rfl rfl (.cons (vw_agg (.cons vw_sl (.cons vw_v (.cons vw_v .nil)))) (.cons (vw_agg (.cons vw_sl (.cons vw_v (.cons vw_v .nil)))) .nil)) (fun h10 => ?_) (fun h10 => ?_)
  rotate_left
  · exact absurd ⟨rfl, rfl, rfl⟩ h10
  refine v_not false rfl rfl ?_
  refine v_move rfl ?_
  refine v_guard_on rfl rfl ?_
  refine v_move rfl ?_
  refine v_guard_on rfl rfl ?_
  refine v_move rfl ?_
  refine v_guard_on rfl rfl ?_
  refine v_neq lay2 rfl rfl (fun h11 => ?_) (fun h11 => ?_)
  · exact absurd rfl h11
  refine v_pick_f rfl rfl ?_
  refine v_nil ?_
  refine q_n ?_
  refine w_f rfl ?_
  refine w_skip ?_
  refine q_n ?_
  refine w_seq ?_
  refine w_reg rfl ?_
  refine v_assign (c := .v (.int .i64 1)) rfl ?_
  refine v_nil ?_
  refine q_n ?_
  refine w_seq ?_
  refine w_reg rfl ?_
  refine v_load_pt (.agg [_, _, _]) lay28 rfl rfl rfl rfl ?_
  refine v_move rfl ?_
  refine v_call (c12 _ _ _ _ (by omega) (by omega)) rfl rfl rfl (.cons (vw_agg (.cons (vw_mu2 stc_sc stc_len rfl (by first | (simp; done) | (simp; omega))) (.cons vw_v (.cons vw_v .nil)))) (.cons vw_v .nil)) ?_
  refine v_assign rfl ?_
  refine v_nil ?_
  refine q_n ?_
  refine w_seq ?_
  refine w_seq ?_
  refine w_reg rfl ?_
  refine v_move rfl ?_
  refine v_lss lay3 rfl rfl (fun h12 => ?_) (fun h12 => ?_)
  · exact absurd h12 (by omega)
  refine v_nil ?_
  refine q_n ?_
  refine w_f rfl ?_
  refine w_skip ?_
  refine q_n ?_
  refine w_seq ?_
  refine w_seq ?_
  refine w_reg rfl ?_
  refine v_move rfl ?_
  refine v_move rfl ?_
  refine v_neq lay3 rfl rfl (fun h13 => ?_) (fun h13 => ?_)
  · exact absurd rfl h13
  refine v_nil ?_
  refine q_n ?_
  refine w_f rfl ?_
  refine w_skip ?_
  refine q_n ?_
  refine w_seq ?_
  refine w_reg rfl ?_
  refine v_assign (c := .v (.bool true)) rfl ?_
  refine v_nil ?_
  refine q_n ?_
  refine w_ret ?_
  refine r_r rfl ?_
  exact tr_v
end Go.VL
namespace Go.VL
open Go.RowKit
set_option maxRecDepth 20000
set_option maxHeartbeats 8000000
abbrev Pln := List Slo × Int × Int
def plc (p : Pln) : List C := [.sl true p.1.length 9 (flat stc p.1), .v (.int .i64 p.2.1), .v (.int .i64 p.2.2)]
theorem plc_len (p : Pln) : (plc p).length = 3 := rfl
theorem plc_sc (p : Pln) : (plc p).all fz = true := rfl
abbrev plf (p : Pln) : List C := pln false p.1 p.2.1 p.2.2
abbrev pls (o : Bool) (ps : List Pln) : C := .sl o ps.length 3 (flat plc ps)
/-- What is green at a tick of the round, and how long. -/
def atR : List Slo → Int → Int → Ph × Int
  | [], _, _ => (zg, 0)
  | s :: t, b, r => if r < s.2 then (s.1, s.2 - r) else if r - s.2 < b then (zg, b - (r - s.2)) else atR t b (r - s.2 - b)
theorem at_at {xs : List Slo} {b r : Int} {i : Nat} (h : i < xs.length) : atR (xs.drop i) b r = if r < xs[i].2 then (xs[i].1, xs[i].2 - r) else if r - xs[i].2 < b then (zg, b - (r - xs[i].2)) else atR (xs.drop (i + 1)) b (r - xs[i].2 - b) := by
  rw [List.drop_eq_getElem_cons h, atR]
def gr (xs : List Slo) (b : Int) (m : Nat) (r : Int) : Bool := (atR xs b r).1 ⟨m % 8, Nat.mod_lt _ (by decide)⟩
theorem gr_eq {xs : List Slo} {b : Int} {m : Nat} {r : Int} (hm : m < 8) : (atR xs b r).1 ⟨m, hm⟩ = gr xs b m r := by
  unfold gr
  exact congrArg _ (Fin.ext (Nat.mod_eq_of_lt hm).symm)
theorem ok_n {xs : List Slo} {b f : Int} (h : okP xs b f) {n : Nat} (hn : cyc xs b = n) : 1 ≤ n ∧ n ≤ 240 ∧ 0 ≤ f ∧ f < n ∧ xs.length ≤ 8 := by
  have h1 := okP_cyc h
  have h2 := h.2.2
  have h3 := h.1.1
  omega
/-- The greens of a round, from a tick on. -/
def grL (xs : List Slo) (b f : Int) (m n : Nat) (fr : Int) : List Bool := (List.range n).map fun k : Nat => gr xs b m ((fr + (k : Int) - f) % n)
theorem grL_len {xs : List Slo} {b f : Int} {m n : Nat} {fr : Int} : (grL xs b f m n fr).length = n := by simp [grL]
theorem pc_0 {xs : List Slo} {b f : Int} (h : okP xs b f) : pcR xs b f true = 0 := by
  unfold pcR
  rw [if_pos h]
  rfl
def grn (xs : List Slo) (b : Int) (m n : Nat) : Prop := ∃ k : Nat, k < n ∧ gr xs b m k = true
theorem grL_ex {xs : List Slo} {b f : Int} {m n : Nat} {fr : Int} (hg : grn xs b m n) : ∃ x ∈ grL xs b f m n fr, x = true := by
  obtain ⟨k, hk, hg⟩ := hg
  have hn : 1 ≤ n := by omega
  have hn0 : (n : Int) ≠ 0 := by omega
  have h1 := Int.emod_nonneg ((k : Int) + f - fr) hn0
  have h2 := Int.emod_lt_of_pos ((k : Int) + f - fr) (show (0 : Int) < n by omega)
  refine ⟨true, List.mem_map.2 ⟨(((k : Int) + f - fr) % n).toNat, List.mem_range.2 (by omega), ?_⟩, rfl⟩
  rw [Int.toNat_of_nonneg h1]
  have e : (fr + ((k : Int) + f - fr) % n - f) % n = k := by
    have e1 : fr + ((k : Int) + f - fr) % n - f = ((k : Int) + f - fr) % n + (fr - f) := by omega
    rw [e1, em_add]
    have e2 : (k : Int) + f - fr + (fr - f) = k := by omega
    rw [e2]
    exact Int.emod_eq_of_lt (by omega) (by omega)
  rw [e, hg]
/-- How often it is so among the first ones. -/
def cnb (F : Nat → Bool) (i : Nat) : Nat := ((List.range i).map F).countP id
theorem cnb_le {F : Nat → Bool} {i : Nat} : cnb F i ≤ i := by
  have := List.countP_le_length (p := id) (l := (List.range i).map F)
  simpa [cnb] using this
theorem cnb_t {F : Nat → Bool} {i : Nat} (h : F i = true) : (cnb F i : Int) + 1 = cnb F (i + 1) := by
  unfold cnb
  rw [List.range_succ, List.map_append, List.countP_append]
  simp only [List.map_cons, List.map_nil, h]
  simp
theorem cnb_f {F : Nat → Bool} {i : Nat} (h : F i = false) : (cnb F i : Int) = cnb F (i + 1) := by
  unfold cnb
  rw [List.range_succ, List.map_append, List.countP_append]
  simp only [List.map_cons, List.map_nil, h]
  simp
theorem cnb_mono {F G : Nat → Bool} : ∀ {i : Nat}, (∀ k, k < i → F k = true → G k = true) → cnb F i ≤ cnb G i
  | 0, _ => Nat.le_refl _
  | i + 1, h => by
    have ih := cnb_mono (F := F) (G := G) (i := i) fun k hk => h k (by omega)
    cases hF : F i with
    | true =>
      have h1 := cnb_t hF
      have h2 := cnb_t (h i (by omega) hF)
      omega
    | false =>
      have h1 := cnb_f hF
      cases hG : G i with
      | true => have h2 := cnb_t hG; omega
      | false => have h2 := cnb_f hG; omega
theorem cnb_pos {F : Nat → Bool} : ∀ {i k : Nat}, k < i → F k = true → 1 ≤ cnb F i
  | i + 1, k, hk, h => by
    by_cases hi : k = i
    · subst hi
      have h1 := cnb_t h
      omega
    · have ih := cnb_pos (i := i) (by omega : k < i) h
      cases hF : F i with
      | true => have h1 := cnb_t hF; omega
      | false => have h1 := cnb_f hF; omega
abbrev cgr (xs : List Slo) (b f : Int) (m n i : Nat) : Nat := cnb (fun k : Nat => gr xs b m ((0 + (k : Int) - f) % n)) i
theorem grL_at {xs : List Slo} {b f : Int} {m n i : Nat} {fr : Int} (h : i < (grL xs b f m n fr).length) : (grL xs b f m n fr)[i] = gr xs b m ((fr + (i : Int) - f) % n) := mk_at (f := fun k : Nat => gr xs b m ((fr + (k : Int) - f) % n)) h
def grL0 (xs : List Slo) (b f : Int) (m n : Nat) (fr : Int) (i : Nat) : List Bool := (List.range i).map fun k : Nat => gr xs b m ((fr + (k : Int) - f) % n)
theorem c76 (xs : List Slo) (b f : Int) (t : Int) (hk : okP xs b f) (n : Nat) (hn : cyc xs b = n) (ht : 0 ≤ t ∧ t ≤ 1000000) : PureC X 76 [.agg (pln false xs b f), cI t] (.tup [.agg (phc (atR xs b ((t - f) % n)).1), cI (atR xs b ((t - f) % n)).2]) := by
  refine PureC.of_body (drawD_ok X) (fun _ _ => Go.Proofs.Try.call76 _ _) Go.Proofs.Try.func76 rfl (n := 52) rfl ?_
  obtain ⟨n1, n2, n3, n4, n5⟩ := ok_n hk hn
  have hs := hk.1.2.1
  have hb2 := hk.1.2.2
  have hr1 := Int.emod_nonneg (t - f) (show (n : Int) ≠ 0 by omega)
  have hr2 := Int.emod_lt_of_pos (t - f) (show (0 : Int) < n by omega)
  refine w_seq ?_
  refine w_reg rfl ?_
  refine v_box (m := 0) (H' := [_]) lay28 rfl rfl rfl ?_
  refine v_alloc (m := 1) (H' := [_, ⟨[.v _, .v _, .v _, .v _, .v _, .v _, .v _, .v _], 80, true⟩]) lay80 rfl rfl ?_
  refine v_assign (c := .v (.int .i64 0)) rfl ?_
  refine v_nil ?_
  refine q_n ?_
  refine w_seq ?_
  refine w_draw [0, 0, 2, 7, 0, 16, 63, 127] [⟨0, 0, []⟩, ⟨1, 0, []⟩, ⟨2, 0, []⟩, ⟨3, 0, []⟩, ⟨4, 0, []⟩, ⟨5, 0, []⟩, ⟨6, 0, []⟩, ⟨7, 0, []⟩] rfl rfl ?_
  refine d_q rfl rfl rfl rfl rfl ?_
  refine v_move rfl ?_
  refine v_nil ?_
  refine d_q rfl rfl rfl rfl rfl ?_
  refine v_fa_pt (off' := 2) lay28 rfl rfl rfl ?_
  refine v_nil ?_
  refine d_q rfl rfl rfl rfl rfl ?_
  refine v_load_pt (.c _) lay2 rfl rfl rfl rfl ?_
  refine v_nil ?_
  refine d_q rfl rfl rfl rfl rfl ?_
  refine v_sub lay2 rfl rfl (i64r (by omega)) ?_
  refine v_nil ?_
  refine d_q rfl rfl rfl rfl rfl ?_
  refine v_load_pt (.agg [_, _, _]) lay28 rfl rfl rfl rfl ?_
  refine v_nil ?_
  refine d_call (c40 _ _ _ hs (by omega) (by omega)) rfl rfl rfl rfl rfl (.cons (vw_agg (.cons vw_sl (.cons vw_v (.cons vw_v .nil)))) .nil) ?_
  refine d_call (c39 _ _ (okP_cyc hk) (by omega)) rfl rfl rfl rfl rfl (.cons vw_v (.cons vw_v .nil)) ?_
  refine d_q rfl rfl rfl rfl rfl ?_
  refine v_assign rfl ?_
  refine v_nil ?_
  refine d_nil ?_
  refine q_n ?_
  refine w_seq ?_
  refine w_seq ?_
  refine w_reg rfl ?_
  refine v_fa_pt (off' := 0) lay28 rfl rfl rfl ?_
  refine v_load_pt (.c _) lay26 rfl rfl rfl rfl ?_
  refine v_len_sl lay26 rfl ?_
  refine v_move (c := .v (.int .i64 0)) rfl ?_
  refine v_nil ?_
  refine q_n ?_
  refine w_block ?_
  refine w_loop (fun k sl H => ∃ (i : Nat) (r : Int), k = xs.length - i ∧ i ≤ xs.length ∧ atR (xs.drop i) b r = atR xs b ((t - f) % n) ∧ (0 ≤ r ∧ r ≤ 240) ∧ sl = sls [(2, .c (.pt 0 0)), (4, .c (.pt 1 0)), (6, cI r), (17, .c (sts false xs)), (18, cI xs.length), (19, cI i)] ∧ H = [⟨pln false xs b f, 28, true⟩, ⟨phc zg, 80, true⟩]) ?_ ?_
  · refine ⟨_, _, _, ?_, 0, (t - f) % n, rfl, Nat.zero_le _, rfl, ⟨hr1, by omega⟩, rfl, rfl⟩
    exact turn [some 0, some 1] rfl rfl rfl ⟨⟨_, rfl, .cons tr_sl (.cons tr_v (.cons tr_v .nil))⟩, ⟨_, rfl, (.cons tr_v (.cons tr_v (.cons tr_v (.cons tr_v (.cons tr_v (.cons tr_v (.cons tr_v (.cons tr_v .nil))))))))⟩, trivial⟩ ⟨tr_pt rfl, tr_pt rfl, tr_i (by rw [hn]; exact mo_eq (by omega)), tr_sl, tr_v, tr_v, trivial⟩
  rintro k sl H ⟨i, r, rfl, hi, hp, hr, rfl, rfl⟩
  refine w_seq ?_
  refine w_reg rfl ?_
  refine v_lss lay3 rfl rfl (fun h1 => ?_) (fun h1 => ?_)
  rotate_left
  · refine v_nil ?_
    refine q_n ?_
    refine w_seq ?_
    refine w_f rfl ?_
    refine w_exit ?_
    refine q_e ?_
    refine q_e ?_
    refine q_hit ?_
    refine q_n ?_
    refine w_seq ?_
    refine w_reg rfl ?_
    refine v_build_a [.v _, .v _, .v _, .v _, .v _, .v _, .v _, .v _] lay80 lay4 rfl ?_
    refine v_store (H' := [_, ⟨[_, _, _, _, _, _, _, _], 80, true⟩]) lay80 rfl rfl rfl rfl rfl rfl ?_
    refine v_assign (c := .v (.int .i64 0)) rfl ?_
    refine v_nil ?_
    refine q_n ?_
    refine w_ret ?_
    refine r_r rfl ?_
    obtain rfl : i = xs.length := by omega
    rw [← hp, List.drop_length]
    exact a_tup (.cons (a_agg (.cons tr_v (.cons tr_v (.cons tr_v (.cons tr_v (.cons tr_v (.cons tr_v (.cons tr_v (.cons tr_v .nil))))))))) (.cons tr_v .nil))
  have hi1 : i < xs.length := by omega
  have htk := tk_at hs hi1
  refine v_nil ?_
  refine q_n ?_
  refine w_seq ?_
  refine w_t rfl ?_
  refine w_skip ?_
  refine q_n ?_
  refine w_seq ?_
  refine w_block ?_
  refine w_seq ?_
  refine w_reg rfl ?_
  refine v_idx_e (k := 9) (i) stc_len lay26 lay82 rfl rfl rfl (rfl) rfl (rfl) (hi1) ?_
  refine v_load_vw (.agg [.v _, .v _, .v _, .v _, .v _, .v _, .v _, .v _, .v _]) lay82 rfl rfl rfl ?_
  refine v_alloc (m := 2) (H' := [_, _, ⟨[.v _, .v _, .v _, .v _, .v _, .v _, .v _, .v _, .v _], 82, true⟩]) lay82 rfl rfl ?_
  refine v_store (H' := [_, _, ⟨[_, _, _, _, _, _, _, _, _], 82, true⟩]) lay82 rfl rfl rfl rfl rfl rfl ?_
  refine v_nil ?_
  refine q_n ?_
  refine w_seq ?_
  refine w_seq ?_
  refine w_reg rfl ?_
  refine v_move rfl ?_
  refine v_fa_pt (off' := 8) lay82 rfl rfl rfl ?_
  refine v_load_pt (.c _) lay2 rfl rfl rfl rfl ?_
  refine v_lss lay2 rfl rfl (fun h3 => ?_) (fun h3 => ?_)
  · refine v_nil ?_
    refine q_n ?_
    refine w_t rfl ?_
    refine w_seq ?_
    refine w_draw [0, 1, 0, 4, 0, 28, 3, 127] [⟨0, 0, []⟩, ⟨1, 0, []⟩, ⟨2, 0, []⟩, ⟨3, 0, []⟩, ⟨4, 0, []⟩, ⟨5, 0, []⟩, ⟨6, 1, [3]⟩, ⟨7, 0, []⟩] rfl rfl ?_
    refine d_q rfl rfl rfl rfl rfl ?_
    refine v_fa_pt (off' := 0) lay82 rfl rfl rfl ?_
    refine v_nil ?_
    refine d_q rfl rfl rfl rfl rfl ?_
    refine v_load_pt (.agg [_, _, _, _, _, _, _, _]) lay80 rfl rfl rfl rfl ?_
    refine v_nil ?_
    refine d_q rfl rfl rfl rfl rfl ?_
    refine v_fa_pt (off' := 8) lay82 rfl rfl rfl ?_
    refine v_nil ?_
    refine d_q rfl rfl rfl rfl rfl ?_
    refine v_load_pt (.c _) lay2 rfl rfl rfl rfl ?_
    refine v_nil ?_
    refine d_q rfl rfl rfl rfl rfl ?_
    refine v_move rfl ?_
    refine v_nil ?_
    refine d_q rfl rfl rfl rfl rfl ?_
    refine v_sub lay2 rfl rfl (i64r (by omega)) ?_
    refine v_nil ?_
    refine d_e rfl rfl rfl ?_
    refine v_store (H' := [_, ⟨[_, _, _, _, _, _, _, _], 80, true⟩, _]) lay80 rfl rfl rfl rfl rfl rfl ?_
    refine v_nil ⟨⟨ag_load_pt (.c _) lay2 rfl rfl rfl rfl, ⟨trivial, trivial⟩⟩, ?_⟩
    refine d_q rfl rfl rfl rfl rfl ?_
    refine v_assign rfl ?_
    refine v_nil ?_
    refine d_nil ?_
    refine q_n ?_
    refine w_ret (q_r (q_br (q_r (q_r (q_br (q_r ?_))))))
    refine r_r rfl ?_
    rw [← hp, at_at hi1, if_pos h3]
    exact a_tup (.cons (a_agg (.cons tr_v (.cons tr_v (.cons tr_v (.cons tr_v (.cons tr_v (.cons tr_v (.cons tr_v (.cons tr_v .nil))))))))) (.cons tr_v .nil))
  refine v_nil ?_
  refine q_n ?_
  refine w_f rfl ?_
  refine w_skip ?_
  refine q_n ?_
  refine w_seq ?_
  refine w_seq ?_
  refine w_reg rfl ?_
  refine v_move rfl ?_
  refine v_fa_pt (off' := 8) lay82 rfl rfl rfl ?_
  refine v_load_pt (.c _) lay2 rfl rfl rfl rfl ?_
  refine v_sub lay2 rfl rfl (i64r (by omega)) ?_
  refine v_assign rfl ?_
  refine v_nil ?_
  refine q_n ?_
  refine w_seq ?_
  refine w_reg rfl ?_
  refine v_move rfl ?_
  refine v_fa_pt (off' := 1) lay28 rfl rfl rfl ?_
  refine v_load_pt (.c _) lay2 rfl rfl rfl rfl ?_
  refine v_lss lay2 rfl rfl (fun h4 => ?_) (fun h4 => ?_)
  rotate_left
  · refine v_nil ?_
    refine q_n ?_
    refine w_f rfl ?_
    refine w_skip ?_
    refine q_n ?_
    refine w_reg rfl ?_
    refine v_move rfl ?_
    refine v_fa_pt (off' := 1) lay28 rfl rfl rfl ?_
    refine v_load_pt (.c _) lay2 rfl rfl rfl rfl ?_
    refine v_sub lay2 rfl rfl (i64r (by omega)) ?_
    refine v_assign rfl ?_
    refine v_nil ?_
    refine q_bn ?_
    refine q_n ?_
    refine w_reg rfl ?_
    refine v_add lay3 rfl rfl (i64r (by omega)) ?_
    refine v_move rfl ?_
    refine v_nil ?_
    refine q_n ?_
    rw [at_at hi1, if_neg h3, if_neg h4] at hp
    refine ⟨_, _, _, ?_, ⟨i + 1, r - xs[i].2 - b, rfl, by omega, hp, ⟨by omega, by omega⟩, rfl, rfl⟩, by omega⟩
    exact turn [some 0, some 1] rfl rfl rfl ⟨⟨_, rfl, .cons tr_sl (.cons tr_v (.cons tr_v .nil))⟩, ⟨_, rfl, (.cons tr_v (.cons tr_v (.cons tr_v (.cons tr_v (.cons tr_v (.cons tr_v (.cons tr_v (.cons tr_v .nil))))))))⟩, trivial⟩ ⟨tr_pt rfl, tr_pt rfl, tr_v, tr_sl, tr_v, tr_v, trivial⟩
  refine v_nil ?_
  refine q_n ?_
  refine w_t rfl ?_
  refine w_seq ?_
  refine w_draw [0, 0, 2, 0, 14, 1, 63] [⟨0, 0, []⟩, ⟨1, 0, []⟩, ⟨2, 0, []⟩, ⟨3, 0, []⟩, ⟨4, 0, []⟩, ⟨5, 1, [2]⟩, ⟨6, 0, []⟩] rfl rfl ?_
  refine d_q rfl rfl rfl rfl rfl ?_
  refine v_build_a [.v _, .v _, .v _, .v _, .v _, .v _, .v _, .v _] lay80 lay4 rfl ?_
  refine v_nil ?_
  refine d_q rfl rfl rfl rfl rfl ?_
  refine v_fa_pt (off' := 1) lay28 rfl rfl rfl ?_
  refine v_nil ?_
  refine d_q rfl rfl rfl rfl rfl ?_
  refine v_load_pt (.c _) lay2 rfl rfl rfl rfl ?_
  refine v_nil ?_
  refine d_q rfl rfl rfl rfl rfl ?_
  refine v_move rfl ?_
  refine v_nil ?_
  refine d_q rfl rfl rfl rfl rfl ?_
  refine v_sub lay2 rfl rfl (i64r (by omega)) ?_
  refine v_nil ?_
  refine d_e rfl rfl rfl ?_
  refine v_store (H' := [_, ⟨[_, _, _, _, _, _, _, _], 80, true⟩, _]) lay80 rfl rfl rfl rfl rfl rfl ?_
  refine v_nil ⟨⟨ag_load_pt (.c _) lay2 rfl rfl rfl rfl, trivial⟩, ?_⟩
  refine d_q rfl rfl rfl rfl rfl ?_
  refine v_assign rfl ?_
  refine v_nil ?_
  refine d_nil ?_
  refine q_n ?_
  refine w_ret (q_r (q_br (q_r (q_r (q_br (q_r ?_))))))
  refine r_r rfl ?_
  rw [← hp, at_at hi1, if_neg h3, if_pos h4]
  exact a_tup (.cons (a_agg (.cons tr_v (.cons tr_v (.cons tr_v (.cons tr_v (.cons tr_v (.cons tr_v (.cons tr_v (.cons tr_v .nil))))))))) (.cons tr_v .nil))
theorem c55 (xs : List Slo) (b f : Int) (t : Int) (hk : okP xs b f) (m n : Nat) (hn : cyc xs b = n) (hm : m < 8) (ht : 0 ≤ t ∧ t ≤ 1000000) : PureC X 55 [.agg (pln false xs b f), cI m, cI t] (cB (decide (gr xs b m ((t - f) % n) = true))) := by
  refine PureC.of_body (drawD_ok X) (fun _ _ => Go.Proofs.Try.call55 _ _) Go.Proofs.Try.func55 rfl (n := 18) rfl ?_
  refine w_seq ?_
  refine w_reg rfl ?_
  refine v_box (m := 0) (H' := [_]) lay28 rfl rfl rfl ?_
  refine v_assign (c := .v (.bool false)) rfl ?_
  refine v_nil ?_
  refine q_n ?_
  refine w_seq ?_
  refine w_reg rfl ?_
  refine v_load_pt (.agg [_, _, _]) lay28 rfl rfl rfl rfl ?_
  refine v_move rfl ?_
  refine v_call (c76 _ _ _ _ hk n hn (by omega)) rfl rfl rfl (.cons (vw_agg (.cons vw_sl (.cons vw_v (.cons vw_v .nil)))) (.cons vw_v .nil)) ?_
  refine v_move_t rfl ?_
  refine v_extract_a rfl rfl ?_
  refine v_extract_c rfl rfl ?_
  refine v_alloc (m := 1) (H' := [_, ⟨[.v _, .v _, .v _, .v _, .v _, .v _, .v _, .v _], 80, true⟩]) lay80 rfl rfl ?_
  refine v_store (H' := [_, ⟨[_, _, _, _, _, _, _, _], 80, true⟩]) lay80 rfl rfl rfl rfl rfl rfl ?_
  refine v_assign rfl ?_
  refine v_nil ?_
  refine q_n ?_
  refine w_seq ?_
  refine w_reg rfl ?_
  refine v_move rfl ?_
  refine v_idx_arr_e (k := 1) (m) lay80 lay4 rfl rfl rfl (rfl) (hm) ?_
  refine v_load_flat_e (enc := bo) (ys := pl (atR xs b ((t - f) % n)).1) m 0 (.c (.v (.bool ((atR xs b ((t - f) % n)).1 ⟨m, hm⟩)))) bo_len lay4 rfl rfl (by omega) hm (by decide) (pl_ld _ hm _) ?_
  refine v_assign rfl ?_
  refine v_nil ?_
  refine q_n ?_
  refine w_ret ?_
  refine r_r rfl ?_
  exact a_b (by rw [gr_eq hm])
theorem c48 (xs : List Slo) (b f : Int) (fr : Int) (hk : okP xs b f) (m n : Nat) (hn : cyc xs b = n) (hm : m < 8) (hf : 0 ≤ fr ∧ fr ≤ 1000) : PureC X 48 [.agg (pln false xs b f), cI m, cI fr] (.c (.sl true n 1 (flat bo (grL xs b f m n fr)))) := by
  refine PureC.of_body (drawD_ok X) (fun _ _ => Go.Proofs.Try.call48 _ _) Go.Proofs.Try.func48 rfl (n := 26) rfl ?_
  obtain ⟨n1, n2, n3, n4, n5⟩ := ok_n hk hn
  have hs := hk.1.2.1
  have hb2 := hk.1.2.2
  refine w_seq ?_
  refine w_reg rfl ?_
  refine v_box (m := 0) (H' := [_]) lay28 rfl rfl rfl ?_
  refine v_assign rfl ?_
  refine v_nil ?_
  refine q_n ?_
  refine w_seq ?_
  refine w_reg rfl ?_
  refine v_lit (flat bo []) (H' := [_, _]) lay73 lay4 rfl rfl ⟨by decide, by decide⟩ rfl rfl ?_
  refine v_assign rfl ?_
  refine v_nil ?_
  refine q_n ?_
  refine w_seq ?_
  refine w_seq ?_
  refine w_reg rfl ?_
  refine v_load_pt (.agg [_, _, _]) lay28 rfl rfl rfl rfl ?_
  refine v_call (c40 _ _ _ hs (by omega) (by omega)) rfl rfl rfl (.cons (vw_agg (.cons vw_sl (.cons vw_v (.cons vw_v .nil)))) .nil) ?_
  refine v_move (c := .v (.int .i64 0)) rfl ?_
  refine v_nil ?_
  refine q_n ?_
  refine w_block ?_
  refine w_loop (fun k sl H => ∃ i : Nat, k = n - i ∧ i ≤ n ∧ sl = sls [(1, cI m), (2, cI fr), (3, .c (.pt 0 0)), (7, .c (.mu 1 0 i 1)), (11, cI n), (12, cI i)] ∧ H = [⟨pln false xs b f, 28, true⟩, ⟨flat bo (grL0 xs b f m n fr i), 4, true⟩]) ?_ ?_
  · refine ⟨_, _, _, ?_, 0, rfl, Nat.zero_le _, rfl, rfl⟩
    exact turn [some 0, some 1] rfl rfl rfl ⟨⟨_, rfl, .cons tr_sl (.cons tr_v (.cons tr_v .nil))⟩, ⟨_, rfl, trc_flat bo_sc (xs := []) rfl⟩, trivial⟩ ⟨tr_v, tr_v, tr_pt rfl, tr_mun rfl rfl, tr_i hn, tr_v, trivial⟩
  rintro k sl H ⟨i, rfl, hi, rfl, rfl⟩
  refine w_seq ?_
  refine w_reg rfl ?_
  refine v_lss lay2 rfl rfl (fun h1 => ?_) (fun h1 => ?_)
  rotate_left
  · refine v_nil ?_
    refine q_n ?_
    refine w_seq ?_
    refine w_f rfl ?_
    refine w_exit ?_
    refine q_e ?_
    refine q_e ?_
    refine q_hit ?_
    refine q_n ?_
    refine w_seq ?_
    refine w_reg rfl ?_
    refine v_move rfl ?_
    refine v_assign rfl ?_
    refine v_nil ?_
    refine q_n ?_
    refine w_ret ?_
    refine r_r rfl ?_
    obtain rfl : i = n := by omega
    exact a_flat2 bo_sc bo_len rfl rfl (by simp [grL]) rfl
  refine v_nil ?_
  refine q_n ?_
  refine w_seq ?_
  refine w_t rfl ?_
  refine w_skip ?_
  refine q_n ?_
  refine w_seq ?_
  refine w_block ?_
  refine w_seq ?_
  refine w_reg rfl ?_
  refine v_move rfl ?_
  refine v_assign rfl ?_
  refine v_nil ?_
  refine q_n ?_
  refine w_reg rfl ?_
  refine v_move rfl ?_
  refine v_load_pt (.agg [_, _, _]) lay28 rfl rfl rfl rfl ?_
  refine v_move rfl ?_
  refine v_move rfl ?_
  refine v_move rfl ?_
  refine v_add lay2 rfl rfl (i64r (by omega)) ?_
  refine v_callb (c55 _ _ _ _ hk m n hn hm (by omega)) rfl rfl (.cons (vw_agg (.cons vw_sl (.cons vw_v (.cons vw_v .nil)))) (.cons vw_v (.cons vw_v .nil))) (fun h2 => ?_) (fun h2 => ?_)
  · refine v_lit (flat bo [true]) (H' := [_, _, _]) lay73 lay4 rfl rfl ⟨by decide, by decide⟩ rfl rfl ?_
    refine v_app_flat (H' := [_, _, _, _]) bo_sc bo_len lay73 lay4 rfl rfl (by simp [grL0]) rfl rfl (by simp) rfl rfl (by unfold maxLen; simp only []; omega) rfl rfl ?_
    refine v_assign rfl ?_
    refine v_nil ?_
    refine q_bn ?_
    refine q_n ?_
    refine w_reg rfl ?_
    refine v_add lay2 rfl rfl (i64r (by omega)) ?_
    refine v_move rfl ?_
    refine v_nil ?_
    refine q_n ?_
    refine ⟨_, _, _, ?_, ⟨i + 1, rfl, by omega, rfl, rfl⟩, by omega⟩
    exact turn [some 0, some 3] rfl rfl rfl ⟨⟨_, rfl, .cons tr_sl (.cons tr_v (.cons tr_v .nil))⟩, ⟨_, rfl, trc_flat bo_sc (snoc_eq _ i (by simpa using h2))⟩, trivial⟩ ⟨tr_v, tr_v, tr_pt rfl, tr_mun rfl (by simp), tr_v, tr_v, trivial⟩
  refine v_lit (flat bo [false]) (H' := [_, _, _]) lay73 lay4 rfl rfl ⟨by decide, by decide⟩ rfl rfl ?_
  refine v_app_flat (H' := [_, _, _, _]) bo_sc bo_len lay73 lay4 rfl rfl (by simp [grL0]) rfl rfl (by simp) rfl rfl (by unfold maxLen; simp only []; omega) rfl rfl ?_
  refine v_assign rfl ?_
  refine v_nil ?_
  refine q_bn ?_
  refine q_n ?_
  refine w_reg rfl ?_
  refine v_add lay2 rfl rfl (i64r (by omega)) ?_
  refine v_move rfl ?_
  refine v_nil ?_
  refine q_n ?_
  refine ⟨_, _, _, ?_, ⟨i + 1, rfl, by omega, rfl, rfl⟩, by omega⟩
  exact turn [some 0, some 3] rfl rfl rfl ⟨⟨_, rfl, .cons tr_sl (.cons tr_v (.cons tr_v .nil))⟩, ⟨_, rfl, trc_flat bo_sc (snoc_eq _ i (by simpa using h2))⟩, trivial⟩ ⟨tr_v, tr_v, tr_pt rfl, tr_mun rfl (by simp), tr_v, tr_v, trivial⟩
theorem c47 (L : List Bool) {q : Nat} (hL : L.length = q) (hx : q ≤ 2 ^ 40) : PureC X 47 [.c (.sl false q 1 (flat bo L)), cB true] (cI (fix (fun x => x = true) L)) := by
  refine PureC.of_body (drawD_ok X) (fun _ _ => Go.Proofs.Try.call47 _ _) Go.Proofs.Try.func47 rfl (n := 19) rfl ?_
  subst hL
  refine w_seq ?_
  refine w_reg rfl ?_
  refine v_assign (c := .v (.int .i64 0)) rfl ?_
  refine v_nil ?_
  refine q_n ?_
  refine w_seq ?_
  refine w_seq ?_
  refine w_reg rfl ?_
  refine v_move rfl ?_
  refine v_len_sl lay73 rfl ?_
  refine v_move (c := .v (.int .i64 0)) rfl ?_
  refine v_nil ?_
  refine q_n ?_
  refine w_block ?_
  refine w_loop (fun k sl H => ∃ i : Nat, k = L.length - i ∧ i ≤ L.length ∧ (∀ x ∈ L.take i, ¬ x = true) ∧ sl = sls [(0, .c (bls false L)), (1, cB true), (7, cI L.length), (8, cI i)] ∧ H = []) ?_ ?_
  · refine ⟨_, _, _, ?_, 0, rfl, Nat.zero_le _, by simp, rfl, rfl⟩
    exact turn0 ⟨tr_sl, tr_v, tr_v, tr_v, trivial⟩
  rintro k sl H ⟨i, rfl, hi, hp, rfl, rfl⟩
  refine w_seq ?_
  refine w_reg rfl ?_
  refine v_lss lay3 rfl rfl (fun h1 => ?_) (fun h1 => ?_)
  rotate_left
  · refine v_nil ?_
    refine q_n ?_
    refine w_seq ?_
    refine w_f rfl ?_
    refine w_exit ?_
    refine q_e ?_
    refine q_e ?_
    refine q_hit ?_
    refine q_n ?_
    refine w_seq ?_
    refine w_reg rfl ?_
    refine v_assign (c := .v (.int .i64 (-1))) rfl ?_
    refine v_nil ?_
    refine q_n ?_
    refine w_ret ?_
    refine r_r rfl ?_
    obtain rfl : i = L.length := by omega
    rw [List.take_length] at hp
    exact a_i (fix_none hp).symm
  have hj : i < L.length := by omega
  refine v_nil ?_
  refine q_n ?_
  refine w_seq ?_
  refine w_t rfl ?_
  refine w_skip ?_
  refine q_n ?_
  refine w_seq ?_
  refine w_block ?_
  refine w_seq ?_
  refine w_reg rfl ?_
  refine v_move rfl ?_
  refine v_assign rfl ?_
  refine v_nil ?_
  refine q_n ?_
  refine w_seq ?_
  refine w_reg rfl ?_
  refine v_move rfl ?_
  refine v_move rfl ?_
  refine v_move rfl ?_
  refine v_idx_e (k := 1) (i) bo_len lay73 lay4 rfl rfl rfl (rfl) rfl (rfl) ((by omega : i < L.length)) ?_
  refine v_load_vwb lay4 rfl rfl rfl (fun h3 => ?_) (fun h3 => ?_)
  · refine v_bin (c := .v (.bool true)) lay4 rfl rfl rfl ?_
    refine v_nil ?_
    refine q_n ?_
    refine w_t rfl ?_
    refine w_seq ?_
    refine w_reg rfl ?_
    refine v_move rfl ?_
    refine v_assign rfl ?_
    refine v_nil ?_
    refine q_n ?_
    refine w_ret (q_br (q_r (q_r (q_br (q_r ?_)))))
    refine r_r rfl ?_
    exact a_i (fix_hit hj hp h3).symm
  refine v_bin (c := .v (.bool false)) lay4 rfl rfl rfl ?_
  refine v_nil ?_
  refine q_n ?_
  refine w_f rfl ?_
  refine w_skip ?_
  refine q_bn ?_
  refine q_n ?_
  refine w_reg rfl ?_
  refine v_add lay3 rfl rfl (i64r (by omega)) ?_
  refine v_move rfl ?_
  refine v_nil ?_
  refine q_n ?_
  refine ⟨_, _, _, ?_, ⟨i + 1, rfl, by omega, all_step hj hp (by rw [h3]; decide), rfl, rfl⟩, by omega⟩
  exact turn0 ⟨tr_sl, tr_v, tr_v, tr_v, trivial⟩
theorem c72 (L : List Bool) {q : Nat} (hL : L.length = q) (hx : q ≤ 2 ^ 40) : PureC X 72 [.c (.sl false q 1 (flat bo L)), cB true] (cB (decide (∃ x ∈ L, x = true))) := by
  refine PureC.of_body (drawD_ok X) (fun _ _ => Go.Proofs.Try.call72 _ _) Go.Proofs.Try.func72 rfl (n := 9) rfl ?_
  refine w_seq ?_
  refine w_reg rfl ?_
  refine v_assign (c := .v (.bool false)) rfl ?_
  refine v_nil ?_
  refine q_n ?_
  refine w_seq ?_
  refine w_reg rfl ?_
  refine v_move rfl ?_
  refine v_move rfl ?_
  refine v_call (c47 _ hL (by omega)) rfl rfl rfl (.cons vw_sl (.cons vw_v .nil)) ?_
  refine v_geq lay3 rfl rfl (fun h1 => ?_) (fun h1 => ?_)
  · refine v_assign rfl ?_
    refine v_nil ?_
    refine q_n ?_
    refine w_ret ?_
    refine r_r rfl ?_
    exact a_b (by simp only [true_iff]; exact (fix_ge _ _).1 h1)
  refine v_assign rfl ?_
  refine v_nil ?_
  refine q_n ?_
  refine w_ret ?_
  refine r_r rfl ?_
  exact a_b (by simp only [Bool.false_eq_true, false_iff]; exact fun h => h1 ((fix_ge _ _).2 h))
end Go.VL
