/- Texts of one proof, put together: A3, A4, A5, B0, B1. -/
import Derived.Test.YtinnefdhocdmmaaDoorM3
import Derived.Test.YtinnefdhocdmmaaDoorRows
import Derived.ProofKit
import Derived.Below
import Derived.ChangeSame
import Derived.Handed
import Derived.KernelRfl
import Derived.LaidMore
import Derived.MakeChecks
import Derived.LaidHandle
namespace Go.VL
open Go.RowKit
set_option maxRecDepth 20000
set_option maxHeartbeats 8000000
theorem dig_at (n : Nat) : UInt8.ofNat (IntKind.u8.wrap (48 + (n : Int).tmod 10)).toNat = UInt8.ofNat (48 + n % 10) := by
  have e : (n : Int).tmod 10 = ((n % 10 : Nat) : Int) := rfl
  have h : IntKind.u8.wrap (48 + (n : Int).tmod 10) = ((48 + n % 10 : Nat) : Int) := by
    rw [e]
    refine wrap_of ?_
    show (0 : Int) ≤ _ ∧ _ ≤ (255 : Int)
    omega
  rw [h, Int.toNat_natCast]
theorem dig_one {n : Nat} (h : n < 10) : UInt8.ofNat (IntKind.u8.wrap (48 + (n : Int))).toNat = UInt8.ofNat (48 + n) := by
  have e : IntKind.u8.wrap (48 + (n : Int)) = ((48 + n : Nat) : Int) := by
    refine wrap_of ?_
    show (0 : Int) ≤ _ ∧ _ ≤ (255 : Int)
    omega
  rw [e, Int.toNat_natCast]
theorem dec_step {n : Nat} (h : ¬ n < 10) : Lib.decDigits (n / 10) ++ [UInt8.ofNat (48 + n % 10)] = Lib.decDigits n := by
  rw [Lib.decDigits.eq_1 n, dif_neg h]
theorem dec_len : ∀ n : Nat, (Lib.decDigits n).length ≤ n + 1 := by
  intro n
  induction n using Nat.strongRecOn with
  | ind n ih =>
    by_cases h : n < 10
    · rw [Lib.decDigits_one h]; simp
    · rw [← dec_step h, List.length_append]
      have := ih (n / 10) (by omega)
      simp only [List.length_cons, List.length_nil]
      omega
theorem dec_len2 {n : Nat} (h : n < 2 ^ 63) : (Lib.decDigits n).length ≤ 19 := by
  have h0 : ∀ (k n : Nat), n < 10 ^ k → (Lib.decDigits n).length ≤ k + (if k = 0 then 1 else 0) := by
    intro k
    induction k with
    | zero => intro n hn; obtain rfl : n = 0 := by omega
              rw [Lib.decDigits_one (by omega)]; decide
    | succ k ih =>
      intro n hn
      by_cases h : n < 10
      · rw [Lib.decDigits_one h]; simp
      · rw [← dec_step h, List.length_append]
        have hk : 0 < k := by
          rcases Nat.eq_zero_or_pos k with rfl | h1
          · exact absurd hn (by omega)
          · exact h1
        have := ih (n / 10) (by rw [Nat.pow_succ] at hn; omega)
        rw [if_neg (by omega)] at this
        simp only [List.length_cons, List.length_nil]
        omega
  have := h0 19 n (by omega)
  rw [if_neg (by omega)] at this
  exact this
abbrev itoa (a : Int) : List UInt8 := Lib.itoa a
theorem itoa_nat (n : Nat) : itoa (n : Int) = Lib.decDigits n := by
  unfold itoa Lib.itoa
  rw [if_neg (by omega), Int.toNat_natCast]
theorem itoa_len {a : Int} (h : 0 ≤ a ∧ a ≤ 9223372036854775807) : (itoa a).length ≤ 19 := by
  obtain ⟨n, rfl⟩ := Int.eq_ofNat_of_zero_le h.1
  rw [itoa_nat]
  exact dec_len2 (by omega)
/-- A deed that is valid. -/
def dOk (k a b : Int) : Prop := (1 ≤ k ∧ k ≤ 7) ∧ (0 ≤ a ∧ a ≤ 999) ∧ (0 ≤ b ∧ b ≤ 999) ∧ (k = 1 ∨ b = 0)
instance (k a b : Int) : Decidable (dOk k a b) := by unfold dOk; infer_instance
abbrev dc (k a b : Int) : List C := [.v (.int .i64 k), .v (.int .i64 a), .v (.int .i64 b)]
def wordS : List (List UInt8) := [] :: wordL
def toldS : List Int := [0, 2, 1, 1, 1, 1, 1, 1]
/-- The word of a kind. -/
def wd (k : Int) : List UInt8 := wordS.getD k.toNat []
theorem kinds {k : Int} (h : 1 ≤ k ∧ k ≤ 7) : k = 1 ∨ k = 2 ∨ k = 3 ∨ k = 4 ∨ k = 5 ∨ k = 6 ∨ k = 7 := by omega
theorem wd_s {k : Int} (h : 1 ≤ k ∧ k ≤ 7) (hq : k.toNat < wordS.length) : wordS[k.toNat] = wd k := by
  rcases kinds h with rfl | rfl | rfl | rfl | rfl | rfl | rfl <;> rfl
theorem wd_i {k : Int} {q : Nat} (h : 1 ≤ k ∧ k ≤ 7) (e : k - 1 = (q : Int)) (hq : q < wordL.length) : wordL[q] = wd k := by
  obtain rfl : q = (k - 1).toNat := by omega
  rcases kinds h with rfl | rfl | rfl | rfl | rfl | rfl | rfl <;> rfl
theorem wd_len {k : Int} (h : 1 ≤ k ∧ k ≤ 7) : (wd k).length ≤ 7 := by
  rcases kinds h with rfl | rfl | rfl | rfl | rfl | rfl | rfl <;> decide
theorem told_s {k : Int} (h : 1 ≤ k ∧ k ≤ 7) (hq : k.toNat < toldS.length) : toldS[k.toNat] = if k = 1 then 2 else 1 := by
  rcases kinds h with rfl | rfl | rfl | rfl | rfl | rfl | rfl <;> rfl
/-- A deed as text. -/
def dTx (k a b : Int) : List UInt8 := if dOk k a b then (if k = 1 then ((wd k ++ [32]) ++ itoa a) ++ ([32] ++ itoa b) else (wd k ++ [32]) ++ itoa a) else []
theorem dTx_1 {k a b : Int} (h : dOk k a b) (h1 : k = 1) : dTx k a b = ((wd k ++ [32]) ++ itoa a) ++ ([32] ++ itoa b) := by unfold dTx; rw [if_pos h, if_pos h1]
theorem dTx_2 {k a b : Int} (h : dOk k a b) (h1 : ¬ k = 1) : dTx k a b = (wd k ++ [32]) ++ itoa a := by unfold dTx; rw [if_pos h, if_neg h1]
theorem dTx_0 {k a b : Int} (h : ¬ dOk k a b) : dTx k a b = [] := by unfold dTx; rw [if_neg h]
/-- The kind that a word tells, among the words before i. -/
def kS (l : List UInt8) : Nat → Int
  | 0 => 0
  | i + 1 => if 1 ≤ i ∧ wordS.getD i [] = l then (i : Int) else kS l i
theorem kS_rng (l : List UInt8) : ∀ i : Nat, 0 ≤ kS l i ∧ kS l i ≤ i
  | 0 => ⟨Int.le_refl _, Int.le_refl _⟩
  | i + 1 => by
    have := kS_rng l i
    unfold kS
    split <;> omega
theorem kS_lt (l : List UInt8) : ∀ i : Nat, 0 < i → kS l i < i
  | 0, h => by omega
  | i + 1, h => by
    have := kS_rng l i
    unfold kS
    split <;> omega
theorem kS_hit {l : List UInt8} {i : Nat} (h1 : 1 ≤ i) (hq : i < wordS.length) (e : wordS[i] = l) : (i : Int) = kS l (i + 1) := by
  unfold kS
  rw [if_pos ⟨h1, by rw [List.getD, List.getElem?_eq_getElem hq]; exact e⟩]
theorem kS_miss {l : List UInt8} {i : Nat} (hq : i < wordS.length) (e : ¬ wordS[i] = l) : kS l i = kS l (i + 1) := by
  show _ = (if 1 ≤ i ∧ wordS.getD i [] = l then (i : Int) else kS l i)
  rw [if_neg (fun h => e (by have := h.2; rwa [List.getD, List.getElem?_eq_getElem hq] at this))]
theorem told_rng : ∀ (q : Nat) (h : q < toldS.length), 0 ≤ toldS[q] ∧ toldS[q] ≤ 2 := by decide
abbrev D4 := (Int × Int × Int) × Int
def bad : D4 := ((0, 0, 0), 5)
/-- What the reference reads. -/
def rdS (w0 : List UInt8) (wr : List (List UInt8)) : D4 :=
  if kS w0 8 = 0 ∨ ((wr.length : Nat) : Int) ≠ toldS.getD (kS w0 8).toNat 0 then bad
  else if (∀ w ∈ wr, nine w) ∧ dOk (kS w0 8) (nineV (wr.getD 0 [])) (nineV (wr.getD 1 [])) then ((kS w0 8, nineV (wr.getD 0 []), nineV (wr.getD 1 [])), 0) else bad
/-- What the program reads. -/
def kI (w0 : List UInt8) : Int := fix (fun x => w0 = x) wordL + 1
def bI (w0 : List UInt8) (wr : List (List UInt8)) : Int := if kI w0 = 1 then pn (wr.getD 1 []) else 0
def rdI (s w0 : List UInt8) (wr : List (List UInt8)) : D4 :=
  if dOk (kI w0) (pn (wr.getD 0 [])) (bI w0 wr) ∧ dTx (kI w0) (pn (wr.getD 0 [])) (bI w0 wr) = s then ((kI w0, pn (wr.getD 0 []), bI w0 wr), 0) else bad
theorem rdI_a {s w0 x1 x2 : List UInt8} {wr : List (List UInt8)} (hk : kI w0 = 1) (e1 : x1 = wr.getD 0 []) (e2 : x2 = wr.getD 1 []) (h : dOk (kI w0) (pn x1) (pn x2)) (h2 : dTx (kI w0) (pn x1) (pn x2) = s) : rdI s w0 wr = ((kI w0, pn x1, pn x2), 0) := by
  subst e1 e2
  unfold rdI bI
  rw [if_pos hk, if_pos ⟨h, h2⟩]
theorem rdI_an {s w0 x1 x2 : List UInt8} {wr : List (List UInt8)} (hk : kI w0 = 1) (e1 : x1 = wr.getD 0 []) (e2 : x2 = wr.getD 1 []) (h : ¬ (dOk (kI w0) (pn x1) (pn x2) ∧ dTx (kI w0) (pn x1) (pn x2) = s)) : rdI s w0 wr = bad := by
  subst e1 e2
  unfold rdI bI
  rw [if_pos hk, if_neg h]
theorem rdI_b {s w0 x1 : List UInt8} {wr : List (List UInt8)} (hk : ¬ kI w0 = 1) (e1 : x1 = wr.getD 0 []) (h : dOk (kI w0) (pn x1) 0) (h2 : dTx (kI w0) (pn x1) 0 = s) : rdI s w0 wr = ((kI w0, pn x1, 0), 0) := by
  subst e1
  unfold rdI bI
  rw [if_neg hk, if_pos ⟨h, h2⟩]
theorem rdI_bn {s w0 x1 : List UInt8} {wr : List (List UInt8)} (hk : ¬ kI w0 = 1) (e1 : x1 = wr.getD 0 []) (h : ¬ (dOk (kI w0) (pn x1) 0 ∧ dTx (kI w0) (pn x1) 0 = s)) : rdI s w0 wr = bad := by
  subst e1
  unfold rdI bI
  rw [if_neg hk, if_neg h]
abbrev dr (r : D4) : V := .tup [.agg (dc r.1.1 r.1.2.1 r.1.2.2), cI r.2]
theorem rdS_b1 {w0 : List UInt8} {wr : List (List UInt8)} (h : kS w0 8 = 0) : rdS w0 wr = bad := by unfold rdS; rw [if_pos (.inl h)]
theorem rdS_b2 {w0 : List UInt8} {wr : List (List UInt8)} (hq : (kS w0 8).toNat < toldS.length) (h : ¬ ((wr.length + 1 : Nat) : Int) = toldS[(kS w0 8).toNat] + 1) : rdS w0 wr = bad := by
  unfold rdS
  rw [if_pos (.inr fun e => h (by rw [List.getD, List.getElem?_eq_getElem hq] at e; simp only [Option.getD_some] at e; omega))]
theorem rdS_b3 {w0 : List UInt8} {wr : List (List UInt8)} {w : List UInt8} (hw : w ∈ wr) (h : ¬ nine w) : rdS w0 wr = bad := by
  unfold rdS
  split
  · rfl
  · rw [if_neg (fun hh => h (hh.1 w hw))]
theorem rdS_b4 {w0 : List UInt8} {wr : List (List UInt8)} (h : ¬ dOk (kS w0 8) (nineV (wr.getD 0 [])) (nineV (wr.getD 1 []))) : rdS w0 wr = bad := by
  unfold rdS
  split
  · rfl
  · rw [if_neg (fun hh => h hh.2)]
theorem rdS_ok {w0 : List UInt8} {wr : List (List UInt8)} (h0 : ¬ kS w0 8 = 0) (hq : (kS w0 8).toNat < toldS.length) (h1 : ((wr.length + 1 : Nat) : Int) = toldS[(kS w0 8).toNat] + 1) (h2 : ∀ w ∈ wr, nine w) (h3 : dOk (kS w0 8) (nineV (wr.getD 0 [])) (nineV (wr.getD 1 []))) :
    rdS w0 wr = ((kS w0 8, nineV (wr.getD 0 []), nineV (wr.getD 1 [])), 0) := by
  unfold rdS
  rw [if_neg (fun h => ?_), if_pos ⟨h2, h3⟩]
  rcases h with h | h
  · exact h0 h
  · exact h (by rw [List.getD, List.getElem?_eq_getElem hq]; simp only [Option.getD_some]; omega)
def av (wr : List (List UInt8)) (i : Nat) : Int := if 1 < i then nineV (wr.getD 0 []) else 0
def bv (wr : List (List UInt8)) (i : Nat) : Int := if 2 < i then nineV (wr.getD 1 []) else 0
theorem trc_d {H : List Ob} {g : List (Option Nat)} {a b c a' b' c' : Int} (h1 : a = a') (h2 : b = b') (h3 : c = c') : TrC H g (dc a b c) (dc a' b' c') := by
  subst h1 h2 h3
  exact .cons tr_v (.cons tr_v (.cons tr_v .nil))
theorem d_get {wr : List (List UInt8)} {j : Nat} (h : j < wr.length) : wr.getD j [] = wr[j] := by rw [List.getD, List.getElem?_eq_getElem h]; rfl
theorem d_none {wr : List (List UInt8)} {j : Nat} (h : wr.length ≤ j) : wr.getD j [] = [] := by rw [List.getD, List.getElem?_eq_none h]; rfl
theorem nineV_nil : nineV [] = 0 := by decide
theorem av_end {wr : List (List UInt8)} {i : Nat} (h : i = wr.length + 1) : av wr i = nineV (wr.getD 0 []) ∧ bv wr i = nineV (wr.getD 1 []) := by
  subst h
  unfold av bv
  constructor
  · split
    · rfl
    · rw [d_none (by omega), nineV_nil]
  · split
    · rfl
    · rw [d_none (by omega), nineV_nil]
theorem ext_get (w0 : List UInt8) : ∀ (wr : List (List UInt8)) (h : 1 < ((w0 :: wr) ++ [[], []]).length), ((w0 :: wr) ++ [[], []])[1] = wr.getD 0 []
  | [], _ => rfl
  | _ :: _, _ => rfl
theorem ext_get2 (w0 : List UInt8) : ∀ (wr : List (List UInt8)) (h : 2 < ((w0 :: wr) ++ [[], []]).length), ((w0 :: wr) ++ [[], []])[2] = wr.getD 1 []
  | [], _ => rfl
  | [_], _ => rfl
  | _ :: _ :: _, _ => rfl
theorem fix_rng {α : Type} (pr : α → Prop) [DecidablePred pr] (xs : List α) : -1 ≤ fix pr xs ∧ fix pr xs < (xs.length + 1 : Nat) := by
  unfold fix
  cases h : xs.findIdx? (fun x => decide (pr x)) with
  | none => exact ⟨Int.le_refl _, by show (-1 : Int) < _; omega⟩
  | some i =>
    have := (List.findIdx?_eq_some_iff_getElem.1 h).1
    exact ⟨by show -1 ≤ (i : Int); omega, by show (i : Int) < _; omega⟩
theorem pn_rng (s : List UInt8) : -9223372036854775808 ≤ pn s ∧ pn s ≤ 9223372036854775807 := by
  unfold pn
  cases h : Lib.parseIntB 64 s with
  | ok v => exact parse_rng h
  | «syntax» => exact ⟨by show (-9223372036854775808 : Int) ≤ 0; decide, by show (0 : Int) ≤ 9223372036854775807; decide⟩
  | range =>
    simp only
    unfold Lib.intSat
    split <;> omega
theorem av_hit {wr : List (List UInt8)} {j : Nat} (h : j = 0) (hj : j < wr.length) : nineV wr[j] = av wr (j + 1 + 1) := by
  subst h
  unfold av
  rw [if_pos (by omega), d_get hj]
theorem bv_0 {wr : List (List UInt8)} {j : Nat} (h : j = 0) : bv wr (j + 1) = bv wr (j + 1 + 1) := by
  subst h
  rfl
theorem av_1 {wr : List (List UInt8)} {j : Nat} (h : 1 ≤ j) : av wr (j + 1) = av wr (j + 1 + 1) := by
  unfold av
  rw [if_pos (by omega), if_pos (by omega)]
theorem bv_hit {wr : List (List UInt8)} {j : Nat} (h : j = 1) (hj : j < wr.length) : nineV wr[j] = bv wr (j + 1 + 1) := by
  subst h
  unfold bv
  rw [if_pos (by omega), d_get hj]
variable [Inhabited Env]
theorem cFmt (n : Int) (h : -9223372036854775808 ≤ n ∧ n ≤ 9223372036854775807) : PureC X 62 [cI n, cI 10] (cS (itoa n)) :=
  PureC.of_calls (fun _ _ => Go.Proofs.Tryd.call62 _ _) fun w F μ arr hS hr => by
    obtain ⟨x, y, rfl, h1, h2⟩ := two_args hr
    obtain rfl := rv_v h1
    obtain rfl := rv_v h2
    have ht := tab_of hS (g := 3) (vs := Lib.pow10Tab.map (Value.int .u64)) (by show _ ∈ GL; simp [GL]) (name := "internal/strconv.uint64pow10") (by kernel_rfl)
    exact (Go.Proofs.Tryd.internal_strconv_FormatInt_10 n h.1 h.2 w ht).mono fun e w' ⟨he, k, os, hw⟩ => ⟨_, he, hw ▸ Lib.below_grow _ w (Nat.le_refl _) k os, .c (.fz (.v rfl))⟩

theorem cFmtP (n : Int) (h : -9223372036854775808 ≤ n ∧ n ≤ 9223372036854775807) : PureC X 43 [cI n, cI 10] (cS (itoa n)) := by
  refine PureC.of_body (drawD_ok X) (fun _ _ => Go.Proofs.Tryd.call43 _ _) Go.Proofs.Tryd.func43 rfl (n := 8) rfl ?_
  refine w_seq ?_
  refine w_reg rfl ?_
  refine v_assign (c := .v _) rfl ?_
  refine v_nil ?_
  refine q_n ?_
  refine w_seq ?_
  refine w_reg rfl ?_
  refine v_move rfl ?_
  refine v_move rfl ?_
  refine v_call (cFmt _ (by assumption)) rfl rfl rfl (.cons vw_v (.cons vw_v .nil)) ?_
  refine v_assign rfl ?_
  refine v_nil ?_
  refine q_n ?_
  refine w_ret ?_
  refine r_r rfl ?_
  exact tr_v

theorem cDeci (n : Int) (h : -9223372036854775808 ≤ n ∧ n ≤ 9223372036854775807) : PureC X 25 [cI n] (cS (itoa n)) := by
  refine PureC.of_body (drawD_ok X) (fun _ _ => Go.Proofs.Tryd.call25 _ _) Go.Proofs.Tryd.func25 rfl (n := 5) rfl ?_
  refine w_seq ?_
  refine w_reg rfl ?_
  refine v_assign (c := .v _) rfl ?_
  refine v_nil ?_
  refine q_n ?_
  refine w_seq ?_
  refine w_reg rfl ?_
  refine v_move rfl ?_
  refine v_call (cFmtP _ (by assumption)) rfl rfl rfl (.cons vw_v (.cons vw_v .nil)) ?_
  refine v_assign rfl ?_
  refine v_nil ?_
  refine q_n ?_
  refine w_ret ?_
  refine r_r rfl ?_
  exact tr_v

theorem cDecS1 (n : Nat) (hn : n < 2 ^ 63) (ih : ∀ m : Nat, m < n → PureC X 23 [cI (m : Int)] (cS (Lib.decDigits m))) : PureC X 23 [cI (n : Int)] (cS (Lib.decDigits n)) := by
  refine PureC.of_body (drawD_ok X) (fun _ _ => Go.Proofs.Tryd.call23 _ _) Go.Proofs.Tryd.func23 rfl (n := 20) rfl ?_
  have e1 : (n : Int).tdiv 10 = ((n / 10 : Nat) : Int) := rfl
  have e2 : (n : Int).tmod 10 = ((n % 10 : Nat) : Int) := rfl
  refine w_seq ?_
  refine w_reg rfl ?_
  refine v_assign (c := .v _) rfl ?_
  refine v_nil ?_
  refine q_n ?_
  refine w_seq ?_
  refine w_seq ?_
  refine w_reg rfl ?_
  refine v_move rfl ?_
  refine v_geq lay2 rfl rfl (fun h1 => ?_) (fun h1 => ?_)
  rotate_left
  · refine v_nil ?_
    refine q_n ?_
    refine w_f rfl ?_
    refine w_skip ?_
    refine q_n ?_
    refine w_seq ?_
    refine w_reg rfl ?_
    refine v_move rfl ?_
    refine v_add lay2 rfl rfl (i64r (by first | (rw [e2]; omega) | omega)) ?_
    refine v_conv_iw lay2 lay5 rfl ?_
    refine v_lit (flat byt [_]) (H' := [_]) lay84 lay5 rfl rfl ⟨by decide, by decide⟩ rfl rfl ?_
    refine v_conv_live rfl lay84 lay9 lay5 rfl rfl (Nat.le_refl _) rfl (by decide) ?_
    refine v_assign rfl ?_
    refine v_nil ?_
    refine q_n ?_
    refine w_ret ?_
    refine r_r rfl ?_
    exact a_s (by rw [Lib.decDigits_one (by omega), ← dig_one (by omega)]; rfl)
  refine v_nil ?_
  refine q_n ?_
  refine w_t rfl ?_
  refine w_seq ?_
  refine w_draw [0, 1, 3, 0, 8, 24, 56, 120, 248, 511, 1023] [⟨0, 0, []⟩, ⟨1, 0, []⟩, ⟨2, 0, []⟩, ⟨3, 0, []⟩, ⟨4, 0, []⟩, ⟨5, 0, []⟩, ⟨6, 0, []⟩, ⟨7, 2, []⟩, ⟨8, 0, []⟩, ⟨9, 0, []⟩, ⟨10, 0, []⟩] rfl rfl ?_
  refine d_q rfl rfl rfl rfl rfl ?_
  refine v_move rfl ?_
  refine v_nil ?_
  refine d_q rfl rfl rfl rfl rfl ?_
  refine v_quo lay2 rfl rfl (by decide) (i64r (by rw [e1]; omega)) ?_
  refine v_nil ?_
  refine d_call (ih (n / 10) (by omega)) rfl rfl rfl rfl rfl (.cons vw_v .nil) ?_
  refine d_q rfl rfl rfl rfl rfl ?_
  refine v_move rfl ?_
  refine v_nil ?_
  refine d_q rfl rfl rfl rfl rfl ?_
  refine v_rem lay2 rfl rfl (by decide) ?_
  refine v_nil ?_
  refine d_q rfl rfl rfl rfl rfl ?_
  refine v_add lay2 rfl rfl (i64r (by first | (rw [e2]; omega) | omega)) ?_
  refine v_nil ?_
  refine d_q rfl rfl rfl rfl rfl ?_
  refine v_conv_iw lay2 lay5 rfl ?_
  refine v_nil ?_
  refine d_z (.c (.sl true 1 1 (flat byt [IntKind.u8.wrap (48 + (n : Int).tmod 10)]))) rfl rfl rfl ?_
  refine d_q rfl rfl rfl rfl rfl ?_
  refine v_conv_tx lay84 lay9 lay5 rfl (rfl) ?_
  refine v_nil ?_
  refine d_q rfl rfl rfl rfl rfl ?_
  refine v_sadd lay9 rfl rfl (by have := dec_len2 (n := n / 10) (by omega); unfold maxLen; simp only [List.length_map, List.length_cons, List.length_nil]; omega) ?_
  refine v_nil ?_
  refine d_q rfl rfl rfl rfl rfl ?_
  refine v_assign rfl ?_
  refine v_nil ?_
  refine d_nil ?_
  refine q_n ?_
  refine w_ret (q_r ?_)
  refine r_r rfl ?_
  exact a_s (by rw [← dec_step (n := n) (by omega), ← dig_at]; rfl)

theorem cDecS : ∀ n : Nat, n < 2 ^ 63 → PureC X 23 [cI (n : Int)] (cS (Lib.decDigits n)) := by
  intro n
  induction n using Nat.strongRecOn with
  | ind n ih => exact fun hn => cDecS1 n hn fun m hm => ih m hm (by omega)
theorem cDecI (a : Int) (h : 0 ≤ a ∧ a ≤ 9223372036854775807) : PureC X 23 [cI a] (cS (itoa a)) := by
  obtain ⟨n, rfl⟩ := Int.eq_ofNat_of_zero_le h.1
  rw [itoa_nat]
  exact cDecS n (by omega)


theorem cInR (a lo hi : Int) : PureC X 42 [cI a, cI lo, cI hi] (cB (decide (lo ≤ a ∧ a ≤ hi))) := by
  refine PureC.of_body (drawD_ok X) (fun _ _ => Go.Proofs.Tryd.call42 _ _) Go.Proofs.Tryd.func42 rfl (n := 15) rfl ?_
  refine w_seq ?_
  refine w_reg rfl ?_
  refine v_assign (c := .v (.bool false)) rfl ?_
  refine v_nil ?_
  refine q_n ?_
  refine w_seq ?_
  refine w_reg rfl ?_
  refine v_move rfl ?_
  refine v_move rfl ?_
  refine v_leq lay2 rfl rfl (fun h1 => ?_) (fun h1 => ?_)
  rotate_left
  · refine v_move rfl ?_
    refine v_guard_off rfl rfl rfl ?_
    refine v_guard_off rfl rfl rfl ?_
    refine v_guard_off rfl rfl rfl ?_
    refine v_pick_f (v := .v (.bool false)) rfl rfl ?_
    refine v_assign rfl ?_
    refine v_nil ?_
    refine q_n ?_
    refine w_ret ?_
    refine r_r rfl ?_
    exact a_b (by simp <;> omega)
  refine v_move rfl ?_
  refine v_guard_on rfl rfl ?_
  refine v_move rfl ?_
  refine v_guard_on rfl rfl ?_
  refine v_move rfl ?_
  refine v_guard_on rfl rfl ?_
  refine v_leq lay2 rfl rfl (fun h2 => ?_) (fun h2 => ?_)
  · refine v_pick_t rfl rfl ?_
    refine v_assign rfl ?_
    refine v_nil ?_
    refine q_n ?_
    refine w_ret ?_
    refine r_r rfl ?_
    exact a_b (by simp <;> omega)
  refine v_pick_t rfl rfl ?_
  refine v_assign rfl ?_
  refine v_nil ?_
  refine q_n ?_
  refine w_ret ?_
  refine r_r rfl ?_
  exact a_b (by simp <;> omega)

theorem cIn (a lo hi : Int) : PureC X 41 [cI a, cI lo, cI hi] (cB (decide (lo ≤ a ∧ a ≤ hi))) := by
  refine PureC.of_body (drawD_ok X) (fun _ _ => Go.Proofs.Tryd.call41 _ _) Go.Proofs.Tryd.func41 rfl (n := 15) rfl ?_
  refine w_seq ?_
  refine w_reg rfl ?_
  refine v_assign (c := .v (.bool false)) rfl ?_
  refine v_nil ?_
  refine q_n ?_
  refine w_seq ?_
  refine w_reg rfl ?_
  refine v_move rfl ?_
  refine v_move rfl ?_
  refine v_geq lay2 rfl rfl (fun h1 => ?_) (fun h1 => ?_)
  rotate_left
  · refine v_move rfl ?_
    refine v_guard_off rfl rfl rfl ?_
    refine v_guard_off rfl rfl rfl ?_
    refine v_guard_off rfl rfl rfl ?_
    refine v_pick_f (v := .v (.bool false)) rfl rfl ?_
    refine v_assign rfl ?_
    refine v_nil ?_
    refine q_n ?_
    refine w_ret ?_
    refine r_r rfl ?_
    exact a_b (by simp <;> omega)
  refine v_move rfl ?_
  refine v_guard_on rfl rfl ?_
  refine v_move rfl ?_
  refine v_guard_on rfl rfl ?_
  refine v_move rfl ?_
  refine v_guard_on rfl rfl ?_
  refine v_leq lay2 rfl rfl (fun h2 => ?_) (fun h2 => ?_)
  · refine v_pick_t rfl rfl ?_
    refine v_assign rfl ?_
    refine v_nil ?_
    refine q_n ?_
    refine w_ret ?_
    refine r_r rfl ?_
    exact a_b (by simp <;> omega)
  refine v_pick_t rfl rfl ?_
  refine v_assign rfl ?_
  refine v_nil ?_
  refine q_n ?_
  refine w_ret ?_
  refine r_r rfl ?_
  exact a_b (by simp <;> omega)

theorem cCodeIft (x : Int) : PureC X 79 [cB true, cI x] (cI x) := by
  refine PureC.of_body (drawD_ok X) (fun _ _ => Go.Proofs.Tryd.call79 _ _) Go.Proofs.Tryd.func79 rfl (n := 7) rfl ?_
  refine w_seq ?_
  refine w_reg rfl ?_
  refine v_assign (c := .v (.int .i64 0)) rfl ?_
  refine v_nil ?_
  refine q_n ?_
  refine w_seq ?_
  refine w_seq ?_
  refine w_reg rfl ?_
  refine v_move rfl ?_
  refine v_nil ?_
  refine q_n ?_
  refine w_t rfl ?_
  refine w_seq ?_
  refine w_reg rfl ?_
  refine v_move rfl ?_
  refine v_assign rfl ?_
  refine v_nil ?_
  refine q_n ?_
  refine w_ret (q_r ?_)
  refine r_r rfl ?_
  exact tr_v

theorem cCodeIff (x : Int) : PureC X 79 [cB false, cI x] (cI 0) := by
  refine PureC.of_body (drawD_ok X) (fun _ _ => Go.Proofs.Tryd.call79 _ _) Go.Proofs.Tryd.func79 rfl (n := 7) rfl ?_
  refine w_seq ?_
  refine w_reg rfl ?_
  refine v_assign (c := .v (.int .i64 0)) rfl ?_
  refine v_nil ?_
  refine q_n ?_
  refine w_seq ?_
  refine w_seq ?_
  refine w_reg rfl ?_
  refine v_move rfl ?_
  refine v_nil ?_
  refine q_n ?_
  refine w_f rfl ?_
  refine w_skip ?_
  refine q_n ?_
  refine w_seq ?_
  refine w_reg rfl ?_
  refine v_assign (c := .v (.int .i64 0)) rfl ?_
  refine v_nil ?_
  refine q_n ?_
  refine w_ret ?_
  refine r_r rfl ?_
  exact tr_v

theorem cCodeIf (b : Bool) (x : Int) : PureC X 79 [cB b, cI x] (cI (if b then x else 0)) := by
  cases b
  · exact cCodeIff x
  · exact cCodeIft x

theorem cFirst (xs : List Int) (hx : xs.length ≤ 2 ^ 40) : PureC X 78 [.c (ints false xs)] (cI (firstNZ xs)) := by
  refine PureC.of_body (drawD_ok X) (fun _ _ => Go.Proofs.Tryd.call78 _ _) Go.Proofs.Tryd.func78 rfl (n := 15) rfl ?_
  refine w_seq ?_
  refine w_reg rfl ?_
  refine v_assign (c := .v (.int .i64 0)) rfl ?_
  refine v_nil ?_
  refine q_n ?_
  refine w_seq ?_
  refine w_seq ?_
  refine w_reg rfl ?_
  refine v_move rfl ?_
  refine v_len_sl lay71 rfl ?_
  refine v_move (c := .v (.int .i64 0)) rfl ?_
  refine v_nil ?_
  refine q_n ?_
  refine w_block ?_
  refine w_loop (fun k sl H => ∃ i : Nat, k = xs.length - i ∧ i ≤ xs.length ∧ (∀ x ∈ xs.take i, x = 0) ∧ sl = sls [(5, .c (ints false xs)), (6, cI xs.length), (7, cI i)] ∧ H = []) ?_ ?_
  · refine ⟨_, _, _, ?_, 0, rfl, Nat.zero_le _, by simp, rfl, rfl⟩
    exact turn0 ⟨tr_sl, tr_v, tr_v, trivial⟩
  rintro k sl H ⟨i, rfl, hi, hp, rfl, rfl⟩
  refine w_seq ?_
  refine w_reg rfl ?_
  refine v_lss lay3 rfl rfl (fun h1 => ?_) (fun h1 => ?_)
  rotate_left
  · refine v_nil ?_
    refine q_n ?_
    refine w_seq ?_
    refine w_f rfl ?_
    refine w_exit ?_
    refine q_e ?_
    refine q_e ?_
    refine q_hit ?_
    refine q_n ?_
    refine w_seq ?_
    refine w_reg rfl ?_
    refine v_assign (c := .v (.int .i64 0)) rfl ?_
    refine v_nil ?_
    refine q_n ?_
    refine w_ret ?_
    refine r_r rfl ?_
    obtain rfl : i = xs.length := by omega
    rw [List.take_length] at hp
    exact a_i (firstNZ_none hp).symm
  have hj : i < xs.length := by omega
  refine v_nil ?_
  refine q_n ?_
  refine w_seq ?_
  refine w_t rfl ?_
  refine w_skip ?_
  refine q_n ?_
  refine w_seq ?_
  refine w_block ?_
  refine w_seq ?_
  refine w_reg rfl ?_
  refine v_idx_e (k := 1) (i) int_len lay71 lay2 rfl rfl rfl (rfl) rfl (rfl) ((by omega : i < xs.length)) ?_
  refine v_load_vw (.c (.v _)) lay2 rfl rfl rfl ?_
  refine v_assign rfl ?_
  refine v_nil ?_
  refine q_n ?_
  refine w_seq ?_
  refine w_reg rfl ?_
  refine v_move rfl ?_
  refine v_neq lay2 rfl rfl (fun h3 => ?_) (fun h3 => ?_)
  · refine v_nil ?_
    refine q_n ?_
    refine w_t rfl ?_
    refine w_seq ?_
    refine w_reg rfl ?_
    refine v_move rfl ?_
    refine v_assign rfl ?_
    refine v_nil ?_
    refine q_n ?_
    refine w_ret (q_br (q_r (q_r (q_br (q_r ?_)))))
    refine r_r rfl ?_
    exact a_i (firstNZ_hit hj hp h3).symm
  refine v_nil ?_
  refine q_n ?_
  refine w_f rfl ?_
  refine w_skip ?_
  refine q_bn ?_
  refine q_n ?_
  refine w_reg rfl ?_
  refine v_add lay3 rfl rfl (i64r (by omega)) ?_
  refine v_move rfl ?_
  refine v_nil ?_
  refine q_n ?_
  refine ⟨_, _, _, ?_, ⟨i + 1, rfl, by omega, all_step hj hp h3, rfl, rfl⟩, by omega⟩
  exact turn0 ⟨tr_sl, tr_v, tr_v, trivial⟩

theorem cDOkS (k a b : Int) : PureC X 21 [.agg (dc k a b)] (cB (decide (dOk k a b))) := by
  refine PureC.of_body (drawD_ok X) (fun _ _ => Go.Proofs.Tryd.call21 _ _) Go.Proofs.Tryd.func21 rfl (n := 27) rfl ?_
  refine w_seq ?_
  refine w_reg rfl ?_
  refine v_box (m := 0) (H' := [_]) lay25 rfl rfl rfl ?_
  refine v_assign (c := .v (.bool false)) rfl ?_
  refine v_nil ?_
  refine q_n ?_
  refine w_seq ?_
  refine w_seq ?_
  refine w_reg rfl ?_
  refine v_fa_pt (off' := 0) lay25 rfl rfl rfl ?_
  refine v_load_pt (.c _) lay2 rfl rfl rfl rfl ?_
  refine v_callb (cIn _ _ _) rfl rfl (.cons vw_v (.cons vw_v (.cons vw_v .nil))) (fun h1 => ?_) (fun h1 => ?_)
  rotate_left
  · refine v_not true rfl rfl ?_
    refine v_move rfl ?_
    refine v_guard_off rfl rfl rfl ?_
    refine v_guard_off rfl rfl rfl ?_
    refine v_guard_off rfl rfl rfl ?_
    refine v_guard_off rfl rfl rfl ?_
    refine v_pick_t (v := .v (.bool true)) rfl rfl ?_
    refine v_move rfl ?_
    refine v_guard_off rfl rfl rfl ?_
    refine v_guard_off rfl rfl rfl ?_
    refine v_guard_off rfl rfl rfl ?_
    refine v_guard_off rfl rfl rfl ?_
    refine v_pick_t (v := .v (.bool true)) rfl rfl ?_
    refine v_nil ?_
    refine q_n ?_
    refine w_t rfl ?_
    refine w_seq ?_
    refine w_reg rfl ?_
    refine v_assign (c := .v (.bool false)) rfl ?_
    refine v_nil ?_
    refine q_n ?_
    refine w_ret (q_r ?_)
    refine r_r rfl ?_
    exact a_b (by unfold dOk; first | (simp_all; done) | (simp_all; omega) | grind)
  refine v_not false rfl rfl ?_
  refine v_move rfl ?_
  refine v_guard_on rfl rfl ?_
  refine v_fa_pt (off' := 1) lay25 rfl rfl rfl ?_
  refine v_guard_on rfl rfl ?_
  refine v_load_pt (.c _) lay2 rfl rfl rfl rfl ?_
  refine v_guard_on rfl rfl ?_
  refine v_callb (cIn _ _ _) rfl rfl (.cons vw_v (.cons vw_v (.cons vw_v .nil))) (fun h2 => ?_) (fun h2 => ?_)
  rotate_left
  · refine v_guard_on rfl rfl ?_
    refine v_not true rfl rfl ?_
    refine v_pick_f rfl rfl ?_
    refine v_move rfl ?_
    refine v_guard_off rfl rfl rfl ?_
    refine v_guard_off rfl rfl rfl ?_
    refine v_guard_off rfl rfl rfl ?_
    refine v_guard_off rfl rfl rfl ?_
    refine v_pick_t (v := .v (.bool true)) rfl rfl ?_
    refine v_nil ?_
    refine q_n ?_
    refine w_t rfl ?_
    refine w_seq ?_
    refine w_reg rfl ?_
    refine v_assign (c := .v (.bool false)) rfl ?_
    refine v_nil ?_
    refine q_n ?_
    refine w_ret (q_r ?_)
    refine r_r rfl ?_
    exact a_b (by unfold dOk; first | (simp_all; done) | (simp_all; omega) | grind)
  refine v_guard_on rfl rfl ?_
  refine v_not false rfl rfl ?_
  refine v_pick_f rfl rfl ?_
  refine v_move rfl ?_
  refine v_guard_on rfl rfl ?_
  refine v_fa_pt (off' := 2) lay25 rfl rfl rfl ?_
  refine v_guard_on rfl rfl ?_
  refine v_load_pt (.c _) lay2 rfl rfl rfl rfl ?_
  refine v_guard_on rfl rfl ?_
  refine v_callb (cIn _ _ _) rfl rfl (.cons vw_v (.cons vw_v (.cons vw_v .nil))) (fun h3 => ?_) (fun h3 => ?_)
  rotate_left
  · refine v_guard_on rfl rfl ?_
    refine v_not true rfl rfl ?_
    refine v_pick_f rfl rfl ?_
    refine v_nil ?_
    refine q_n ?_
    refine w_t rfl ?_
    refine w_seq ?_
    refine w_reg rfl ?_
    refine v_assign (c := .v (.bool false)) rfl ?_
    refine v_nil ?_
    refine q_n ?_
    refine w_ret (q_r ?_)
    refine r_r rfl ?_
    exact a_b (by unfold dOk; first | (simp_all; done) | (simp_all; omega) | grind)
  refine v_guard_on rfl rfl ?_
  refine v_not false rfl rfl ?_
  refine v_pick_f rfl rfl ?_
  refine v_nil ?_
  refine q_n ?_
  refine w_f rfl ?_
  refine w_skip ?_
  refine q_n ?_
  refine w_seq ?_
  refine w_reg rfl ?_
  refine v_fa_pt (off' := 0) lay25 rfl rfl rfl ?_
  refine v_load_pt (.c _) lay2 rfl rfl rfl rfl ?_
  refine v_eql lay2 rfl rfl (fun h4 => ?_) (fun h4 => ?_)
  · refine v_move rfl ?_
    refine v_guard_off rfl rfl rfl ?_
    refine v_guard_off rfl rfl rfl ?_
    refine v_guard_off rfl rfl rfl ?_
    refine v_pick_t (v := .v (.bool true)) rfl rfl ?_
    refine v_assign rfl ?_
    refine v_nil ?_
    refine q_n ?_
    refine w_ret ?_
    refine r_r rfl ?_
    exact a_b (by unfold dOk; first | (simp_all; done) | (simp_all; omega) | grind)
  refine v_move rfl ?_
  refine v_guard_on rfl rfl ?_
  refine v_fa_pt (off' := 2) lay25 rfl rfl rfl ?_
  refine v_guard_on rfl rfl ?_
  refine v_load_pt (.c _) lay2 rfl rfl rfl rfl ?_
  refine v_guard_on rfl rfl ?_
  refine v_eql lay2 rfl rfl (fun h5 => ?_) (fun h5 => ?_)
  · refine v_pick_f rfl rfl ?_
    refine v_assign rfl ?_
    refine v_nil ?_
    refine q_n ?_
    refine w_ret ?_
    refine r_r rfl ?_
    exact a_b (by unfold dOk; first | (simp_all; done) | (simp_all; omega) | grind)
  refine v_pick_f rfl rfl ?_
  refine v_assign rfl ?_
  refine v_nil ?_
  refine q_n ?_
  refine w_ret ?_
  refine r_r rfl ?_
  exact a_b (by unfold dOk; first | (simp_all; done) | (simp_all; omega) | grind)

theorem cDOkI (k a b : Int) : PureC X 24 [.agg (dc k a b)] (cB (decide (dOk k a b))) := by
  refine PureC.of_body (drawD_ok X) (fun _ _ => Go.Proofs.Tryd.call24 _ _) Go.Proofs.Tryd.func24 rfl (n := 26) rfl ?_
  refine w_seq ?_
  refine w_reg rfl ?_
  refine v_box (m := 0) (H' := [_]) lay25 rfl rfl rfl ?_
  refine v_assign (c := .v (.bool false)) rfl ?_
  refine v_nil ?_
  refine q_n ?_
  refine w_seq ?_
  refine w_reg rfl ?_
  refine v_fa_pt (off' := 0) lay25 rfl rfl rfl ?_
  refine v_load_pt (.c _) lay2 rfl rfl rfl rfl ?_
  refine v_callb (cInR _ _ _) rfl rfl (.cons vw_v (.cons vw_v (.cons vw_v .nil))) (fun h1 => ?_) (fun h1 => ?_)
  rotate_left
  · refine v_move rfl ?_
    refine v_guard_off rfl rfl rfl ?_
    refine v_guard_off rfl rfl rfl ?_
    refine v_guard_off rfl rfl rfl ?_
    refine v_pick_f (v := .v (.bool false)) rfl rfl ?_
    refine v_move rfl ?_
    refine v_guard_off rfl rfl rfl ?_
    refine v_guard_off rfl rfl rfl ?_
    refine v_guard_off rfl rfl rfl ?_
    refine v_pick_f (v := .v (.bool false)) rfl rfl ?_
    refine v_move rfl ?_
    refine v_guard_off rfl rfl rfl ?_
    refine v_guard_off rfl rfl rfl ?_
    refine v_guard_off rfl rfl rfl ?_
    refine v_guard_off rfl rfl rfl ?_
    refine v_guard_un rfl rfl ?_
    refine v_guard_un rfl rfl ?_
    refine v_guard_un rfl rfl ?_
    refine v_guard_off rfl rfl rfl ?_
    refine v_pick_f (v := .v (.bool false)) rfl rfl ?_
    refine v_assign rfl ?_
    refine v_nil ?_
    refine q_n ?_
    refine w_ret ?_
    refine r_r rfl ?_
    exact a_b (by unfold dOk; first | (simp_all; done) | (simp_all; omega) | grind)
  refine v_move rfl ?_
  refine v_guard_on rfl rfl ?_
  refine v_fa_pt (off' := 1) lay25 rfl rfl rfl ?_
  refine v_guard_on rfl rfl ?_
  refine v_load_pt (.c _) lay2 rfl rfl rfl rfl ?_
  refine v_guard_on rfl rfl ?_
  refine v_callb (cInR _ _ _) rfl rfl (.cons vw_v (.cons vw_v (.cons vw_v .nil))) (fun h2 => ?_) (fun h2 => ?_)
  rotate_left
  · refine v_pick_t rfl rfl ?_
    refine v_move rfl ?_
    refine v_guard_off rfl rfl rfl ?_
    refine v_guard_off rfl rfl rfl ?_
    refine v_guard_off rfl rfl rfl ?_
    refine v_pick_f (v := .v (.bool false)) rfl rfl ?_
    refine v_move rfl ?_
    refine v_guard_off rfl rfl rfl ?_
    refine v_guard_off rfl rfl rfl ?_
    refine v_guard_off rfl rfl rfl ?_
    refine v_guard_off rfl rfl rfl ?_
    refine v_guard_un rfl rfl ?_
    refine v_guard_un rfl rfl ?_
    refine v_guard_un rfl rfl ?_
    refine v_guard_off rfl rfl rfl ?_
    refine v_pick_f (v := .v (.bool false)) rfl rfl ?_
    refine v_assign rfl ?_
    refine v_nil ?_
    refine q_n ?_
    refine w_ret ?_
    refine r_r rfl ?_
    exact a_b (by unfold dOk; first | (simp_all; done) | (simp_all; omega) | grind)
  refine v_pick_t rfl rfl ?_
  refine v_move rfl ?_
  refine v_guard_on rfl rfl ?_
  refine v_fa_pt (off' := 2) lay25 rfl rfl rfl ?_
  refine v_guard_on rfl rfl ?_
  refine v_load_pt (.c _) lay2 rfl rfl rfl rfl ?_
  refine v_guard_on rfl rfl ?_
  refine v_callb (cInR _ _ _) rfl rfl (.cons vw_v (.cons vw_v (.cons vw_v .nil))) (fun h3 => ?_) (fun h3 => ?_)
  rotate_left
  · refine v_pick_t rfl rfl ?_
    refine v_move rfl ?_
    refine v_guard_off rfl rfl rfl ?_
    refine v_guard_off rfl rfl rfl ?_
    refine v_guard_off rfl rfl rfl ?_
    refine v_guard_off rfl rfl rfl ?_
    refine v_guard_un rfl rfl ?_
    refine v_guard_un rfl rfl ?_
    refine v_guard_un rfl rfl ?_
    refine v_guard_off rfl rfl rfl ?_
    refine v_pick_f (v := .v (.bool false)) rfl rfl ?_
    refine v_assign rfl ?_
    refine v_nil ?_
    refine q_n ?_
    refine w_ret ?_
    refine r_r rfl ?_
    exact a_b (by unfold dOk; first | (simp_all; done) | (simp_all; omega) | grind)
  refine v_pick_t rfl rfl ?_
  refine v_move rfl ?_
  refine v_guard_on rfl rfl ?_
  refine v_fa_pt (off' := 0) lay25 rfl rfl rfl ?_
  refine v_guard_on rfl rfl ?_
  refine v_load_pt (.c _) lay2 rfl rfl rfl rfl ?_
  refine v_guard_on rfl rfl ?_
  refine v_eql lay2 rfl rfl (fun h4 => ?_) (fun h4 => ?_)
  · refine v_guard_on rfl rfl ?_
    refine v_move rfl ?_
    refine v_guard_off rfl rfl rfl ?_
    refine v_guard_off rfl rfl rfl ?_
    refine v_guard_off rfl rfl rfl ?_
    refine v_guard_on rfl rfl ?_
    refine v_pick_t (v := .v (.bool true)) rfl rfl ?_
    refine v_pick_t rfl rfl ?_
    refine v_assign rfl ?_
    refine v_nil ?_
    refine q_n ?_
    refine w_ret ?_
    refine r_r rfl ?_
    exact a_b (by unfold dOk; first | (simp_all; done) | (simp_all; omega) | grind)
  refine v_guard_on rfl rfl ?_
  refine v_move rfl ?_
  refine v_guard_on rfl rfl ?_
  refine v_fa_pt (off' := 2) lay25 rfl rfl rfl ?_
  refine v_guard_on rfl rfl ?_
  refine v_load_pt (.c _) lay2 rfl rfl rfl rfl ?_
  refine v_guard_on rfl rfl ?_
  refine v_eql lay2 rfl rfl (fun h5 => ?_) (fun h5 => ?_)
  · refine v_guard_on rfl rfl ?_
    refine v_pick_f rfl rfl ?_
    refine v_pick_t rfl rfl ?_
    refine v_assign rfl ?_
    refine v_nil ?_
    refine q_n ?_
    refine w_ret ?_
    refine r_r rfl ?_
    exact a_b (by unfold dOk; first | (simp_all; done) | (simp_all; omega) | grind)
  refine v_guard_on rfl rfl ?_
  refine v_pick_f rfl rfl ?_
  refine v_pick_t rfl rfl ?_
  refine v_assign rfl ?_
  refine v_nil ?_
  refine q_n ?_
  refine w_ret ?_
  refine r_r rfl ?_
  exact a_b (by unfold dOk; first | (simp_all; done) | (simp_all; omega) | grind)

theorem cToD (k a b : Int) : PureC X 8 [.agg (dc k a b)] (.agg (dc k a b)) := by
  refine PureC.of_body (drawD_ok X) (fun _ _ => Go.Proofs.Tryd.call8 _ _) Go.Proofs.Tryd.func8 rfl (n := 14) rfl ?_
  refine w_seq ?_
  refine w_reg rfl ?_
  refine v_box (m := 0) (H' := [_]) lay23 rfl rfl rfl ?_
  refine v_alloc (m := 1) (H' := [_, ⟨[.v _, .v _, .v _], 25, true⟩]) lay25 rfl rfl ?_
  refine v_nil ?_
  refine q_n ?_
  refine w_seq ?_
  refine w_reg rfl ?_
  refine v_alloc (m := 2) (H' := [_, _, ⟨[.v _, .v _, .v _], 25, true⟩]) lay25 rfl rfl ?_
  refine v_nil ?_
  refine q_n ?_
  refine w_seq ?_
  refine w_reg rfl ?_
  refine v_fa_pt (off' := 0) lay23 rfl rfl rfl ?_
  refine v_load_pt (.c _) lay2 rfl rfl rfl rfl ?_
  refine v_fa_pt (off' := 0) lay25 rfl rfl rfl ?_
  refine v_store (H' := [_, _, ⟨[_, _, _], 25, true⟩]) lay2 rfl rfl rfl rfl rfl rfl ?_
  refine v_nil ?_
  refine q_n ?_
  refine w_seq ?_
  refine w_reg rfl ?_
  refine v_fa_pt (off' := 1) lay23 rfl rfl rfl ?_
  refine v_load_pt (.c _) lay2 rfl rfl rfl rfl ?_
  refine v_fa_pt (off' := 1) lay25 rfl rfl rfl ?_
  refine v_store (H' := [_, _, ⟨[_, _, _], 25, true⟩]) lay2 rfl rfl rfl rfl rfl rfl ?_
  refine v_nil ?_
  refine q_n ?_
  refine w_seq ?_
  refine w_reg rfl ?_
  refine v_fa_pt (off' := 2) lay23 rfl rfl rfl ?_
  refine v_load_pt (.c _) lay2 rfl rfl rfl rfl ?_
  refine v_fa_pt (off' := 2) lay25 rfl rfl rfl ?_
  refine v_store (H' := [_, _, ⟨[_, _, _], 25, true⟩]) lay2 rfl rfl rfl rfl rfl rfl ?_
  refine v_nil ?_
  refine q_n ?_
  refine w_seq ?_
  refine w_reg rfl ?_
  refine v_load_pt (.agg [_, _, _]) lay25 rfl rfl rfl rfl ?_
  refine v_store (H' := [_, ⟨[_, _, _], 25, true⟩, _]) lay25 rfl rfl rfl rfl rfl rfl ?_
  refine v_nil ?_
  refine q_n ?_
  refine w_ret ?_
  refine r_r rfl ?_
  exact a_agg (.cons tr_v (.cons tr_v (.cons tr_v .nil)))

theorem cWrd : PureC X 22 [] (.tup [.c (.sl true 8 1 (flat st wordS)), .c (.sl true 8 1 (flat int toldS))]) := by
  refine PureC.of_body (drawD_ok X) (fun _ _ => Go.Proofs.Tryd.call22 _ _) Go.Proofs.Tryd.func22 rfl (n := 4) rfl ?_
  refine w_seq ?_
  refine w_reg rfl ?_
  refine v_assign rfl ?_
  refine v_assign rfl ?_
  refine v_nil ?_
  refine q_n ?_
  refine w_seq ?_
  refine w_reg rfl ?_
  refine v_lit (flat st [_, _, _, _, _, _, _, _]) (H' := [_]) lay45 lay9 rfl rfl ⟨by decide, by decide⟩ rfl rfl ?_
  refine v_lit (flat int [_, _, _, _, _, _, _, _]) (H' := [_, _]) lay46 lay3 rfl rfl ⟨by decide, by decide⟩ rfl rfl ?_
  refine v_assign rfl ?_
  refine v_assign rfl ?_
  refine v_nil ?_
  refine q_n ?_
  refine w_ret ?_
  refine r_r rfl ?_
  exact a_tup (.cons (a_flat (xs := wordS) st_sc st_len rfl rfl) (.cons (a_flat (xs := toldS) int_sc int_len rfl rfl) .nil))

theorem cTxS (k a b : Int) : PureC X 7 [.agg (dc k a b)] (cS (dTx k a b)) := by
  refine PureC.of_body (drawD_ok X) (fun _ _ => Go.Proofs.Tryd.call7 _ _) Go.Proofs.Tryd.func7 rfl (n := 36) rfl ?_
  refine w_seq ?_
  refine w_reg rfl ?_
  refine v_box (m := 0) (H' := [_]) lay25 rfl rfl rfl ?_
  refine v_assign (c := .v _) rfl ?_
  refine v_nil ?_
  refine q_n ?_
  refine w_seq ?_
  refine w_seq ?_
  refine w_reg rfl ?_
  refine v_load_pt (.agg [_, _, _]) lay25 rfl rfl rfl rfl ?_
  refine v_callb (cDOkS _ _ _) rfl rfl (.cons (vw_agg (.cons vw_v (.cons vw_v (.cons vw_v .nil)))) .nil) (fun h1 => ?_) (fun h1 => ?_)
  rotate_left
  · refine v_not true rfl rfl ?_
    refine v_nil ?_
    refine q_n ?_
    refine w_t rfl ?_
    refine w_seq ?_
    refine w_reg rfl ?_
    refine v_assign (c := .v _) rfl ?_
    refine v_nil ?_
    refine q_n ?_
    refine w_ret (q_r ?_)
    refine r_r rfl ?_
    exact a_s (dTx_0 h1).symm
  have hO : dOk k a b := h1
  obtain ⟨o1, o2, o3, o4⟩ := id hO
  have lw := wd_len (k := k) (by omega)
  have la := itoa_len (a := a) (by omega)
  have lb := itoa_len (a := b) (by omega)
  refine v_not false rfl rfl ?_
  refine v_nil ?_
  refine q_n ?_
  refine w_f rfl ?_
  refine w_skip ?_
  refine q_n ?_
  refine w_seq ?_
  refine w_reg rfl ?_
  refine v_call (cWrd) rfl rfl rfl .nil ?_
  refine v_move_t rfl ?_
  refine v_extract_c rfl rfl ?_
  refine v_extract_c rfl rfl ?_
  refine v_assign rfl ?_
  refine v_assign rfl ?_
  refine v_nil ?_
  refine q_n ?_
  refine w_seq ?_
  refine w_draw [0, 0, 2, 7, 15, 31, 0, 64, 192, 511, 1023] [⟨0, 0, []⟩, ⟨1, 0, []⟩, ⟨2, 0, []⟩, ⟨3, 0, []⟩, ⟨4, 0, []⟩, ⟨5, 0, []⟩, ⟨6, 0, []⟩, ⟨7, 0, []⟩, ⟨8, 0, []⟩, ⟨9, 0, []⟩, ⟨10, 0, []⟩] rfl rfl ?_
  refine d_q rfl rfl rfl rfl rfl ?_
  refine v_move rfl ?_
  refine v_nil ?_
  refine d_q rfl rfl rfl rfl rfl ?_
  refine v_fa_pt (off' := 0) lay25 rfl rfl rfl ?_
  refine v_nil ?_
  refine d_q rfl rfl rfl rfl rfl ?_
  refine v_load_pt (.c _) lay2 rfl rfl rfl rfl ?_
  refine v_nil ?_
  refine d_q rfl rfl rfl rfl rfl ?_
  refine v_idx_e (k := 1) (k.toNat) st_len lay45 lay9 rfl rfl rfl (rfl) rfl (by omega) (by show k.toNat < 8; omega) ?_
  refine v_nil ?_
  refine d_q rfl rfl rfl rfl rfl ?_
  refine v_load_vw (.c (.v _)) lay9 rfl rfl rfl ?_
  refine v_nil ?_
  refine d_q rfl rfl rfl rfl rfl ?_
  refine v_sadd lay9 rfl rfl (by unfold maxLen; simp only [List.length_cons, List.length_nil, wd_s hO.1]; omega) ?_
  refine v_nil ?_
  refine d_q rfl rfl rfl rfl rfl ?_
  refine v_fa_pt (off' := 1) lay25 rfl rfl rfl ?_
  refine v_nil ?_
  refine d_q rfl rfl rfl rfl rfl ?_
  refine v_load_pt (.c _) lay2 rfl rfl rfl rfl ?_
  refine v_nil ?_
  refine d_call (cDecI _ (by omega)) rfl rfl rfl rfl rfl (.cons vw_v .nil) ?_
  refine d_q rfl rfl rfl rfl rfl ?_
  refine v_sadd lay9 rfl rfl (by unfold maxLen; simp only [List.length_append, List.length_cons, List.length_nil, wd_s hO.1]; omega) ?_
  refine v_nil ?_
  refine d_q rfl rfl rfl rfl rfl ?_
  refine v_assign rfl ?_
  refine v_nil ?_
  refine d_nil ?_
  refine q_n ?_
  refine w_seq ?_
  refine w_seq ?_
  refine w_reg rfl ?_
  refine v_move rfl ?_
  refine v_fa_pt (off' := 0) lay25 rfl rfl rfl ?_
  refine v_load_pt (.c _) lay2 rfl rfl rfl rfl ?_
  refine v_idx_e (k := 1) (k.toNat) int_len lay46 lay3 rfl rfl rfl (rfl) rfl (by omega) (by show k.toNat < 8; omega) ?_
  refine v_load_vw (.c (.v _)) lay3 rfl rfl rfl ?_
  refine v_gtr lay3 rfl rfl (fun h4 => ?_) (fun h4 => ?_)
  rotate_left
  · refine v_nil ?_
    refine q_n ?_
    refine w_f rfl ?_
    refine w_skip ?_
    refine q_n ?_
    refine w_seq ?_
    refine w_reg rfl ?_
    refine v_move rfl ?_
    refine v_assign rfl ?_
    refine v_nil ?_
    refine q_n ?_
    refine w_ret ?_
    refine r_r rfl ?_
    exact a_s (by rw [dTx_2 hO (by have := told_s o1 (by show k.toNat < 8; omega); rw [this] at h4; split at h4 <;> omega), wd_s o1])
  refine v_nil ?_
  refine q_n ?_
  refine w_t rfl ?_
  refine w_reg rfl ?_
  refine v_move rfl ?_
  refine v_fa_pt (off' := 2) lay25 rfl rfl rfl ?_
  refine v_load_pt (.c _) lay2 rfl rfl rfl rfl ?_
  refine v_call (cDecI _ (by omega)) rfl rfl rfl (.cons vw_v .nil) ?_
  refine v_sadd lay9 rfl rfl (by unfold maxLen; simp only [List.length_cons, List.length_nil]; omega) ?_
  refine v_sadd lay9 rfl rfl (by unfold maxLen; simp only [List.length_append, List.length_cons, List.length_nil, wd_s hO.1]; omega) ?_
  refine v_assign rfl ?_
  refine v_nil ?_
  refine q_n ?_
  refine w_seq ?_
  refine w_reg rfl ?_
  refine v_move rfl ?_
  refine v_assign rfl ?_
  refine v_nil ?_
  refine q_n ?_
  refine w_ret ?_
  refine r_r rfl ?_
  exact a_s (by rw [dTx_1 hO (by have := told_s o1 (by show k.toNat < 8; omega); rw [this] at h4; split at h4 <;> omega), wd_s o1])

theorem cTxI (k a b : Int) : PureC X 9 [.agg (dc k a b)] (cS (dTx k a b)) := by
  refine PureC.of_body (drawD_ok X) (fun _ _ => Go.Proofs.Tryd.call9 _ _) Go.Proofs.Tryd.func9 rfl (n := 27) rfl ?_
  refine w_seq ?_
  refine w_reg rfl ?_
  refine v_box (m := 0) (H' := [_]) lay25 rfl rfl rfl ?_
  refine v_assign (c := .v _) rfl ?_
  refine v_nil ?_
  refine q_n ?_
  refine w_seq ?_
  refine w_seq ?_
  refine w_reg rfl ?_
  refine v_load_pt (.agg [_, _, _]) lay25 rfl rfl rfl rfl ?_
  refine v_callb (cDOkI _ _ _) rfl rfl (.cons (vw_agg (.cons vw_v (.cons vw_v (.cons vw_v .nil)))) .nil) (fun h1 => ?_) (fun h1 => ?_)
  rotate_left
  · refine v_not true rfl rfl ?_
    refine v_nil ?_
    refine q_n ?_
    refine w_t rfl ?_
    refine w_seq ?_
    refine w_reg rfl ?_
    refine v_assign (c := .v _) rfl ?_
    refine v_nil ?_
    refine q_n ?_
    refine w_ret (q_r ?_)
    refine r_r rfl ?_
    exact a_s (dTx_0 h1).symm
  have hO : dOk k a b := h1
  obtain ⟨o1, o2, o3, o4⟩ := id hO
  have lw := wd_len (k := k) (by omega)
  have la := itoa_len (a := a) (by omega)
  have lb := itoa_len (a := b) (by omega)
  refine v_not false rfl rfl ?_
  refine v_nil ?_
  refine q_n ?_
  refine w_f rfl ?_
  refine w_skip ?_
  refine q_n ?_
  refine w_seq ?_
  refine w_draw [0, 1, 3, 7, 15, 31, 0, 64, 192, 511, 1023] [⟨0, 0, []⟩, ⟨1, 0, []⟩, ⟨2, 0, []⟩, ⟨3, 0, []⟩, ⟨4, 0, []⟩, ⟨5, 0, []⟩, ⟨6, 0, []⟩, ⟨7, 0, []⟩, ⟨8, 0, []⟩, ⟨9, 0, []⟩, ⟨10, 0, []⟩] rfl rfl ?_
  refine d_q rfl rfl rfl rfl rfl ?_
  refine v_fa_pt (off' := 0) lay25 rfl rfl rfl ?_
  refine v_nil ?_
  refine d_q rfl rfl rfl rfl rfl ?_
  refine v_load_pt (.c _) lay2 rfl rfl rfl rfl ?_
  refine v_nil ?_
  refine d_q rfl rfl rfl rfl rfl ?_
  refine v_sub lay2 rfl rfl (i64r (by omega)) ?_
  refine v_nil ?_
  refine d_q rfl rfl rfl rfl rfl ?_
  refine v_idx_av (k := 1) lay50 lay9 rfl rfl rfl (by omega) (fun qZ hqZ eZ => ?_)
  refine v_nil ?_
  refine d_q rfl rfl rfl rfl rfl ?_
  refine v_load_av (q := qZ) wordL (.c (.v _)) st_len lay9 rfl rfl rfl (by show qZ < 7; omega) rfl ?_
  refine v_nil ?_
  refine d_q rfl rfl rfl rfl rfl ?_
  refine v_sadd lay9 rfl rfl (by unfold maxLen; simp only [List.length_cons, List.length_nil, wd_i hO.1 eZ]; omega) ?_
  refine v_nil ?_
  refine d_q rfl rfl rfl rfl rfl ?_
  refine v_fa_pt (off' := 1) lay25 rfl rfl rfl ?_
  refine v_nil ?_
  refine d_q rfl rfl rfl rfl rfl ?_
  refine v_load_pt (.c _) lay2 rfl rfl rfl rfl ?_
  refine v_nil ?_
  refine d_call (cDeci _ (by omega)) rfl rfl rfl rfl rfl (.cons vw_v .nil) ?_
  refine d_q rfl rfl rfl rfl rfl ?_
  refine v_sadd lay9 rfl rfl (by unfold maxLen; simp only [List.length_append, List.length_cons, List.length_nil, wd_i hO.1 eZ]; omega) ?_
  refine v_nil ?_
  refine d_q rfl rfl rfl rfl rfl ?_
  refine v_assign rfl ?_
  refine v_nil ?_
  refine d_nil ?_
  refine q_n ?_
  refine w_seq ?_
  refine w_seq ?_
  refine w_reg rfl ?_
  refine v_fa_pt (off' := 0) lay25 rfl rfl rfl ?_
  refine v_load_pt (.c _) lay2 rfl rfl rfl rfl ?_
  refine v_eql lay2 rfl rfl (fun h3 => ?_) (fun h3 => ?_)
  rotate_left
  · refine v_nil ?_
    refine q_n ?_
    refine w_f rfl ?_
    refine w_skip ?_
    refine q_n ?_
    refine w_seq ?_
    refine w_reg rfl ?_
    refine v_move rfl ?_
    refine v_assign rfl ?_
    refine v_nil ?_
    refine q_n ?_
    refine w_ret ?_
    refine r_r rfl ?_
    exact a_s (by rw [dTx_2 hO (by omega), wd_i o1 eZ])
  refine v_nil ?_
  refine q_n ?_
  refine w_t rfl ?_
  refine w_reg rfl ?_
  refine v_move rfl ?_
  refine v_fa_pt (off' := 2) lay25 rfl rfl rfl ?_
  refine v_load_pt (.c _) lay2 rfl rfl rfl rfl ?_
  refine v_call (cDeci _ (by omega)) rfl rfl rfl (.cons vw_v .nil) ?_
  refine v_sadd lay9 rfl rfl (by unfold maxLen; simp only [List.length_cons, List.length_nil]; omega) ?_
  refine v_sadd lay9 rfl rfl (by unfold maxLen; simp only [List.length_append, List.length_cons, List.length_nil, wd_i hO.1 eZ]; omega) ?_
  refine v_assign rfl ?_
  refine v_nil ?_
  refine q_n ?_
  refine w_seq ?_
  refine w_reg rfl ?_
  refine v_move rfl ?_
  refine v_assign rfl ?_
  refine v_nil ?_
  refine q_n ?_
  refine w_ret ?_
  refine r_r rfl ?_
  exact a_s (by rw [dTx_1 hO (by omega), wd_i o1 eZ])

theorem cLaw (k a b : Int) : PureC X 3 [.agg (dc k a b)] (cB true) := by
  refine PureC.of_body (drawD_ok X) (fun _ _ => Go.Proofs.Tryd.call3 _ _) Go.Proofs.Tryd.func3 rfl (n := 14) rfl ?_
  refine w_seq ?_
  refine w_reg rfl ?_
  refine v_box (m := 0) (H' := [_]) lay23 rfl rfl rfl ?_
  refine v_assign (c := .v (.bool false)) rfl ?_
  refine v_nil ?_
  refine q_n ?_
  refine w_seq ?_
  refine w_reg rfl ?_
  refine v_load_pt (.agg [_, _, _]) lay23 rfl rfl rfl rfl ?_
  refine v_call (cToD _ _ _) rfl rfl rfl (.cons (vw_agg (.cons vw_v (.cons vw_v (.cons vw_v .nil)))) .nil) ?_
  refine v_call (cTxS _ _ _) rfl rfl rfl (.cons (vw_agg (.cons vw_v (.cons vw_v (.cons vw_v .nil)))) .nil) ?_
  refine v_assign rfl ?_
  refine v_nil ?_
  refine q_n ?_
  refine w_seq ?_
  refine w_reg rfl ?_
  refine v_load_pt (.agg [_, _, _]) lay23 rfl rfl rfl rfl ?_
  refine v_call (cToD _ _ _) rfl rfl rfl (.cons (vw_agg (.cons vw_v (.cons vw_v (.cons vw_v .nil)))) .nil) ?_
  refine v_call (cTxI _ _ _) rfl rfl rfl (.cons (vw_agg (.cons vw_v (.cons vw_v (.cons vw_v .nil)))) .nil) ?_
  refine v_assign rfl ?_
  refine v_nil ?_
  refine q_n ?_
  refine w_seq ?_
  refine w_seq ?_
  refine w_reg rfl ?_
  refine v_move rfl ?_
  refine v_move rfl ?_
  refine v_sneq lay9 rfl rfl (fun h1 => ?_) (fun h1 => ?_)
  · exact absurd rfl h1
  refine v_nil ?_
  refine q_n ?_
  refine w_f rfl ?_
  refine w_skip ?_
  refine q_n ?_
  refine w_seq ?_
  refine w_reg rfl ?_
  refine v_assign (c := .v (.bool true)) rfl ?_
  refine v_nil ?_
  refine q_n ?_
  refine w_ret ?_
  refine r_r rfl ?_
  exact tr_v

theorem cNumT {s : List UInt8} (h : nine s) : PureC X 27 [cS s] (.tup [cI (nineV s), cB true]) := by
  have := cNumS s
  rwa [decide_eq_true h] at this
theorem cNumF {s : List UInt8} (h : ¬ nine s) : PureC X 27 [cS s] (.tup [cI (nineV s), cB false]) := by
  have := cNumS s
  rwa [decide_eq_false h] at this

theorem cRdS (s w0 : List UInt8) (wr : List (List UInt8)) (hs : s.length ≤ 1048576) (hws : splitB 32 s = w0 :: wr) : PureC X 10 [cS s] (dr (rdS w0 wr)) := by
  refine PureC.of_body (drawD_ok X) (fun _ _ => Go.Proofs.Tryd.call10 _ _) Go.Proofs.Tryd.func10 rfl (n := 78) rfl ?_
  have hsp : PureC X 26 [cS s, .c (.v (.int .u8 32))] (.c (.sl true (w0 :: wr).length 1 (flat st (w0 :: wr)))) := hws ▸ cSplitS s 32 hs
  have hk8 := kS_rng w0 8
  have hk7 := kS_lt w0 8 (by decide)
  have hwl := splitB_le 32 s
  rw [hws, List.length_cons] at hwl
  refine w_seq ?_
  refine w_reg rfl ?_
  refine v_alloc (m := 0) (H' := [⟨[.v _, .v _, .v _], 25, true⟩]) lay25 rfl rfl ?_
  refine v_assign (c := .v (.int .i64 0)) rfl ?_
  refine v_nil ?_
  refine q_n ?_
  refine w_seq ?_
  refine w_reg rfl ?_
  refine v_move rfl ?_
  refine v_call (hsp) rfl rfl rfl (.cons vw_v (.cons vw_v .nil)) ?_
  refine v_assign rfl ?_
  refine v_nil ?_
  refine q_n ?_
  refine w_seq ?_
  refine w_reg rfl ?_
  refine v_call (cWrd) rfl rfl rfl .nil ?_
  refine v_move_t rfl ?_
  refine v_extract_c rfl rfl ?_
  refine v_extract_c rfl rfl ?_
  refine v_assign rfl ?_
  refine v_assign rfl ?_
  refine v_nil ?_
  refine q_n ?_
  refine w_seq ?_
  refine w_reg rfl ?_
  refine v_build [(0, 1), (1, 1), (2, 1)] [.v _, .v _, .v _] lay25 rfl rfl ?_
  refine v_alloc (m := 1) (H' := [_, ⟨[.v _, .v _, .v _], 25, true⟩]) lay25 rfl rfl ?_
  refine v_store (H' := [_, ⟨[_, _, _], 25, true⟩]) lay25 rfl rfl rfl rfl rfl rfl ?_
  refine v_nil ?_
  refine q_n ?_
  refine w_seq ?_
  refine w_seq ?_
  refine w_reg rfl ?_
  refine v_assign (c := .v (.int .i64 1)) rfl ?_
  refine v_nil ?_
  refine q_n ?_
  refine w_block ?_
  refine w_loop (fun k sl H => ∃ i : Nat, k = 8 - i ∧ 1 ≤ i ∧ i ≤ 8 ∧ sl = sls [(2, .c (.pt 0 0)), (4, .c (.sl true (w0 :: wr).length 1 (flat st (w0 :: wr)))), (5, .c (.sl true 8 1 (flat st wordS))), (6, .c (.sl true 8 1 (flat int toldS))), (7, .c (.pt 1 0)), (8, cI i)] ∧ H = [⟨dc 0 0 0, 25, true⟩, ⟨dc (kS w0 i) 0 0, 25, true⟩]) ?_ ?_
  · refine ⟨_, _, _, ?_, 1, rfl, Nat.le_refl _, by omega, rfl, rfl⟩
    exact turn [some 0, some 1] rfl rfl rfl ⟨⟨_, rfl, trc_d rfl rfl rfl⟩, ⟨_, rfl, trc_d rfl rfl rfl⟩, trivial⟩ ⟨tr_pt rfl, tr_sl, tr_sl, tr_sl, tr_pt rfl, tr_v, trivial⟩
  rintro k sl H ⟨i, rfl, hi0, hi, rfl, rfl⟩
  refine w_seq ?_
  refine w_seq ?_
  refine w_reg rfl ?_
  refine v_move rfl ?_
  refine v_move rfl ?_
  refine v_len_sl lay45 rfl ?_
  refine v_lss lay3 rfl rfl (fun h1 => ?_) (fun h1 => ?_)
  · have hq8 : i < wordS.length := by show i < 8; omega
    refine v_nil ?_
    refine q_n ?_
    refine w_t rfl ?_
    refine w_skip ?_
    refine q_n ?_
    refine w_seq ?_
    refine w_block ?_
    refine w_seq ?_
    refine w_draw [0, 0, 3, 7, 0, 16, 48, 127] [⟨0, 0, []⟩, ⟨1, 0, []⟩, ⟨2, 0, []⟩, ⟨3, 0, []⟩, ⟨4, 0, []⟩, ⟨5, 0, []⟩, ⟨6, 0, []⟩, ⟨7, 0, []⟩] rfl rfl ?_
    refine d_q rfl rfl rfl rfl rfl ?_
    refine v_move rfl ?_
    refine v_nil ?_
    refine d_q rfl rfl rfl rfl rfl ?_
    refine v_move rfl ?_
    refine v_nil ?_
    refine d_q rfl rfl rfl rfl rfl ?_
    refine v_idx_e (k := 1) (i) st_len lay45 lay9 rfl rfl rfl (rfl) rfl (rfl) (by show i < 8; omega) ?_
    refine v_nil ?_
    refine d_q rfl rfl rfl rfl rfl ?_
    refine v_load_vw (.c (.v _)) lay9 rfl rfl rfl ?_
    refine v_nil ?_
    refine d_q rfl rfl rfl rfl rfl ?_
    refine v_move rfl ?_
    refine v_nil ?_
    refine d_q rfl rfl rfl rfl rfl ?_
    refine v_idx_e (k := 1) (0) st_len lay45 lay9 rfl rfl rfl (rfl) rfl (rfl) (by simp) ?_
    refine v_nil ?_
    refine d_q rfl rfl rfl rfl rfl ?_
    refine v_load_vw (.c (.v _)) lay9 rfl rfl rfl ?_
    refine v_nil ?_
    refine d_q rfl rfl rfl rfl rfl ?_
    refine v_seql lay9 rfl rfl (fun h4 => ?_) (fun h4 => ?_)
    rotate_left
    · have he := h4
      refine v_nil ?_
      refine d_nil ?_
      refine q_n ?_
      refine w_f rfl ?_
      refine w_skip ?_
      refine q_bn ?_
      refine q_n ?_
      refine w_reg rfl ?_
      refine v_move rfl ?_
      refine v_add lay3 rfl rfl (i64r (by omega)) ?_
      refine v_assign rfl ?_
      refine v_nil ?_
      refine q_n ?_
      refine ⟨_, _, _, ?_, ⟨i + 1, rfl, by omega, by omega, rfl, rfl⟩, by omega⟩
      exact turn [some 0, some 1] rfl rfl rfl ⟨⟨_, rfl, trc_d rfl rfl rfl⟩, ⟨_, rfl, trc_d (kS_miss hq8 he) rfl rfl⟩, trivial⟩ ⟨tr_pt rfl, tr_sl, tr_sl, tr_sl, tr_pt rfl, tr_v, trivial⟩
    have he := h4
    refine v_nil ?_
    refine d_nil ?_
    refine q_n ?_
    refine w_t rfl ?_
    refine w_reg rfl ?_
    refine v_move rfl ?_
    refine v_fa_pt (off' := 0) lay25 rfl rfl rfl ?_
    refine v_store (H' := [_, ⟨[_, _, _], 25, true⟩]) lay2 rfl rfl rfl rfl rfl rfl ?_
    refine v_nil ?_
    refine q_bn ?_
    refine q_n ?_
    refine w_reg rfl ?_
    refine v_move rfl ?_
    refine v_add lay3 rfl rfl (i64r (by omega)) ?_
    refine v_assign rfl ?_
    refine v_nil ?_
    refine q_n ?_
    refine ⟨_, _, _, ?_, ⟨i + 1, rfl, by omega, by omega, rfl, rfl⟩, by omega⟩
    exact turn [some 0, some 1] rfl rfl rfl ⟨⟨_, rfl, trc_d rfl rfl rfl⟩, ⟨_, rfl, trc_d (kS_hit hi0 hq8 he) rfl rfl⟩, trivial⟩ ⟨tr_pt rfl, tr_sl, tr_sl, tr_sl, tr_pt rfl, tr_v, trivial⟩
  obtain rfl : i = 8 := by omega
  have hq9 : (kS w0 8).toNat < toldS.length := by show (kS w0 8).toNat < 8; omega
  have htb := told_rng _ hq9
  refine v_nil ?_
  refine q_n ?_
  refine w_f rfl ?_
  refine w_exit ?_
  refine q_e ?_
  refine q_e ?_
  refine q_hit ?_
  refine q_n ?_
  refine w_seq ?_
  refine w_seq ?_
  refine w_reg rfl ?_
  refine v_fa_pt (off' := 0) lay25 rfl rfl rfl ?_
  refine v_load_pt (.c _) lay2 rfl rfl rfl rfl ?_
  refine v_eql lay2 rfl rfl (fun h5 => ?_) (fun h5 => ?_)
  · have hk0 := h5
    refine v_move rfl ?_
    refine v_guard_off rfl rfl rfl ?_
    refine v_guard_off rfl rfl rfl ?_
    refine v_guard_off rfl rfl rfl ?_
    refine v_guard_off rfl rfl rfl ?_
    refine v_guard_off rfl rfl rfl ?_
    refine v_guard_off rfl rfl rfl ?_
    refine v_guard_off rfl rfl rfl ?_
    refine v_guard_off rfl rfl rfl ?_
    refine v_guard_off rfl rfl rfl ?_
    refine v_pick_t (v := .v (.bool true)) rfl rfl ?_
    refine v_nil ?_
    refine q_n ?_
    refine w_t rfl ?_
    refine w_seq ?_
    refine w_reg rfl ?_
    refine v_build [(0, 1), (1, 1), (2, 1)] [.v _, .v _, .v _] lay25 rfl rfl ?_
    refine v_store (H' := [⟨[_, _, _], 25, true⟩, _]) lay25 rfl rfl rfl rfl rfl rfl ?_
    refine v_assign (c := .v (.int .i64 5)) rfl ?_
    refine v_nil ?_
    refine q_n ?_
    refine w_ret (q_r ?_)
    refine r_r rfl ?_
    rw [rdS_b1 hk0]
    exact a_tup (.cons (a_agg (trc_d rfl rfl rfl)) (.cons tr_v .nil))
  have hk0 := h5
  refine v_move rfl ?_
  refine v_guard_on rfl rfl ?_
  refine v_move rfl ?_
  refine v_guard_on rfl rfl ?_
  refine v_len_sl lay45 rfl ?_
  refine v_guard_on rfl rfl ?_
  refine v_move rfl ?_
  refine v_guard_on rfl rfl ?_
  refine v_fa_pt (off' := 0) lay25 rfl rfl rfl ?_
  refine v_guard_on rfl rfl ?_
  refine v_load_pt (.c _) lay2 rfl rfl rfl rfl ?_
  refine v_guard_on rfl rfl ?_
  refine v_idx_e (k := 1) ((kS w0 8).toNat) int_len lay46 lay3 rfl rfl rfl (rfl) rfl (by omega) (by show (kS w0 8).toNat < 8; omega) ?_
  refine v_guard_on rfl rfl ?_
  refine v_load_vw (.c (.v _)) lay3 rfl rfl rfl ?_
  refine v_guard_on rfl rfl ?_
  refine v_add lay3 rfl rfl (i64r (by omega)) ?_
  refine v_guard_on rfl rfl ?_
  refine v_neq lay3 rfl rfl (fun h7 => ?_) (fun h7 => ?_)
  · have hle := h7
    simp only [List.length_cons] at hle
    refine v_pick_f rfl rfl ?_
    refine v_nil ?_
    refine q_n ?_
    refine w_t rfl ?_
    refine w_seq ?_
    refine w_reg rfl ?_
    refine v_build [(0, 1), (1, 1), (2, 1)] [.v _, .v _, .v _] lay25 rfl rfl ?_
    refine v_store (H' := [⟨[_, _, _], 25, true⟩, _]) lay25 rfl rfl rfl rfl rfl rfl ?_
    refine v_assign (c := .v (.int .i64 5)) rfl ?_
    refine v_nil ?_
    refine q_n ?_
    refine w_ret (q_r ?_)
    refine r_r rfl ?_
    rw [rdS_b2 hq9 hle]
    exact a_tup (.cons (a_agg (trc_d rfl rfl rfl)) (.cons tr_v .nil))
  have hle := h7
  simp only [List.length_cons] at hle
  refine v_pick_f rfl rfl ?_
  refine v_nil ?_
  refine q_n ?_
  refine w_f rfl ?_
  refine w_skip ?_
  refine q_n ?_
  refine w_seq ?_
  refine w_seq ?_
  refine w_reg rfl ?_
  refine v_assign (c := .v (.int .i64 1)) rfl ?_
  refine v_nil ?_
  refine q_n ?_
  refine w_block ?_
  refine w_loop (fun k sl H => ∃ j : Nat, k = wr.length - j ∧ j ≤ wr.length ∧ (∀ w ∈ wr.take j, nine w) ∧ sl = sls [(2, .c (.pt 0 0)), (4, .c (.sl true (w0 :: wr).length 1 (flat st (w0 :: wr)))), (7, .c (.pt 1 0)), (9, cI (j + 1 : Nat))] ∧ H = [⟨dc 0 0 0, 25, true⟩, ⟨dc (kS w0 8) (av wr (j + 1)) (bv wr (j + 1)), 25, true⟩]) ?_ ?_
  · refine ⟨_, _, _, ?_, 0, rfl, Nat.zero_le _, (fun w hw => by simp at hw), rfl, rfl⟩
    exact turn [some 0, some 1] rfl rfl rfl ⟨⟨_, rfl, trc_d rfl rfl rfl⟩, ⟨_, rfl, trc_d rfl rfl rfl⟩, trivial⟩ ⟨tr_pt rfl, tr_sl, tr_pt rfl, tr_v, trivial⟩
  rintro k sl H ⟨j, rfl, hj, hn, rfl, rfl⟩
  refine w_seq ?_
  refine w_seq ?_
  refine w_reg rfl ?_
  refine v_move rfl ?_
  refine v_move rfl ?_
  refine v_len_sl lay45 rfl ?_
  refine v_lss lay3 rfl rfl (fun h8 => ?_) (fun h8 => ?_)
  rotate_left
  · obtain rfl : j = wr.length := by have := h8; simp only [List.length_cons] at this; omega
    obtain ⟨ea, eb⟩ := av_end (wr := wr) rfl
    refine v_nil ?_
    refine q_n ?_
    refine w_f rfl ?_
    refine w_exit ?_
    refine q_e ?_
    refine q_e ?_
    refine q_hit ?_
    refine q_n ?_
    refine w_seq ?_
    refine w_seq ?_
    refine w_reg rfl ?_
    refine v_load_pt (.agg [_, _, _]) lay25 rfl rfl rfl rfl ?_
    refine v_callb (cDOkS _ _ _) rfl rfl (.cons (vw_agg (.cons vw_v (.cons vw_v (.cons vw_v .nil)))) .nil) (fun h12 => ?_) (fun h12 => ?_)
    rotate_left
    · have hdo := h12
      refine v_not true rfl rfl ?_
      refine v_nil ?_
      refine q_n ?_
      refine w_t rfl ?_
      refine w_seq ?_
      refine w_reg rfl ?_
      refine v_build [(0, 1), (1, 1), (2, 1)] [.v _, .v _, .v _] lay25 rfl rfl ?_
      refine v_store (H' := [⟨[_, _, _], 25, true⟩, _]) lay25 rfl rfl rfl rfl rfl rfl ?_
      refine v_assign (c := .v (.int .i64 5)) rfl ?_
      refine v_nil ?_
      refine q_n ?_
      refine w_ret (q_r ?_)
      refine r_r rfl ?_
      rw [ea, eb] at hdo
      rw [rdS_b4 hdo]
      exact a_tup (.cons (a_agg (trc_d rfl rfl rfl)) (.cons tr_v .nil))
    have hdo := h12
    refine v_not false rfl rfl ?_
    refine v_nil ?_
    refine q_n ?_
    refine w_f rfl ?_
    refine w_skip ?_
    refine q_n ?_
    refine w_seq ?_
    refine w_reg rfl ?_
    refine v_load_pt (.agg [_, _, _]) lay25 rfl rfl rfl rfl ?_
    refine v_store (H' := [⟨[_, _, _], 25, true⟩, _]) lay25 rfl rfl rfl rfl rfl rfl ?_
    refine v_assign (c := .v (.int .i64 0)) rfl ?_
    refine v_nil ?_
    refine q_n ?_
    refine w_ret ?_
    refine r_r rfl ?_
    rw [List.take_length] at hn
    rw [ea, eb] at hdo
    rw [rdS_ok hk0 hq9 hle hn hdo]
    exact a_tup (.cons (a_agg (trc_d rfl ea eb)) (.cons tr_v .nil))
  have hj1 : j < wr.length := by have := h8; simp only [List.length_cons] at this; omega
  refine v_nil ?_
  refine q_n ?_
  refine w_t rfl ?_
  refine w_skip ?_
  refine q_n ?_
  refine w_seq ?_
  refine w_block ?_
  refine w_seq ?_
  refine w_reg rfl ?_
  refine v_move rfl ?_
  refine v_move rfl ?_
  refine v_idx_e (k := 1) (j + 1) st_len lay45 lay9 rfl rfl rfl (rfl) rfl (rfl) (by simp only [List.length_cons]; omega) ?_
  refine v_load_vw (.c (.v _)) lay9 rfl rfl rfl ?_
  refine dec_split (p := nine (wr[j])) (fun h10 => ?_) (fun h10 => ?_)
  rotate_left
  · refine v_call (cNumF h10) rfl rfl rfl (.cons vw_v .nil) ?_
    refine v_move_t rfl ?_
    refine v_extract_c rfl rfl ?_
    refine v_extract_c rfl rfl ?_
    refine v_assign rfl ?_
    refine v_assign rfl ?_
    refine v_nil ?_
    refine q_n ?_
    refine w_seq ?_
    refine w_seq ?_
    refine w_reg rfl ?_
    refine v_move rfl ?_
    refine v_not true rfl rfl ?_
    refine v_nil ?_
    refine q_n ?_
    refine w_t rfl ?_
    refine w_seq ?_
    refine w_reg rfl ?_
    refine v_build [(0, 1), (1, 1), (2, 1)] [.v _, .v _, .v _] lay25 rfl rfl ?_
    refine v_store (H' := [⟨[_, _, _], 25, true⟩, _]) lay25 rfl rfl rfl rfl rfl rfl ?_
    refine v_assign (c := .v (.int .i64 5)) rfl ?_
    refine v_nil ?_
    refine q_n ?_
    refine w_ret (q_r (q_br (q_r (q_r (q_br (q_r ?_))))))
    refine r_r rfl ?_
    rw [rdS_b3 (List.getElem_mem hj1) (by assumption)]
    exact a_tup (.cons (a_agg (trc_d rfl rfl rfl)) (.cons tr_v .nil))
  refine v_call (cNumT h10) rfl rfl rfl (.cons vw_v .nil) ?_
  refine v_move_t rfl ?_
  refine v_extract_c rfl rfl ?_
  refine v_extract_c rfl rfl ?_
  refine v_assign rfl ?_
  refine v_assign rfl ?_
  refine v_nil ?_
  refine q_n ?_
  refine w_seq ?_
  refine w_seq ?_
  refine w_reg rfl ?_
  refine v_move rfl ?_
  refine v_not false rfl rfl ?_
  refine v_nil ?_
  refine q_n ?_
  refine w_f rfl ?_
  refine w_skip ?_
  refine q_n ?_
  refine w_seq ?_
  refine w_reg rfl ?_
  refine v_move rfl ?_
  refine v_eql lay3 rfl rfl (fun h11 => ?_) (fun h11 => ?_)
  · refine v_nil ?_
    refine q_n ?_
    refine w_t rfl ?_
    refine w_reg rfl ?_
    refine v_move rfl ?_
    refine v_fa_pt (off' := 1) lay25 rfl rfl rfl ?_
    refine v_store (H' := [_, ⟨[_, _, _], 25, true⟩]) lay2 rfl rfl rfl rfl rfl rfl ?_
    refine v_nil ?_
    refine q_bn ?_
    refine q_n ?_
    refine w_reg rfl ?_
    refine v_move rfl ?_
    refine v_add lay3 rfl rfl (i64r (by omega)) ?_
    refine v_assign rfl ?_
    refine v_nil ?_
    refine q_n ?_
    refine ⟨_, _, _, ?_, ⟨j + 1, rfl, by omega, all_step hj1 hn (by assumption), rfl, rfl⟩, by omega⟩
    exact turn [some 0, some 1] rfl rfl rfl ⟨⟨_, rfl, trc_d rfl rfl rfl⟩, ⟨_, rfl, trc_d rfl (av_hit (by omega) hj1) (bv_0 (by omega))⟩, trivial⟩ ⟨tr_pt rfl, tr_sl, tr_pt rfl, tr_v, trivial⟩
  refine v_nil ?_
  refine q_n ?_
  refine w_f rfl ?_
  refine w_reg rfl ?_
  refine v_move rfl ?_
  refine v_fa_pt (off' := 2) lay25 rfl rfl rfl ?_
  refine v_store (H' := [_, ⟨[_, _, _], 25, true⟩]) lay2 rfl rfl rfl rfl rfl rfl ?_
  refine v_nil ?_
  refine q_bn ?_
  refine q_n ?_
  refine w_reg rfl ?_
  refine v_move rfl ?_
  refine v_add lay3 rfl rfl (i64r (by omega)) ?_
  refine v_assign rfl ?_
  refine v_nil ?_
  refine q_n ?_
  refine ⟨_, _, _, ?_, ⟨j + 1, rfl, by omega, all_step hj1 hn (by assumption), rfl, rfl⟩, by omega⟩
  exact turn [some 0, some 1] rfl rfl rfl ⟨⟨_, rfl, trc_d rfl rfl rfl⟩, ⟨_, rfl, trc_d rfl (av_1 (by omega)) (bv_hit (by omega) hj1)⟩, trivial⟩ ⟨tr_pt rfl, tr_sl, tr_pt rfl, tr_v, trivial⟩

theorem cRdI (s w0 : List UInt8) (wr : List (List UInt8)) (hs : s.length ≤ 1048576) (hws : splitB 32 s = w0 :: wr) : PureC X 11 [cS s] (dr (rdI s w0 wr)) := by
  refine PureC.of_body (drawD_ok X) (fun _ _ => Go.Proofs.Tryd.call11 _ _) Go.Proofs.Tryd.func11 rfl (n := 47) rfl ?_
  have hsl : LiveC X 28 [cS s, cS [32]] (.c (.mu 0 0 (w0 :: wr).length 1)) [⟨flat st (w0 :: wr), 9, true⟩] := hws ▸ cSplit s 32 hs
  have hw : ∀ x ∈ ((w0 :: wr) ++ [[], []]), x.length ≤ 1048576 := fun x hm => by
    rcases List.mem_append.1 hm with hm | hm
    · rw [← hws] at hm
      exact Nat.le_trans (splitB_part 32 s _ hm) hs
    · obtain rfl : x = [] := by simpa using hm
      exact Nat.zero_le _
  have hwl := splitB_le 32 s
  rw [hws, List.length_cons] at hwl
  have hX : ((w0 :: wr) ++ [[], []]).length = wr.length + 3 := by simp
  have hfx := fix_rng (fun x => w0 = x) wordL
  have p1 := pn_rng (wr.getD 0 [])
  have p2 := pn_rng (wr.getD 1 [])
  refine w_seq ?_
  refine w_reg rfl ?_
  refine v_alloc (m := 0) (H' := [⟨[.v _, .v _, .v _], 25, true⟩]) lay25 rfl rfl ?_
  refine v_assign (c := .v (.int .i64 0)) rfl ?_
  refine v_nil ?_
  refine q_n ?_
  refine w_seq ?_
  refine w_reg rfl ?_
  refine v_move rfl ?_
  refine v_live1 (N := 1) (H' := [_, _]) (hsl) (sc_flat st_sc _) rfl rfl rfl rfl rfl rfl (.cons vw_v (.cons vw_v .nil)) ?_
  refine v_lit (flat st [_, _]) (H' := [_, _, _]) lay45 lay9 rfl rfl ⟨by decide, by decide⟩ rfl rfl ?_
  refine v_app_flat (H' := [_, _, _, _]) st_sc st_len lay45 lay9 rfl rfl (by first | rfl | (simp; done)) rfl rfl (by first | rfl | (simp; done)) rfl rfl (by unfold maxLen; simp only [List.length_cons]; omega) rfl rfl ?_
  refine v_assign rfl ?_
  refine v_nil ?_
  refine q_n ?_
  refine w_seq ?_
  refine w_draw [0, 0, 2, 6, 15, 31, 63, 0, 255] [⟨0, 0, []⟩, ⟨1, 0, []⟩, ⟨2, 0, []⟩, ⟨3, 0, []⟩, ⟨4, 0, []⟩, ⟨5, 0, []⟩, ⟨6, 0, []⟩, ⟨7, 1, [0, 3, 4]⟩, ⟨8, 1, []⟩] rfl rfl ?_
  refine d_q rfl rfl rfl rfl rfl ?_
  refine v_slice_av (k := 1) (cs' := flat st wordL) lay50 lay9 rfl rfl (by decide) (by unfold maxLen; omega) (Nat.le_of_ble_eq_true rfl) rfl ?_
  refine v_nil ?_
  refine d_q rfl rfl rfl rfl rfl ?_
  refine v_move rfl ?_
  refine v_nil ?_
  refine d_q rfl rfl rfl rfl rfl ?_
  refine v_idx_mu_e (k := 1) (off := 0) (0) lay45 lay9 rfl rfl rfl (rfl) (by omega) ?_
  refine v_nil ?_
  refine d_q rfl rfl rfl rfl rfl ?_
  refine v_load_flat 0 0 (.c (.v _)) st_len lay9 rfl rfl (by omega) (by omega) rfl rfl ?_
  refine v_nil ?_
  refine d_call (cIxW wordL _ (by decide)) rfl rfl rfl rfl rfl (.cons vw_sl (.cons vw_v .nil)) ?_
  refine d_q rfl rfl rfl rfl rfl ?_
  refine v_add lay2 rfl rfl (i64r (by show _ ≤ fix (fun x => w0 = x) wordL + 1 ∧ fix (fun x => w0 = x) wordL + 1 ≤ _; have h7 : wordL.length = 7 := rfl; omega)) ?_
  refine v_nil ?_
  refine d_q rfl rfl rfl rfl rfl ?_
  refine v_build [(0, 1), (1, 1), (2, 1)] [.v _, .v _, .v _] lay25 rfl rfl ?_
  refine v_nil ?_
  refine d_e rfl rfl rfl ?_
  refine v_alloc (m := 4) (H' := [_, _, _, _, ⟨[.v _, .v _, .v _], 25, true⟩]) lay25 rfl rfl ?_
  refine v_nil ⟨⟨ag_if rfl (ag_call (cIxW wordL _ (by decide)) rfl rfl rfl (.cons vw_sl (.cons vw_v .nil))), ⟨ag_load_flat 0 0 (.c (.v _)) st_len lay9 rfl rfl (by omega) (by omega) rfl rfl, ⟨ag_slice_av (k := 1) (cs' := flat st wordL) lay50 lay9 rfl rfl (by decide) (by unfold maxLen; omega) (Nat.le_of_ble_eq_true rfl) rfl, trivial⟩⟩⟩, ?_⟩
  refine d_e rfl rfl rfl ?_
  refine v_store (H' := [_, _, _, _, ⟨[_, _, _], 25, true⟩]) lay25 rfl rfl rfl rfl rfl rfl ?_
  refine v_nil ⟨again_nil, ?_⟩
  refine d_nil ?_
  refine q_n ?_
  refine w_seq ?_
  refine w_reg rfl ?_
  refine v_move rfl ?_
  refine v_idx_mu_e (k := 1) (off := 0) (1) lay45 lay9 rfl rfl rfl (rfl) (by simp only [List.length_cons]; omega) ?_
  refine v_load_flat 1 0 (.c (.v _)) st_len lay9 rfl rfl (by omega) (by omega) rfl rfl ?_
  refine v_call (cNum _ (hw _ (List.getElem_mem _))) rfl rfl rfl (.cons vw_v .nil) ?_
  refine v_move_t rfl ?_
  refine v_extract_c rfl rfl ?_
  refine v_extract_c rfl rfl ?_
  refine v_fa_pt (off' := 1) lay25 rfl rfl rfl ?_
  refine v_store (H' := [_, _, _, _, ⟨[_, _, _], 25, true⟩]) lay2 rfl rfl rfl rfl rfl rfl ?_
  refine v_nil ?_
  refine q_n ?_
  refine w_seq ?_
  refine w_seq ?_
  refine w_reg rfl ?_
  refine v_fa_pt (off' := 0) lay25 rfl rfl rfl ?_
  refine v_load_pt (.c _) lay2 rfl rfl rfl rfl ?_
  refine v_eql lay2 rfl rfl (fun h3 => ?_) (fun h3 => ?_)
  rotate_left
  · have hk : ¬ kI w0 = 1 := h3
    refine v_nil ?_
    refine q_n ?_
    refine w_f rfl ?_
    refine w_skip ?_
    refine q_n ?_
    refine w_seq ?_
    refine w_seq ?_
    refine w_reg rfl ?_
    refine v_load_pt (.agg [_, _, _]) lay25 rfl rfl rfl rfl ?_
    refine v_callb (cDOkI _ _ _) rfl rfl (.cons (vw_agg (.cons vw_v (.cons vw_v (.cons vw_v .nil)))) .nil) (fun h7 => ?_) (fun h7 => ?_)
    rotate_left
    · have hv := h7
      refine v_not true rfl rfl ?_
      refine v_move rfl ?_
      refine v_guard_off rfl rfl rfl ?_
      refine v_guard_off rfl rfl rfl ?_
      refine v_guard_off rfl rfl rfl ?_
      refine v_guard_off rfl rfl rfl ?_
      refine v_pick_t (v := .v (.bool true)) rfl rfl ?_
      refine v_nil ?_
      refine q_n ?_
      refine w_t rfl ?_
      refine w_seq ?_
      refine w_reg rfl ?_
      refine v_build [(0, 1), (1, 1), (2, 1)] [.v _, .v _, .v _] lay25 rfl rfl ?_
      refine v_store (H' := [⟨[_, _, _], 25, true⟩, _, _, _, _]) lay25 rfl rfl rfl rfl rfl rfl ?_
      refine v_assign (c := .v (.int .i64 5)) rfl ?_
      refine v_nil ?_
      refine q_n ?_
      refine w_ret (q_r ?_)
      refine r_r rfl ?_
      rw [rdI_bn hk (ext_get w0 wr (by omega)) (fun hh => hv hh.1)]
      exact a_tup (.cons (a_agg (trc_d rfl rfl rfl)) (.cons tr_v .nil))
    have hv := h7
    refine v_not false rfl rfl ?_
    refine v_move rfl ?_
    refine v_guard_on rfl rfl ?_
    refine v_load_pt (.agg [_, _, _]) lay25 rfl rfl rfl rfl ?_
    refine v_guard_on rfl rfl ?_
    refine v_call (cTxI _ _ _) rfl rfl rfl (.cons (vw_agg (.cons vw_v (.cons vw_v (.cons vw_v .nil)))) .nil) ?_
    refine v_guard_on rfl rfl ?_
    refine v_move rfl ?_
    refine v_guard_on rfl rfl ?_
    refine v_sneq lay9 rfl rfl (fun h8 => ?_) (fun h8 => ?_)
    rotate_left
    · have ht := h8
      refine v_pick_f rfl rfl ?_
      refine v_nil ?_
      refine q_n ?_
      refine w_f rfl ?_
      refine w_skip ?_
      refine q_n ?_
      refine w_seq ?_
      refine w_reg rfl ?_
      refine v_load_pt (.agg [_, _, _]) lay25 rfl rfl rfl rfl ?_
      refine v_store (H' := [⟨[_, _, _], 25, true⟩, _, _, _, _]) lay25 rfl rfl rfl rfl rfl rfl ?_
      refine v_assign (c := .v (.int .i64 0)) rfl ?_
      refine v_nil ?_
      refine q_n ?_
      refine w_ret ?_
      refine r_r rfl ?_
      rw [rdI_b hk (ext_get w0 wr (by omega)) hv ht]
      exact a_tup (.cons (a_agg (trc_d rfl rfl rfl)) (.cons tr_v .nil))
    have ht := h8
    refine v_pick_f rfl rfl ?_
    refine v_nil ?_
    refine q_n ?_
    refine w_t rfl ?_
    refine w_seq ?_
    refine w_reg rfl ?_
    refine v_build [(0, 1), (1, 1), (2, 1)] [.v _, .v _, .v _] lay25 rfl rfl ?_
    refine v_store (H' := [⟨[_, _, _], 25, true⟩, _, _, _, _]) lay25 rfl rfl rfl rfl rfl rfl ?_
    refine v_assign (c := .v (.int .i64 5)) rfl ?_
    refine v_nil ?_
    refine q_n ?_
    refine w_ret (q_r ?_)
    refine r_r rfl ?_
    rw [rdI_bn hk (ext_get w0 wr (by omega)) (fun hh => ht hh.2)]
    exact a_tup (.cons (a_agg (trc_d rfl rfl rfl)) (.cons tr_v .nil))
  have hk : kI w0 = 1 := h3
  refine v_nil ?_
  refine q_n ?_
  refine w_t rfl ?_
  refine w_reg rfl ?_
  refine v_move rfl ?_
  refine v_idx_mu_e (k := 1) (off := 0) (2) lay45 lay9 rfl rfl rfl (rfl) (by simp only [List.length_cons]; omega) ?_
  refine v_load_flat 2 0 (.c (.v _)) st_len lay9 rfl rfl (by omega) (by omega) rfl rfl ?_
  refine v_call (cNum _ (hw _ (List.getElem_mem _))) rfl rfl rfl (.cons vw_v .nil) ?_
  refine v_move_t rfl ?_
  refine v_extract_c rfl rfl ?_
  refine v_extract_c rfl rfl ?_
  refine v_fa_pt (off' := 2) lay25 rfl rfl rfl ?_
  refine v_store (H' := [_, _, _, _, ⟨[_, _, _], 25, true⟩]) lay2 rfl rfl rfl rfl rfl rfl ?_
  refine v_nil ?_
  refine q_n ?_
  refine w_seq ?_
  refine w_seq ?_
  refine w_reg rfl ?_
  refine v_load_pt (.agg [_, _, _]) lay25 rfl rfl rfl rfl ?_
  refine v_callb (cDOkI _ _ _) rfl rfl (.cons (vw_agg (.cons vw_v (.cons vw_v (.cons vw_v .nil)))) .nil) (fun h5 => ?_) (fun h5 => ?_)
  rotate_left
  · have hv := h5
    refine v_not true rfl rfl ?_
    refine v_move rfl ?_
    refine v_guard_off rfl rfl rfl ?_
    refine v_guard_off rfl rfl rfl ?_
    refine v_guard_off rfl rfl rfl ?_
    refine v_guard_off rfl rfl rfl ?_
    refine v_pick_t (v := .v (.bool true)) rfl rfl ?_
    refine v_nil ?_
    refine q_n ?_
    refine w_t rfl ?_
    refine w_seq ?_
    refine w_reg rfl ?_
    refine v_build [(0, 1), (1, 1), (2, 1)] [.v _, .v _, .v _] lay25 rfl rfl ?_
    refine v_store (H' := [⟨[_, _, _], 25, true⟩, _, _, _, _]) lay25 rfl rfl rfl rfl rfl rfl ?_
    refine v_assign (c := .v (.int .i64 5)) rfl ?_
    refine v_nil ?_
    refine q_n ?_
    refine w_ret (q_r ?_)
    refine r_r rfl ?_
    rw [rdI_an hk (ext_get w0 wr (by omega)) (ext_get2 w0 wr (by omega)) (fun hh => hv hh.1)]
    exact a_tup (.cons (a_agg (trc_d rfl rfl rfl)) (.cons tr_v .nil))
  have hv := h5
  refine v_not false rfl rfl ?_
  refine v_move rfl ?_
  refine v_guard_on rfl rfl ?_
  refine v_load_pt (.agg [_, _, _]) lay25 rfl rfl rfl rfl ?_
  refine v_guard_on rfl rfl ?_
  refine v_call (cTxI _ _ _) rfl rfl rfl (.cons (vw_agg (.cons vw_v (.cons vw_v (.cons vw_v .nil)))) .nil) ?_
  refine v_guard_on rfl rfl ?_
  refine v_move rfl ?_
  refine v_guard_on rfl rfl ?_
  refine v_sneq lay9 rfl rfl (fun h6 => ?_) (fun h6 => ?_)
  rotate_left
  · have ht := h6
    refine v_pick_f rfl rfl ?_
    refine v_nil ?_
    refine q_n ?_
    refine w_f rfl ?_
    refine w_skip ?_
    refine q_n ?_
    refine w_seq ?_
    refine w_reg rfl ?_
    refine v_load_pt (.agg [_, _, _]) lay25 rfl rfl rfl rfl ?_
    refine v_store (H' := [⟨[_, _, _], 25, true⟩, _, _, _, _]) lay25 rfl rfl rfl rfl rfl rfl ?_
    refine v_assign (c := .v (.int .i64 0)) rfl ?_
    refine v_nil ?_
    refine q_n ?_
    refine w_ret ?_
    refine r_r rfl ?_
    rw [rdI_a hk (ext_get w0 wr (by omega)) (ext_get2 w0 wr (by omega)) hv ht]
    exact a_tup (.cons (a_agg (trc_d rfl rfl rfl)) (.cons tr_v .nil))
  have ht := h6
  refine v_pick_f rfl rfl ?_
  refine v_nil ?_
  refine q_n ?_
  refine w_t rfl ?_
  refine w_seq ?_
  refine w_reg rfl ?_
  refine v_build [(0, 1), (1, 1), (2, 1)] [.v _, .v _, .v _] lay25 rfl rfl ?_
  refine v_store (H' := [⟨[_, _, _], 25, true⟩, _, _, _, _]) lay25 rfl rfl rfl rfl rfl rfl ?_
  refine v_assign (c := .v (.int .i64 5)) rfl ?_
  refine v_nil ?_
  refine q_n ?_
  refine w_ret (q_r ?_)
  refine r_r rfl ?_
  rw [rdI_an hk (ext_get w0 wr (by omega)) (ext_get2 w0 wr (by omega)) (fun hh => ht hh.2)]
  exact a_tup (.cons (a_agg (trc_d rfl rfl rfl)) (.cons tr_v .nil))

theorem cEqD (k a b k2 a2 b2 : Int) : PureC X 12 [.agg (dc k a b), .agg (dc k2 a2 b2)] (cB (decide (k = k2 ∧ a = a2 ∧ b = b2))) := by
  refine PureC.of_body (drawD_ok X) (fun _ _ => Go.Proofs.Tryd.call12 _ _) Go.Proofs.Tryd.func12 rfl (n := 20) rfl ?_
  refine w_seq ?_
  refine w_reg rfl ?_
  refine v_box (m := 0) (H' := [_]) lay25 rfl rfl rfl ?_
  refine v_box (m := 1) (H' := [_, _]) lay25 rfl rfl rfl ?_
  refine v_assign (c := .v (.bool false)) rfl ?_
  refine v_nil ?_
  refine q_n ?_
  refine w_seq ?_
  refine w_seq ?_
  refine w_reg rfl ?_
  refine v_fa_pt (off' := 0) lay25 rfl rfl rfl ?_
  refine v_load_pt (.c _) lay2 rfl rfl rfl rfl ?_
  refine v_fa_pt (off' := 0) lay25 rfl rfl rfl ?_
  refine v_load_pt (.c _) lay2 rfl rfl rfl rfl ?_
  refine v_neq lay2 rfl rfl (fun h1 => ?_) (fun h1 => ?_)
  · refine v_nil ?_
    refine q_n ?_
    refine w_t rfl ?_
    refine w_seq ?_
    refine w_reg rfl ?_
    refine v_assign (c := .v (.bool false)) rfl ?_
    refine v_nil ?_
    refine q_n ?_
    refine w_ret (q_r ?_)
    refine r_r rfl ?_
    exact a_b (by simp_all)
  refine v_nil ?_
  refine q_n ?_
  refine w_f rfl ?_
  refine w_skip ?_
  refine q_n ?_
  refine w_seq ?_
  refine w_seq ?_
  refine w_reg rfl ?_
  refine v_fa_pt (off' := 1) lay25 rfl rfl rfl ?_
  refine v_load_pt (.c _) lay2 rfl rfl rfl rfl ?_
  refine v_fa_pt (off' := 1) lay25 rfl rfl rfl ?_
  refine v_load_pt (.c _) lay2 rfl rfl rfl rfl ?_
  refine v_neq lay2 rfl rfl (fun h2 => ?_) (fun h2 => ?_)
  · refine v_nil ?_
    refine q_n ?_
    refine w_t rfl ?_
    refine w_seq ?_
    refine w_reg rfl ?_
    refine v_assign (c := .v (.bool false)) rfl ?_
    refine v_nil ?_
    refine q_n ?_
    refine w_ret (q_r ?_)
    refine r_r rfl ?_
    exact a_b (by simp_all)
  refine v_nil ?_
  refine q_n ?_
  refine w_f rfl ?_
  refine w_skip ?_
  refine q_n ?_
  refine w_seq ?_
  refine w_seq ?_
  refine w_reg rfl ?_
  refine v_fa_pt (off' := 2) lay25 rfl rfl rfl ?_
  refine v_load_pt (.c _) lay2 rfl rfl rfl rfl ?_
  refine v_fa_pt (off' := 2) lay25 rfl rfl rfl ?_
  refine v_load_pt (.c _) lay2 rfl rfl rfl rfl ?_
  refine v_neq lay2 rfl rfl (fun h3 => ?_) (fun h3 => ?_)
  · refine v_nil ?_
    refine q_n ?_
    refine w_t rfl ?_
    refine w_seq ?_
    refine w_reg rfl ?_
    refine v_assign (c := .v (.bool false)) rfl ?_
    refine v_nil ?_
    refine q_n ?_
    refine w_ret (q_r ?_)
    refine r_r rfl ?_
    exact a_b (by simp_all)
  refine v_nil ?_
  refine q_n ?_
  refine w_f rfl ?_
  refine w_skip ?_
  refine q_n ?_
  refine w_seq ?_
  refine w_reg rfl ?_
  refine v_assign (c := .v (.bool true)) rfl ?_
  refine v_nil ?_
  refine q_n ?_
  refine w_ret ?_
  refine r_r rfl ?_
  exact a_b (by simp_all)
end Go.VL
namespace Go.VL
theorem itoa_free {a : Int} (h : 0 ≤ a) : ∀ x ∈ itoa a, x ≠ 32 := by
  obtain ⟨n, rfl⟩ := Int.eq_ofNat_of_zero_le h
  rw [itoa_nat]
  intro x hx e
  have := (dec_digs n).1 x hx
  subst e
  exact absurd this (by decide)
theorem wd_free {k : Int} (h : 1 ≤ k ∧ k ≤ 7) : ∀ x ∈ wd k, x ≠ 32 := by
  rcases kinds h with rfl | rfl | rfl | rfl | rfl | rfl | rfl <;> decide
theorem split_1 {k a b : Int} (h : dOk k a b) (h1 : k = 1) : splitB 32 (dTx k a b) = [wd k, itoa a, itoa b] := by
  rw [dTx_1 h h1]
  have e : ((wd k ++ [32]) ++ itoa a) ++ ([32] ++ itoa b) = wd k ++ 32 :: (itoa a ++ 32 :: itoa b) := by simp
  rw [e, splitB_app (wd_free h.1), splitB_app (itoa_free h.2.1.1), splitB_none (itoa_free h.2.2.1.1)]
theorem split_2 {k a b : Int} (h : dOk k a b) (h1 : ¬ k = 1) : splitB 32 (dTx k a b) = [wd k, itoa a] := by
  rw [dTx_2 h h1]
  have e : (wd k ++ [32]) ++ itoa a = wd k ++ 32 :: itoa a := by simp
  rw [e, splitB_app (wd_free h.1), splitB_none (itoa_free h.2.1.1)]
theorem kS_wd {k : Int} (h : 1 ≤ k ∧ k ≤ 7) : kS (wd k) 8 = k := by
  rcases kinds h with rfl | rfl | rfl | rfl | rfl | rfl | rfl <;> decide
theorem kI_wd {k : Int} (h : 1 ≤ k ∧ k ≤ 7) : kI (wd k) = k := by
  rcases kinds h with rfl | rfl | rfl | rfl | rfl | rfl | rfl <;> decide
theorem wd_kS (l : List UInt8) : ∀ i : Nat, kS l i ≠ 0 → l = wd (kS l i) ∧ 1 ≤ kS l i
  | 0, h => absurd rfl h
  | i + 1, h => by
    have ih := wd_kS l i
    unfold kS at h ⊢
    split at h
    · rename_i hc
      rw [if_pos hc]
      refine ⟨?_, by omega⟩
      unfold wd
      rw [Int.toNat_natCast]
      exact hc.2.symm
    · rename_i hc
      rw [if_neg hc]
      exact ih h
theorem pn_itoa {a : Int} (h : 0 ≤ a ∧ a ≤ 999) : pn (itoa a) = a := by
  obtain ⟨n, rfl⟩ := Int.eq_ofNat_of_zero_le h.1
  unfold pn
  rw [itoa_nat, parse_dec (by omega)]
theorem nine_dec {n : Nat} (h : n < 1000000000) : nine (Lib.decDigits n) := by
  obtain ⟨h1, h2, h3, h4⟩ := dec_digs n
  refine ⟨h3, ?_, fun e => ?_, h1⟩
  · have hk : ∀ (k n : Nat), 0 < k → n < 10 ^ k → (Lib.decDigits n).length ≤ k := by
      intro k
      induction k with
      | zero => intro n h0; omega
      | succ k ih =>
        intro n _ hn
        by_cases h : n < 10
        · rw [Lib.decDigits_one h]; simp
        · rw [dec_unsnoc h, List.length_append]
          have hk : 0 < k := by
            rcases Nat.eq_zero_or_pos k with rfl | h1
            · exact absurd hn (by omega)
            · exact h1
          have := ih (n / 10) hk (by rw [Nat.pow_succ] at hn; omega)
          simp only [List.length_cons, List.length_nil]
          omega
    exact hk 9 n (by decide) (by omega)
  · rw [h4 e, Lib.decDigits_one (by decide)]
    rfl
theorem nineV_itoa {a : Int} (h : 0 ≤ a ∧ a ≤ 999) : nine (itoa a) ∧ nineV (itoa a) = a := by
  obtain ⟨n, rfl⟩ := Int.eq_ofNat_of_zero_le h.1
  rw [itoa_nat]
  have hn := nine_dec (n := n) (by omega)
  refine ⟨hn, ?_⟩
  rw [nine_yes hn, (dec_digs n).2.1]
theorem itoa_nine {s : List UInt8} (h : nine s) : itoa (nineV s) = s := by
  rw [nine_yes h, itoa_nat]
  exact (dec_numL s.length s rfl h.1 h.2.2.2 h.2.2.1).1
theorem rdI_good {k a b : Int} (h : dOk k a b) {r : List (List UInt8)} (hr : r = if k = 1 then [itoa b] else []) : rdI (dTx k a b) (wd k) (itoa a :: r) = ((k, a, b), 0) := by
  have e1 : kI (wd k) = k := kI_wd h.1
  have e2 : pn (List.getD (itoa a :: r) 0 []) = a := pn_itoa h.2.1
  have e3 : bI (wd k) (itoa a :: r) = b := by
    unfold bI
    rw [e1]
    by_cases h1 : k = 1
    · rw [if_pos h1] at hr ⊢
      subst hr
      exact pn_itoa h.2.2.1
    · rw [if_neg h1]
      have := h.2.2.2
      omega
  unfold rdI
  rw [e1, e2, e3, if_pos ⟨h, rfl⟩]
theorem rdS_good {k a b : Int} (h : dOk k a b) {r : List (List UInt8)} (hr : r = if k = 1 then [itoa b] else []) : rdS (wd k) (itoa a :: r) = ((k, a, b), 0) := by
  have e1 : kS (wd k) 8 = k := kS_wd h.1
  obtain ⟨n1, v1⟩ := nineV_itoa h.2.1
  obtain ⟨n2, v2⟩ := nineV_itoa h.2.2.1
  have ht : (((itoa a :: r).length : Nat) : Int) = toldS.getD k.toNat 0 := by
    subst hr
    rcases kinds h.1 with rfl | rfl | rfl | rfl | rfl | rfl | rfl <;> rfl
  have hb : nineV (List.getD (itoa a :: r) 1 []) = b := by
    by_cases h1 : k = 1
    · rw [if_pos h1] at hr
      subst hr
      exact v2
    · rw [if_neg h1] at hr
      subst hr
      have := h.2.2.2
      show nineV [] = b
      rw [nineV_nil]
      omega
  have ha : nineV (List.getD (itoa a :: r) 0 []) = a := v1
  have hn : ∀ w ∈ itoa a :: r, nine w := by
    intro w hw
    rcases List.mem_cons.1 hw with rfl | hw
    · exact n1
    · subst hr
      split at hw
      · obtain rfl : w = itoa b := by simpa using hw
        exact n2
      · cases hw
  unfold rdS
  rw [e1, if_neg (by rw [← ht]; have := h.1; omega), ha, hb, if_pos ⟨hn, h⟩]
/-- Both read the same. -/
theorem rd_eq {s w0 : List UInt8} {wr : List (List UInt8)} (hws : splitB 32 s = w0 :: wr) : rdI s w0 wr = rdS w0 wr := by
  by_cases hg : ∃ k a b, dOk k a b ∧ dTx k a b = s
  · obtain ⟨k, a, b, h, rfl⟩ := hg
    have e : splitB 32 (dTx k a b) = wd k :: itoa a :: (if k = 1 then [itoa b] else []) := by
      by_cases h1 : k = 1
      · rw [split_1 h h1, if_pos h1]
      · rw [split_2 h h1, if_neg h1]
    rw [e] at hws
    injection hws with e1 e2
    subst e1 e2
    rw [rdI_good h rfl, rdS_good h rfl]
  · have e1 : rdI s w0 wr = bad := by
      unfold rdI
      rw [if_neg (fun hh => hg ⟨_, _, _, hh.1, hh.2⟩)]
    rw [e1]
    unfold rdS
    split
    · rfl
    · rename_i h1
      split
      · rename_i h2
        exfalso
        refine hg ⟨_, _, _, h2.2, ?_⟩
        have h3 : kS w0 8 ≠ 0 := fun e => h1 (.inl e)
        have h4 : ((wr.length : Nat) : Int) = toldS.getD (kS w0 8).toNat 0 := Decidable.byContradiction fun e => h1 (.inr e)
        have h5 := (wd_kS w0 8 h3).1
        have hj := join_split 32 s
        rw [hws] at hj
        have hk := h2.2.1
        generalize hkk : kS w0 8 = k at *
        by_cases hk1 : k = 1
        · have hl : wr.length = 2 := by
            rw [hk1] at h4
            have : ((wr.length : Nat) : Int) = 2 := h4
            omega
          match wr, hl with
          | [x, y], _ =>
            rw [dTx_1 h2.2 hk1, ← h5, ← hj]
            show ((w0 ++ [32]) ++ itoa (nineV x)) ++ ([32] ++ itoa (nineV y)) = w0 ++ 32 :: (x ++ 32 :: y)
            rw [itoa_nine (h2.1 x (by simp)), itoa_nine (h2.1 y (by simp))]
            simp
        · have hl : wr.length = 1 := by
            have : toldS.getD k.toNat 0 = 1 := by
              rcases kinds hk with rfl | rfl | rfl | rfl | rfl | rfl | rfl
              · exact absurd rfl hk1
              all_goals rfl
            rw [this] at h4
            omega
          match wr, hl with
          | [x], _ =>
            rw [dTx_2 h2.2 hk1, ← h5, ← hj]
            show (w0 ++ [32]) ++ itoa (nineV x) = w0 ++ 32 :: x
            rw [itoa_nine (h2.1 x (by simp))]
            simp
      · rfl
end Go.VL
namespace Go.VL
open Go.RowKit
set_option maxRecDepth 20000
set_option maxHeartbeats 8000000
/-- What is read of a word. -/
def rd (s : List UInt8) : D4 := match splitB 32 s with
  | [] => bad
  | w0 :: wr => rdS w0 wr
variable [Inhabited Env]
theorem cRd1 (s : List UInt8) (hs : s.length ≤ 1048576) : PureC X 10 [cS s] (dr (rd s)) := by
  cases h : splitB 32 s with
  | nil => exact absurd h (splitB_ne 32 s)
  | cons w0 wr =>
    unfold rd
    rw [h]
    exact cRdS s w0 wr hs h
theorem cRd2 (s : List UInt8) (hs : s.length ≤ 1048576) : PureC X 11 [cS s] (dr (rd s)) := by
  cases h : splitB 32 s with
  | nil => exact absurd h (splitB_ne 32 s)
  | cons w0 wr =>
    unfold rd
    rw [h]
    show PureC X 11 [cS s] (dr (rdS w0 wr))
    rw [← rd_eq h]
    exact cRdI s w0 wr hs h

theorem cLaw4 (s : List UInt8) : PureC X 4 [cS s] (cB true) := by
  refine PureC.of_body (drawD_ok X) (fun _ _ => Go.Proofs.Tryd.call4 _ _) Go.Proofs.Tryd.func4 rfl (n := 29) rfl ?_
  refine w_seq ?_
  refine w_reg rfl ?_
  refine v_assign (c := .v (.bool false)) rfl ?_
  refine v_nil ?_
  refine q_n ?_
  refine w_seq ?_
  refine w_seq ?_
  refine w_reg rfl ?_
  refine v_move rfl ?_
  refine v_len_s lay9 rfl ?_
  refine v_gtr lay3 rfl rfl (fun h1 => ?_) (fun h1 => ?_)
  · refine v_nil ?_
    refine q_n ?_
    refine w_t rfl ?_
    refine w_seq ?_
    refine w_reg rfl ?_
    refine v_assign (c := .v (.bool true)) rfl ?_
    refine v_nil ?_
    refine q_n ?_
    refine w_ret (q_r ?_)
    refine r_r rfl ?_
    exact tr_v
  have hs : s.length ≤ 1048576 := by have := h1; have h0 : (tx s).size = s.length := rfl; omega
  refine v_nil ?_
  refine q_n ?_
  refine w_f rfl ?_
  refine w_skip ?_
  refine q_n ?_
  refine w_seq ?_
  refine w_reg rfl ?_
  refine v_move rfl ?_
  refine v_call (cRd1 _ hs) rfl rfl rfl (.cons vw_v .nil) ?_
  refine v_move_t rfl ?_
  refine v_extract_a rfl rfl ?_
  refine v_extract_c rfl rfl ?_
  refine v_alloc (m := 0) (H' := [⟨[.v _, .v _, .v _], 25, true⟩]) lay25 rfl rfl ?_
  refine v_store (H' := [⟨[_, _, _], 25, true⟩]) lay25 rfl rfl rfl rfl rfl rfl ?_
  refine v_assign rfl ?_
  refine v_nil ?_
  refine q_n ?_
  refine w_seq ?_
  refine w_reg rfl ?_
  refine v_move rfl ?_
  refine v_call (cRd2 _ hs) rfl rfl rfl (.cons vw_v .nil) ?_
  refine v_move_t rfl ?_
  refine v_extract_a rfl rfl ?_
  refine v_extract_c rfl rfl ?_
  refine v_alloc (m := 1) (H' := [_, ⟨[.v _, .v _, .v _], 25, true⟩]) lay25 rfl rfl ?_
  refine v_store (H' := [_, ⟨[_, _, _], 25, true⟩]) lay25 rfl rfl rfl rfl rfl rfl ?_
  refine v_assign rfl ?_
  refine v_nil ?_
  refine q_n ?_
  refine w_seq ?_
  refine w_seq ?_
  refine w_reg rfl ?_
  refine v_load_pt (.agg [_, _, _]) lay25 rfl rfl rfl rfl ?_
  refine v_load_pt (.agg [_, _, _]) lay25 rfl rfl rfl rfl ?_
  refine v_callb (cEqD _ _ _ _ _ _) rfl rfl (.cons (vw_agg (.cons vw_v (.cons vw_v (.cons vw_v .nil)))) (.cons (vw_agg (.cons vw_v (.cons vw_v (.cons vw_v .nil)))) .nil)) (fun h2 => ?_) (fun h2 => ?_)
  rotate_left
  · exact absurd ⟨rfl, rfl, rfl⟩ h2
  refine v_not false rfl rfl ?_
  refine v_move rfl ?_
  refine v_guard_on rfl rfl ?_
  refine v_move rfl ?_
  refine v_guard_on rfl rfl ?_
  refine v_move rfl ?_
  refine v_guard_on rfl rfl ?_
  refine v_neq lay2 rfl rfl (fun h3 => ?_) (fun h3 => ?_)
  · exact absurd rfl h3
  refine v_pick_f rfl rfl ?_
  refine v_nil ?_
  refine q_n ?_
  refine w_f rfl ?_
  refine w_skip ?_
  refine q_n ?_
  refine w_seq ?_
  refine w_reg rfl ?_
  refine v_assign (c := .v (.bool true)) rfl ?_
  refine v_nil ?_
  refine q_n ?_
  refine w_ret ?_
  refine r_r rfl ?_
  exact tr_v
end Go.VL
namespace Go.Proofs.YtinnefdhocdmmaaDoor
namespace B0
open Go.RowKit Go.WideShapes Go.ChangeShapes Go.ChangeAt
section
variable {H : Type} {enc : TypeId × Value → H} {P : Program}

theorem post_of_below {f : Func} {s : ChangeSpec} {apart fresh handsOn again : Bool} {W W' : World} {args : Array Value} {v : Value} {ds gs : List (DataW H)} {before pa pv : List MemPlace}
    (hW : DataW.Whole enc P f.params.toList s.vars apart W args.toList ds gs before)
    (hres : ∀ (b : Nat) (sp : Nat → Bool) (hd : Bool), DataW.TrodAll enc P W' b sp hd f.resultTypes.toList (v.resultList f.resultTypes.size) (s.fn H (ds ++ gs)).results [])
    (hargs : ∀ sp : Nat → Bool, (∀ p ∈ before, sp p.block = true) → DataW.TrodAll enc P W' 0 sp true f.params.toList args.toList (s.fn H (ds ++ gs)).args pa)
    (hvars : ∀ sp : Nat → Bool, (∀ p ∈ before, sp p.block = true) → DataW.TrodVars enc P W' sp s.vars (s.fn H (ds ++ gs)).vars pv)
    (hps : before = pa ++ pv) (hb : Below W.heap.size W W')
    (hok : ∀ (j : Nat) (t : TypeId) (r : Value), f.resultTypes[j]? = some t → (v.resultList f.resultTypes.size)[j]? = some r → Value.okWide P W' .any 0 t r) :
    s.post enc P f apart fresh handsOn again W args v W' := by
  have hlt : ∀ p ∈ before, p.block < W.heap.size := fun p hp => hW.lt p hp
  have hold : ∀ p ∈ before, (fun b => decide (b < W.heap.size)) p.block = true := fun p hp => by simpa using hlt p hp
  refine ⟨ds, gs, before, [], pa, pv, hW, hres _ _ _, hargs _ hold, hvars _ hold, World.keptBut_mono (fun p hp => ⟨hp, ?_⟩) (hb.frame (· ∈ before)), fun _ => ?_⟩
  · rw [hps, List.mem_append] at hp
    exact Or.inr hp
  · obtain ⟨_, _, _, _, _, hz, hn⟩ := hW
    refine ⟨hok, _, _, ([] ++ pa) ++ pv, ⟨[] ++ pa, pv, trodAll_append (hargs _ (fun _ _ => rfl)) (hres _ _ _), hvars _ (fun _ _ => rfl), rfl, ?_, ?_⟩, ?_⟩
    · intro b off hp
      have hin : MemPlace.cell b off ∈ before := by rw [hps]; simpa using hp
      rw [hb.frozen (hlt _ hin)]
      exact hz b off hin
    · intro ha
      have := hn ha
      rw [hps] at this
      simpa using this
    · intro p hp _
      rw [hps]
      simpa using hp

theorem trodAll_stays (hl : laidOutB P = true) {W W' : World} {sp' : Nat → Bool} : ∀ {ts : List TypeId} {vs : List Value} {ds : List (DataW H)} {ps : List MemPlace},
    (∀ t ∈ ts, P.readableRec t = true ∧ t < P.types.size) → DataW.TrodAll enc P W 0 (fun _ => true) true ts vs ds ps → (∀ p ∈ ps, W.sameAt W' p) → (∀ p ∈ ps, sp' p.block = true) →
    DataW.TrodAll enc P W' 0 sp' true ts vs ds ps
  | [], vs, ds, ps, _, h, _, _ => by
    obtain ⟨rfl, rfl, rfl⟩ := trodAll_nil h
    exact rfl
  | t :: ts, vs, ds, ps, ht, h, hsame, hsp => by
    obtain ⟨v, vs', d, ds', p, q, rfl, rfl, rfl, h0, h1⟩ := trodAll_cons h
    exact ⟨p, q, Go.WideElems.Trod_stays hl (ht t (by simp)).1 (ht t (by simp)).2 h0 (fun x hx => hsame x (by simp [hx])) (fun x hx => hsp x (by simp [hx])),
      trodAll_stays hl (fun u hu => ht u (by simp [hu])) h1 (fun x hx => hsame x (by simp [hx])) (fun x hx => hsp x (by simp [hx])), rfl⟩

/-- A law: whatever the arguments, the call returns true and turns nothing that was there. -/
theorem lift {C : Checked} {os : Os} {f : FuncId} {fn : Func} {s : ChangeSpec} {conds : List PathCond} {tb : TypeId}
    (own : ownKnob C.prog.godebug = none) (started : os.Started) (noInit : C.prog.inits.idxOf? f = none) (hfn : C.prog.funcs[f]? = some fn)
    (witness : ∃ (w : World) (tape : Tape) (i : Input), w.os = os ∧ (w.forCall tape i).Shaped C.prog ∧ i.vars = [] ∧ Input.okWide C.prog (w.forCall tape i) .any w.heap.size f i ∧
      s.pre6 enc C.prog fn conds false (w.forCall tape i).memory i.args ∧ ({} : Assume).holds C.prog (lone (Frame.enter C.prog f i.args .normal) [] (w.forCall tape i)))
    (hl : laidOutB C.prog = true) (hp : (fn.params.toList.all fun t => C.prog.readableRec t && decide (t < C.prog.types.size)) = true)
    (hv : s.vars = []) (hr : fn.resultTypes = #[tb]) (htb : C.prog.underlying tb = some .bool)
    (hs : ∀ ds : List (DataW H), ds.length = fn.params.toList.length → s.fn H ds = { results := [.lit (.bool true)], args := ds })
    (contract : ∀ (W : World) (base : Nat) (args : Array Value) (ds : List (DataW H)) (p : List MemPlace),
      (∀ (j : Nat) t v, fn.params[j]? = some t → args[j]? = some v → Value.okWide C.prog W .any base t v) →
      DataW.TrodAll enc C.prog W 0 (fun _ => true) true fn.params.toList args.toList ds p →
      Calls C.prog f args W fun e W' => e = .returned (.bool true) ∧ Below W.heap.size W W') :
    ReturnsInHanded {} C os f .any (s.pre6 enc C.prog fn conds false) (s.post enc C.prog fn false true false false) := by
  refine returnsInHanded_of_change own started noInit hfn witness ?_
  intro W base args ds gs before hval hW _ _
  have hW' := hW
  obtain ⟨p, q, hA, hV, rfl, hfz, hnd⟩ := hW
  rw [hv] at hV
  obtain ⟨rfl, rfl⟩ := trodVars_none hV
  have hlen : ∀ {ts : List TypeId} {vs : List Value} {ds : List (DataW H)} {ps : List MemPlace}, DataW.TrodAll enc C.prog W 0 (fun _ => true) true ts vs ds ps → ds.length = ts.length := by
    intro ts
    induction ts with
    | nil => intro vs ds ps h; obtain ⟨rfl, rfl, rfl⟩ := trodAll_nil h; rfl
    | cons t ts ih => intro vs ds ps h; obtain ⟨v, vs', d, ds', p, q, rfl, rfl, rfl, h0, h1⟩ := trodAll_cons h; simp [ih h1]
  have hsd : s.fn H (ds ++ []) = { results := [.lit (.bool true)], args := ds } := by rw [List.append_nil]; exact hs ds (hlen hA)
  have hp' : ∀ t ∈ fn.params.toList, C.prog.readableRec t = true ∧ t < C.prog.types.size := fun t ht => by simpa using List.all_eq_true.1 hp t ht
  refine (contract W base args ds p hval hA).mono fun e W' ⟨he, hb⟩ => ?_
  refine ⟨.bool true, he, post_of_below (pa := p) (pv := []) hW' ?_ ?_ ?_ rfl hb ?_⟩
  · intro b sp hd
    rw [hsd, hr]
    exact trodAll_mk1 ⟨1, by simp [DataW.trod, Value.cells, htb]⟩
  · intro sp hsp
    rw [hsd]
    exact trodAll_stays hl hp' hA (fun x hx => hb.same (hW'.lt x (by simp [hx]))) (fun x hx => hsp x (by simp [hx]))
  · intro sp hsp
    rw [hsd, hv]
    exact rfl
  · exact ok_one hr rfl (okWide_bool_mk htb true)
end
end B0
end Go.Proofs.YtinnefdhocdmmaaDoor
namespace Go.Proofs.YtinnefdhocdmmaaDoor
namespace B0
open Go.RowKit Go.WideShapes Go.ChangeShapes Go.ChangeAt Go.WideElems
section
variable {H : Type} {enc : TypeId × Value → H} {P : Program}

/-- The named variables' types can be read. -/
def rowed (P : Program) (ns : List String) : Bool := ns.all fun n => ((P.globalNamed n).bind (P.globals[·]?)).all fun gl => P.readableRec gl.type && decide (gl.type < P.types.size)

theorem trodVars_stays (hl : laidOutB P = true) {W W' : World} {sp' : Nat → Bool} (hb : Below W.heap.size W W') :
    ∀ {ns : List String} {gs : List (DataW H)} {ps : List MemPlace}, rowed P ns = true → DataW.TrodVars enc P W (fun _ => true) ns gs ps → (∀ p ∈ ps, sp' p.block = true) → DataW.TrodVars enc P W' sp' ns gs ps
  | [], [], _, _, h, _ => h
  | [], _ :: _, _, _, h, _ => h.elim
  | _ :: _, [], _, _, h, _ => h.elim
  | n :: ns, d :: ds, ps, hv, h, hsp => by
    have hlt := h.lt
    obtain ⟨g, t, cs, fuel, p, q, h1, h2, h3, h4, hs, e⟩ := h
    simp only [rowed, List.all_cons, Bool.and_eq_true] at hv
    have ht : P.readableRec t = true ∧ t < P.types.size := by
      have := hv.1
      rw [h1] at this
      cases hg : P.globals[g]? with
      | none => rw [hg] at h2; cases h2
      | some gl =>
        rw [hg] at h2
        obtain rfl : gl.type = t := Option.some.inj h2
        simpa [hg] using this
    have hp : ∀ x ∈ p, x.block < W.heap.size := fun x hx => hlt x (by rw [e]; simp [hx])
    have h3' : W'.var? P n = some cs := by
      unfold World.var? at h3 ⊢
      rw [h1] at h3 ⊢
      simp only [Option.bind_some] at h3 ⊢
      have hg : g < W.heap.size := by
        cases hh : W.heap[g]? with
        | none => rw [hh] at h3; cases h3
        | some o => exact (Array.getElem?_eq_some_iff.1 hh).1
      rw [hb.block g hg]; exact h3
    exact ⟨g, t, cs, fuel, p, q, h1, h2, h3', DataW.trod_stays (kids_book hl ht.1) (book_sized ht.1) (fun h => by cases h) ⟨ht.2, book_self t⟩ h4 (fun x hx => hb.same (hp x hx)) (fun x hx => hsp x (by rw [e]; simp [hx])),
      trodVars_stays hl hb (by simpa [rowed] using hv.2) hs (fun x hx => hsp x (by rw [e]; simp [hx])), e⟩

/-- A law over listed variables: whatever the arguments, the call returns true and turns nothing that was there. -/
theorem liftL {C : Checked} {os : Os} {f : FuncId} {fn : Func} {s : ChangeSpec} {conds : List PathCond} {tb : TypeId} {laid : List (String × DataW Unit)}
    (own : ownKnob C.prog.godebug = none) (started : os.Started) (noInit : C.prog.inits.idxOf? f = none) (hfn : C.prog.funcs[f]? = some fn)
    (witness : ∃ (w : World) (tape : Tape) (i : Input), w.os = os ∧ (w.forCall tape i).Shaped C.prog ∧ i.vars = [] ∧ Input.okWide C.prog (w.forCall tape i) .any w.heap.size f i ∧
      ((s.pre enc C.prog fn conds false (w.forCall tape i).memory i.args ∧ laidMetH C.prog laid (w.forCall tape i).memory) ∧ sizedMet enc C.prog fn (OpenSpec.ofChange s) false (w.forCall tape i).memory i.args) ∧ ({} : Assume).holds C.prog (lone (Frame.enter C.prog f i.args .normal) [] (w.forCall tape i)))
    (hl : laidOutB C.prog = true) (hp : (fn.params.toList.all fun t => C.prog.readableRec t && decide (t < C.prog.types.size)) = true)
    (hv : rowed C.prog s.vars = true) (hr : fn.resultTypes = #[tb]) (htb : C.prog.underlying tb = some .bool) (hplain : (laid.all fun x => x.2.handleName?.isNone) = true)
    (hs : ∀ ds gs : List (DataW H), ds.length = fn.params.toList.length → gs.length = s.vars.length → s.fn H (ds ++ gs) = { results := [.lit (.bool true)], args := ds, vars := gs })
    (contract : ∀ (W : World) (base : Nat) (args : Array Value) (ds : List (DataW H)) (p : List MemPlace), laidMet C.prog laid W →
      (∀ (j : Nat) t v, fn.params[j]? = some t → args[j]? = some v → Value.okWide C.prog W .any base t v) →
      DataW.TrodAll enc C.prog W 0 (fun _ => true) true fn.params.toList args.toList ds p →
      Calls C.prog f args W fun e W' => e = .returned (.bool true) ∧ Below W.heap.size W W') :
    ReturnsInHanded {} C os f .any (fun w args => (s.pre enc C.prog fn conds false w args ∧ laidMetH C.prog laid w) ∧ sizedMet enc C.prog fn (OpenSpec.ofChange s) false w args) (s.post enc C.prog fn false true false false) := by
  refine returnsInHanded_of_change_and (X := fun w _ => laidMetH C.prog laid w) (fun _ _ _ hh h => by rw [MakeChecks.laidMetH_plain _ _ _ hplain] at h ⊢; exact laidMet.of_heap hh h) own started noInit hfn witness ?_
  intro W base args ds gs before hval hW _ _ hL _
  rw [MakeChecks.laidMetH_plain _ _ _ hplain] at hL
  have hW' := hW
  obtain ⟨p, q, hA, hV, rfl, hfz, hnd⟩ := hW
  have hlen : ∀ {ts : List TypeId} {vs : List Value} {ds : List (DataW H)} {ps : List MemPlace}, DataW.TrodAll enc C.prog W 0 (fun _ => true) true ts vs ds ps → ds.length = ts.length := by
    intro ts
    induction ts with
    | nil => intro vs ds ps h; obtain ⟨rfl, rfl, rfl⟩ := trodAll_nil h; rfl
    | cons t ts ih => intro vs ds ps h; obtain ⟨v, vs', d, ds', p, q, rfl, rfl, rfl, h0, h1⟩ := trodAll_cons h; simp [ih h1]
  have hlenV : ∀ {ns : List String} {gs : List (DataW H)} {ps : List MemPlace}, DataW.TrodVars enc C.prog W (fun _ => true) ns gs ps → gs.length = ns.length := by
    intro ns
    induction ns with
    | nil =>
      intro gs ps h
      cases gs with
      | nil => rfl
      | cons _ _ => exact h.elim
    | cons n ns ih =>
      intro gs ps h
      cases gs with
      | nil => exact h.elim
      | cons d gs =>
        obtain ⟨g, t, cs, fuel, p, q, -, -, -, -, h5, -⟩ := h
        simp [ih h5]
  have hsd := hs ds gs (hlen hA) (hlenV hV)
  have hp' : ∀ t ∈ fn.params.toList, C.prog.readableRec t = true ∧ t < C.prog.types.size := fun t ht => by simpa using List.all_eq_true.1 hp t ht
  refine (contract W base args ds p hL hval hA).mono fun e W' ⟨he, hb⟩ => ?_
  refine ⟨.bool true, he, post_of_below (pa := p) (pv := q) hW' ?_ ?_ ?_ rfl hb ?_⟩
  · intro b sp hd
    rw [hsd, hr]
    exact trodAll_mk1 ⟨1, by simp [DataW.trod, Value.cells, htb]⟩
  · intro sp hsp
    rw [hsd]
    exact trodAll_stays hl hp' hA (fun x hx => hb.same (hW'.lt x (by simp [hx]))) (fun x hx => hsp x (by simp [hx]))
  · intro sp hsp
    rw [hsd]
    exact trodVars_stays hl hb hv hV (fun x hx => hsp x (by simp [hx]))
  · exact ok_one hr rfl (okWide_bool_mk htb true)
end
end B0
end Go.Proofs.YtinnefdhocdmmaaDoor
